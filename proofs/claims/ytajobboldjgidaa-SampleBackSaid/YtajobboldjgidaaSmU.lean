/- The planes of a picture. -/
import Derived.Test.YtajobboldjgidaaSmT
namespace Go.Proofs.Ytajobboldjgidaa
open Go.RowKit
open Go.Tin
set_option linter.unusedVariables false
set_option linter.unusedSimpArgs false


/-- Planes of the call's own. -/
def OwnP (w : World) (B : Nat) (xs : List Value) (L : List Pn) : Prop := PnV (fun v d => Own .i64 3 w B v d) xs L
theorem OwnP.keep {w w' : World} {B : Nat} {xs : List Value} {L : List Pn} (h : OwnP w B xs L) (hb : Below w.heap.size w w') : OwnP w' B xs L := PnV.mono (fun _ _ h => h.keep hb) h
theorem ownv_row_apart {e t : TypeId} {sz : Nat} {w : World} {B n g : Nat} {v : Value} {xs : List Value} {cs : Array Value} (h : OwnV e sz w B v n xs) (hr : w.heap[g]? = some (.cells cs t (0, 0))) (hne : t ≠ e) : v.ownBlock ≠ some g := by
  intro hv
  rcases h.2 with ⟨rfl, _⟩ | ⟨g', cap, cur, rfl, _, hh, _⟩
  · cases hv
  · have e1 : g' = g := Option.some.inj hv
    subst e1
    rw [hr] at hh
    injection hh with hh
    injection hh with _ hh
    exact hne hh
theorem brought_n (wd ht : Nat) (v : List Int) (h s n : Nat) (A : Option Addr) (c : Nat) (w : World) (hn : v.length = n) (hs : Sl .i64 w A v) (hm : mayP (wd : Int) (ht : Int) v = true) (hh : 1 ≤ h ∧ h ≤ 2) (hv : 1 ≤ s ∧ s ≤ 2) :
    Calls Try.prog 49 #[plA (wd : Int) (ht : Int) A n c, .int .i64 (h : Int), .int .i64 (s : Int)] w fun e w' => ∃ A' c', e = .returned (plA (ptN wd h : Nat) (ptN ht s : Nat) A' (ptN wd h * ptN ht s) c') ∧
      Own .i64 3 w' w.heap.size (.slice A' (ptN wd h * ptN ht s) c') (grid (dnV (wd : Int) (ht : Int) v h s) (ptN wd h) (ptN ht s)) ∧ Below w.heap.size w w' := by
  subst hn
  exact brought_any wd ht v h s A c w hs hm hh hv
/-- The planes of a picture, by its bytes. -/
def plO (l : List Int) (wd ht h s c : Nat) : Pn :=
  if c = 0 then ⟨(wd : Int), (ht : Int), grid (pcV l wd 0) wd ht⟩ else ⟨(ptN wd h : Nat), (ptN ht s : Nat), grid (dnV (wd : Int) (ht : Int) (grid (pcV l wd c) wd ht) h s) (ptN wd h) (ptN ht s)⟩
def plL (l : List Int) (wd ht h s : Nat) : Nat → List Pn
  | 0 => []
  | n + 1 => plL l wd ht h s n ++ [plO l wd ht h s n]
theorem plL_len (l : List Int) (wd ht h s : Nat) : ∀ n, (plL l wd ht h s n).length = n
  | 0 => rfl
  | n + 1 => by rw [plL, List.length_append, plL_len l wd ht h s n]; rfl
theorem lin_all {f : Nat → Nat → Int} (hf : ∀ x y, okV (f x y) = true) (y : Nat) : ∀ x, (lin f y x).all okV = true
  | 0 => rfl
  | x + 1 => by rw [lin, List.all_append, lin_all hf y x]; simp [hf]
theorem grid_all {f : Nat → Nat → Int} (hf : ∀ x y, okV (f x y) = true) (wd : Nat) : ∀ y, (grid f wd y).all okV = true
  | 0 => rfl
  | y + 1 => by rw [grid, List.all_append, grid_all hf wd y, lin_all hf y wd]; rfl
theorem okV_of {n : Int} (h : 0 ≤ n ∧ n ≤ 255) : okV n = true := by unfold okV; rw [decide_eq_true h.1, decide_eq_true h.2]; rfl
theorem grid_may {f : Nat → Nat → Int} (hf : ∀ x y, 0 ≤ f x y ∧ f x y ≤ 255) {wd ht : Nat} (hw : 1 ≤ wd ∧ wd ≤ 4096) (hh : 1 ≤ ht ∧ ht ≤ 4096) : mayP (wd : Int) (ht : Int) (grid f wd ht) = true := by
  unfold mayP okS
  rw [grid_len, grid_all (fun x y => okV_of (hf x y)), decide_eq_true (show (1 : Int) ≤ (wd : Int) by omega), decide_eq_true (show (wd : Int) ≤ 4096 by omega), decide_eq_true (show (1 : Int) ≤ (ht : Int) by omega), decide_eq_true (show (ht : Int) ≤ 4096 by omega), Int.natCast_mul]
  simp
set_option maxRecDepth 100000 in
set_option maxHeartbeats 2000000 in
theorem planes_no (k W H : Int) (A : Option Addr) (n c : Nat) (w : World) (hno : (okK k && mayB W H n) = false) :
    Calls Try.prog 27 #[rsA W H A n c, .int .i64 k] w fun e w' => e = .returned (.tuple #[.slice none 0 0, .int .i64 1]) ∧ Below w.heap.size w w' := by
  obtain ⟨r0, hb, hz⟩ := alloc1 w (.cells (rsrow W H A n c) 44)
  have R2 := Lib.hid r0
  have HB := Lib.hid hb
  have HNO := Lib.hid hno
  clear r0 hb hz hno
  go_enter Try.func27, Try.ntmps27
  go_wp2_with fail
  refine (factors_any k _).mono ?_
  rintro e w1 ⟨rfl, hb1⟩
  replace R2 := Lib.hid ((hb1.block _ (row_lt R2.out)).trans R2.out)
  replace HB := Lib.hid (HB.out.trans (hb1.mono HB.out.size))
  clear hb1
  cases hk : okK k with
  | false =>
    clear hk HNO
    go_wp2_with fail
    go_ret2
    exact ⟨rfl, HB.out⟩
  | true =>
  rw [hk, Bool.true_and] at HNO
  clear hk
  go_wp2_with ((with_reducible refine wpl_load_row rtR ?_ (.tmp 2) ?_ (w.heap.size) ?_ 44 (rsrow W H A n c) ?_ R2.out ?_); rfl; rfl; rfl; rfl; simp only [Act.put, List.setIfInBounds_toArray, List.set_cons_succ, List.set_cons_zero])
  refine (may_any W H A n c _).mono ?_
  rintro e w2 ⟨rfl, hb1⟩
  rw [HNO.out]
  replace HB := Lib.hid (HB.out.trans (hb1.mono HB.out.size))
  clear hb1
  go_wp2_with fail
  go_ret2
  exact ⟨rfl, HB.out⟩
set_option maxRecDepth 100000 in
set_option maxHeartbeats 8000000 in
theorem planes_yes (k : Int) (wd ht h s : Nat) (l : List Int) (A : Option Addr) (c : Nat) (w : World) (hs : Sl .u8 w A l) (hlc : l.length ≤ c) (hby : Byts l) (hl : l.length ≤ 900000) (hk : okK k = true) (hmb : mayB (wd : Int) (ht : Int) l.length = true) (hfx : fH k = (h : Int)) (hfy : fV k = (s : Int)) :
    Calls Try.prog 27 #[rsA (wd : Int) (ht : Int) A l.length c, .int .i64 k] w fun e w' => ∃ A' c' xs, e = .returned (.tuple #[.slice A' 3 c', .int .i64 0]) ∧ OwnV 24 3 w' w.heap.size (.slice A' 3 c') 3 xs ∧ PnV (fun v d => Own .i64 3 w' w.heap.size v d) xs (plL l wd ht h s 3) ∧ Below w.heap.size w w' := by
  obtain ⟨⟨W0a, W0b⟩, ⟨H0a, H0b⟩, hn3⟩ := mayB_t hmb
  obtain ⟨⟨x0, x1⟩, y0, y1⟩ := fHV_bd hk
  rw [hfx] at x0 x1
  rw [hfy] at y0 y1
  have hh : 1 ≤ h ∧ h ≤ 2 := by omega
  have hv : 1 ≤ s ∧ s ≤ 2 := by omega
  have hln : l.length = 3 * (wd * ht) := by
    have e : (3 * (wd : Int) * (ht : Int)) = ((3 * (wd * ht) : Nat) : Int) := by rw [Int.natCast_mul, Int.natCast_mul, Int.mul_assoc]; rfl
    omega
  have hm3 : l.length % 3 = 0 := by omega
  have hd3 : l.length / 3 = wd * ht := by omega
  have hby2 : ∀ i, 0 ≤ l.getD i 0 ∧ l.getD i 0 ≤ 255 := fun i => by have := hby i; unfold nth at this; omega
  obtain ⟨r0, hb, hz⟩ := alloc1 w (.cells (rsrow (wd : Int) (ht : Int) A l.length c) 44)
  have R2 := Lib.hid r0
  have HB := Lib.hid hb
  have HS := Lib.hid hs
  have HFX := Lib.hid hfx
  have HFY := Lib.hid hfy
  have HK := Lib.hid hk
  have HMB := Lib.hid hmb
  have HBY := Lib.hid hby2
  have HLN := Lib.hid hln
  have HD3 := Lib.hid hd3
  have HM3 := Lib.hid hm3
  have HH := Lib.hid hh
  have HV := Lib.hid hv
  clear r0 hb hs hfx hfy hk hmb hby hby2 hn3 hln hd3 hm3
  go_enter Try.func27, Try.ntmps27
  go_wp2_with fail
  refine (factors_any k _).mono ?_
  rintro e w1 ⟨rfl, hb1⟩
  rw [HK.out, HFX.out, HFY.out]
  replace R2 := Lib.hid ((hb1.block _ (row_lt R2.out)).trans R2.out)
  replace HB := Lib.hid (HB.out.trans (hb1.mono HB.out.size))
  have hsz : w.heap.size + 1 ≤ w1.heap.size := Nat.le_trans (Nat.le_of_eq hz.symm) hb1.size
  clear hb1 hz
  clear hsz
  go_wp2_with ((with_reducible refine wpl_load_row rtR ?_ (.tmp 2) ?_ (w.heap.size) ?_ 44 (rsrow (wd : Int) (ht : Int) A l.length c) ?_ R2.out ?_); rfl; rfl; rfl; rfl; simp only [Act.put, List.setIfInBounds_toArray, List.set_cons_succ, List.set_cons_zero])
  refine (may_any (wd : Int) (ht : Int) A l.length c _).mono ?_
  rintro e x1 ⟨rfl, hb⟩
  replace R2 := Lib.hid ((hb.block _ (row_lt R2.out)).trans R2.out)
  replace HB := Lib.hid (HB.out.trans (hb.mono HB.out.size))
  clear hb
  rw [HMB.out]
  have k2 := row_cell (v := .slice A l.length c) R2.out 2 rfl
  go_wp2_with fail
  clear k2
  refine (all_luma A c l _ (HS.out.keep HB.out) hlc (by omega) HBY.out HM3.out).mono ?_
  rintro e q4 ⟨v4, rfl, ho4, hb⟩
  rw [HD3.out] at ho4
  obtain ⟨A4, c4, rfl⟩ := own_form ho4
  rw [threes_len] at ho4
  replace R2 := Lib.hid ((hb.block _ (row_lt R2.out)).trans R2.out)
  replace HB := Lib.hid (HB.out.trans (hb.mono HB.out.size))
  have HAL := Lib.hid (ho4.mono (Nat.zero_le _))
  clear hb ho4
  try rw [threes_len]
  have hb := (ba (brefl q4) (.cells #[.slice A4 (3 * (wd * ht)) c4] 42))
  have R9 := (alloc1 q4 (.cells #[.slice A4 (3 * (wd * ht)) c4] 42)).1
  replace R2 := Lib.hid ((hb.block _ (row_lt R2.out)).trans R2.out)
  replace HAL := Lib.hid (HAL.out.keep hb)
  replace HB := Lib.hid (HB.out.trans (hb.mono HB.out.size))
  clear hb
  replace R9 := Lib.hid R9
  go_wp2_with fail
  generalize (q4.alloc (.cells #[.slice A4 (3 * (wd * ht)) c4] 42)) = x2 at *
  obtain ⟨G9, hG9⟩ : ∃ G, G = q4.heap.size := ⟨_, rfl⟩
  rw [← hG9] at R9 ⊢
  clear hG9
  go_loopw [29, 10] (fun s29 s10 wr => ∃ (i : Nat) (A1 : Option Addr) (c1 : Nat) (xs : List Value), i ≤ 3 ∧ s29 = .int .i64 (i : Int) ∧ s10 = .slice A1 i c1 ∧ OwnV 24 3 wr w.heap.size (.slice A1 i c1) i xs ∧ OwnP wr w.heap.size xs (plL l wd ht h s i) ∧
        wr.heap[w.heap.size]? = some (.cells (rsrow (wd : Int) (ht : Int) A l.length c) 44 (0, 0)) ∧ wr.heap[G9]? = some (.cells #[.slice A4 (3 * (wd * ht)) c4] 42 (0, 0)) ∧ Own .u8 5 wr 0 (.slice A4 (3 * (wd * ht)) c4) (threes false l (wd * ht)) ∧ Below w.heap.size w wr) (fun s29 _ _ => 3 - (intOf s29).toNat)
  case atStart => exact ⟨0, none, 0, [], by omega, rfl, rfl, OwnV.nil_ _ _ _ _, .nil, R2.out, R9.out, HAL.out, HB.out⟩
  case round =>
    clear R2 R9 HAL HB
    obtain ⟨i, A1, c1, xs, hi, rfl, rfl, hov, hpv, hr2, hr9, hal, hb⟩ := hrel
    have OV := Lib.hid hov
    have SV := Lib.hid hpv
    have R2 := Lib.hid hr2
    have R9 := Lib.hid hr9
    have HAL := Lib.hid hal
    have HB := Lib.hid hb
    clear hov hpv hr2 hr9 hal hb
    by_cases hi3 : i < 3
    case neg =>
      obtain rfl : i = 3 := by omega
      go_wp2_with fail
      go_ret2
      exact ⟨A1, c1, xs, rfl, OV.out, SV.out, HB.out⟩
    have i1 : (i : Int) < 3 := by omega
    have hbk := ba (brefl wr) (.cells #[.int .i64 (i : Int)] 3)
    have k0 := row_cell (v := .int .i64 (wd : Int)) ((hbk.block _ (row_lt R2.out)).trans R2.out) 0 rfl
    have k1 := row_cell (v := .int .i64 (ht : Int)) ((hbk.block _ (row_lt R2.out)).trans R2.out) 1 rfl
    clear hbk
    go_wp2_with fail
    clear k0 k1
    have hb := (ba (brefl wr) (.cells #[.int .i64 (i : Int)] 3))
    have R11 := (alloc1 wr (.cells #[.int .i64 (i : Int)] 3)).1
    replace R2 := Lib.hid ((hb.block _ (row_lt R2.out)).trans R2.out)
    replace R9 := Lib.hid ((hb.block _ (row_lt R9.out)).trans R9.out)
    replace HAL := Lib.hid (HAL.out.keep hb)
    replace OV := Lib.hid (OV.out.keep hb)
    replace SV := Lib.hid (SV.out.keep hb)
    replace HB := Lib.hid (HB.out.trans (hb.mono HB.out.size))
    clear hb
    replace R11 := Lib.hid R11
    generalize (wr.alloc (.cells #[.int .i64 (i : Int)] 3)) = y1 at *
    have hle5 := HB.out.size
    refine (made_any wd ht (by omega) (by omega) (by omega) (by omega) (fun x y => pcV l wd i x y) 48 #[] #[.pointer (some ⟨G9, 0, none⟩), .pointer (some ⟨w.heap.size, 0, none⟩), .pointer (some ⟨wr.heap.size, 0, none⟩)] _ (fun _ _ => by rfl) (fun W x y hbW hx hy => planes1_any l wd ht i x y A4 A c4 c (ht : Int) G9 w.heap.size (wr.heap.size) 0 W HLN.out (cellP (.slice A4 (3 * (wd * ht)) c4) ((hbW.block _ (row_lt R9.out)).trans R9.out) 0 rfl) (cellP (.int .i64 (wd : Int)) ((hbW.block _ (row_lt R2.out)).trans R2.out) 0 rfl) (cellP (.int .i64 (i : Int)) ((hbW.block _ (row_lt R11.out)).trans R11.out) 0 rfl) (HAL.out.sl'.2.keep hbW) (by omega) (by omega) hx hy hi3)).mono ?_
    rintro e y2 ⟨A5, c5, rfl, hy2_0, hb⟩
    replace R2 := Lib.hid ((hb.block _ (row_lt R2.out)).trans R2.out)
    replace R9 := Lib.hid ((hb.block _ (row_lt R9.out)).trans R9.out)
    replace HAL := Lib.hid (HAL.out.keep hb)
    replace OV := Lib.hid (OV.out.keep hb)
    replace SV := Lib.hid (SV.out.keep hb)
    replace R11 := Lib.hid ((hb.block _ (row_lt R11.out)).trans R11.out)
    replace HB := Lib.hid (HB.out.trans (hb.mono HB.out.size))
    have HO5 := Lib.hid hy2_0
    clear hy2_0 hb
    have hl5 : (grid (pcV l wd i) wd ht).length = wd * ht := grid_len _ _ _
    have HL5 := Lib.hid hl5
    clear hl5
    have SN := Lib.hid (brefl y2)
    have SN_R2 := R2
    have SN_R9 := R9
    have SN_HAL := HAL
    have SN_OV := OV
    have SN_SV := SV
    have SN_R11 := R11
    have SN_HO5 := HO5
    have SN_le_HB := HB.out.size
    have hbk := ba (brefl y2) (.cells (plrow (wd : Int) (ht : Int) A5 (wd * ht) c5) 24)
    have k11 := row_cell (v := .int .i64 (i : Int)) ((hbk.block _ (row_lt R11.out)).trans R11.out) 0 rfl
    have R12 := Lib.hid (heap_alloc_new y2 (.cells (plrow (wd : Int) (ht : Int) A5 (wd * ht) c5) 24))
    replace R2 := Lib.hid ((hbk.block _ (row_lt R2.out)).trans R2.out)
    replace R9 := Lib.hid ((hbk.block _ (row_lt R9.out)).trans R9.out)
    replace HAL := Lib.hid (HAL.out.keep hbk)
    replace OV := Lib.hid (OV.out.keep hbk)
    replace SV := Lib.hid (SV.out.keep hbk)
    replace R11 := Lib.hid ((hbk.block _ (row_lt R11.out)).trans R11.out)
    replace HO5 := Lib.hid (HO5.out.keep hbk)
    replace HB := Lib.hid (HB.out.trans (hbk.mono HB.out.size))
    replace SN := Lib.hid (SN.out.trans (hbk.mono SN.out.size))
    clear hbk
    by_cases hi0 : i = 0
    · have HPO := Lib.hid (show plO l wd ht h s i = ⟨(wd : Int), (ht : Int), grid (pcV l wd i) wd ht⟩ by unfold plO; rw [if_pos hi0, hi0])
      have i0 : ¬ (0 : Int) < (i : Int) := by omega
      clear hi0
      go_wp2_with (first | ((with_reducible refine wpl_load_row rtP ?_ (.tmp 12) ?_ (y2.heap.size) ?_ 24 (plrow (wd : Int) (ht : Int) A5 (wd * ht) c5) ?_ R12.out ?_); rfl; rfl; rfl; rfl; simp only [Act.put, List.setIfInBounds_toArray, List.set_cons_succ, List.set_cons_zero]) | (at_builtin; refine Tin.wplv_push svP (y2.alloc (.cells (plrow (wd : Int) (ht : Int) A5 (wd * ht) c5) 24)) (plrow (wd : Int) (ht : Int) A5 (wd * ht) c5) rfl (.tmp 45) (.tmp 47) rfl w.heap.size A1 i c1 xs rfl OV.out HB.out.size (by rw [World.size_alloc]; rfl) rfl (by simp [Value.oneCell']) (by omega) (by omega) ?_; intro A7 c7 w7 ho7 hg7 how7; have HO7 := Lib.hid ho7; have HG7 := Lib.hid hg7; clear ho7 hg7 how7))
      have hlo : ∀ q, (Value.slice A1 i c1).ownBlock = some q → w.heap.size ≤ q := fun q hq => (World.ownsRow.lt OV.out q hq).1
      have SV7 := PnV.app (PnV.mono (fun _ _ h => Own.kept h HG7.out (ownI_ownv_apart h OV.out (by decide))) SV.out) (PnV.one (W := (wd : Int)) (H := (ht : Int)) ((HO5.out.kept HG7.out (ownI_ownv_apart HO5.out OV.out (by decide))).mono hle5))
      exact ⟨⟨i + 1, A7, c7, _, by omega, rfl, rfl, HO7.out, by rw [plL, HPO.out]; exact SV7, (HG7.out.block _ (row_lt R2.out) (fun e => ownv_row_apart OV.out R2.out (by decide) e.symm)).trans R2.out, (HG7.out.block _ (row_lt R9.out) (fun e => ownv_row_apart OV.out R9.out (by decide) e.symm)).trans R9.out, HAL.out.kept HG7.out (ownI_ownv_apart HAL.out OV.out (by decide)), HB.out.grown HG7.out HB.out.size (fun q hq => hlo q hq)⟩, by simp only [intOf]; omega⟩
    have SN_R12 := R12
    have HPO := Lib.hid (show plO l wd ht h s i = ⟨(ptN wd h : Nat), (ptN ht s : Nat), grid (dnV (wd : Int) (ht : Int) (grid (pcV l wd i) wd ht) h s) (ptN wd h) (ptN ht s)⟩ by unfold plO; rw [if_neg hi0])
    have i0 : (0 : Int) < (i : Int) := by omega
    go_wp2_with ((with_reducible refine wpl_load_row rtP ?_ (.tmp 12) ?_ (y2.heap.size) ?_ 24 (plrow (wd : Int) (ht : Int) A5 (wd * ht) c5) ?_ R12.out ?_); rfl; rfl; rfl; rfl; simp only [Act.put, List.setIfInBounds_toArray, List.set_cons_succ, List.set_cons_zero])
    clear k11
    generalize (y2.alloc (.cells (plrow (wd : Int) (ht : Int) A5 (wd * ht) c5) 24)) = y6 at *
    have hle6 := HB.out.size
    have hsn6 := SN.out.size
    refine (brought_n wd ht (grid (pcV l wd i) wd ht) h s (wd * ht) A5 c5 _ HL5.out HO5.out.sl'.2 (grid_may (fun x y => lumC_bd _ _ _) (by omega) (by omega)) HH.out HV.out).mono ?_
    rintro e y3 ⟨A6, c6, rfl, hy3_0, hb⟩
    replace R2 := Lib.hid ((hb.block _ (row_lt R2.out)).trans R2.out)
    replace R9 := Lib.hid ((hb.block _ (row_lt R9.out)).trans R9.out)
    replace HAL := Lib.hid (HAL.out.keep hb)
    replace OV := Lib.hid (OV.out.keep hb)
    replace SV := Lib.hid (SV.out.keep hb)
    replace R11 := Lib.hid ((hb.block _ (row_lt R11.out)).trans R11.out)
    replace HO5 := Lib.hid (HO5.out.keep hb)
    replace R12 := Lib.hid ((hb.block _ (row_lt R12.out)).trans R12.out)
    replace HB := Lib.hid (HB.out.trans (hb.mono HB.out.size))
    replace SN := Lib.hid (SN.out.trans (hb.mono SN.out.size))
    have HO6 := Lib.hid hy3_0
    clear hy3_0 hb
    go_wp2_with (first | ((with_reducible refine wpl_store_row rtP ?_ (.tmp 12) (.tmp 44) ?_ (y2.heap.size) ?_ (plrow (ptN wd h : Nat) (ptN ht s : Nat) A6 (ptN wd h * ptN ht s) c6) ?_ (pl_one _ _ _ _ _) 24 ?_ (plrow (wd : Int) (ht : Int) A5 (wd * ht) c5) ?_ R12.out ?_); rfl; rfl; rfl; rfl; rfl; rfl; intro y4 hr12 hg12 hs12; have hb12 : Below (y2.heap.size) y3 y4 := (Below.refl _ _).grown hg12 SN.out.size (fun k hk => by cases hk; exact Nat.le_refl _); have HO6n := Lib.hid (HO6.out.kept hg12 (ne_own (fun q hq => by have h1 := (World.ownsRow.lt HO6.out q hq).1; have h2 := row_lt SN_R12.out; omega))); clear HO6 R12; replace SN := Lib.hid (SN.out.trans hb12); replace R2 := Lib.hid ((SN.out.block _ (row_lt SN_R2.out)).trans SN_R2.out); replace R9 := Lib.hid ((SN.out.block _ (row_lt SN_R9.out)).trans SN_R9.out); replace HAL := Lib.hid (SN_HAL.out.keep SN.out); replace OV := Lib.hid (SN_OV.out.keep SN.out); replace SV := Lib.hid (SN_SV.out.keep SN.out); replace R11 := Lib.hid ((SN.out.block _ (row_lt SN_R11.out)).trans SN_R11.out); replace HO5 := Lib.hid (SN_HO5.out.keep SN.out); replace HB := Lib.hid (HB.out.trans (hb12.mono SN_le_HB)); have R12 := Lib.hid hr12; clear hr12 hg12 hs12 hb12; (try simp only [Act.put])) | ((with_reducible refine wpl_load_row rtP ?_ (.tmp 12) ?_ (y2.heap.size) ?_ 24 (plrow (ptN wd h : Nat) (ptN ht s : Nat) A6 (ptN wd h * ptN ht s) c6) ?_ R12.out ?_); rfl; rfl; rfl; rfl; simp only [Act.put, List.setIfInBounds_toArray, List.set_cons_succ, List.set_cons_zero]) | (at_builtin; refine Tin.wplv_push svP y4 (plrow (ptN wd h : Nat) (ptN ht s : Nat) A6 (ptN wd h * ptN ht s) c6) rfl (.tmp 45) (.tmp 47) rfl w.heap.size A1 i c1 xs rfl OV.out HB.out.size rfl rfl (by simp [Value.oneCell']) (by omega) (by omega) ?_; intro A7 c7 w7 ho7 hg7 how7; have HO7 := Lib.hid ho7; have HG7 := Lib.hid hg7; clear ho7 hg7 how7))
    have hlo : ∀ q, (Value.slice A1 i c1).ownBlock = some q → w.heap.size ≤ q := fun q hq => (World.ownsRow.lt OV.out q hq).1
    have SV7 := PnV.app (PnV.mono (fun _ _ h => Own.kept h HG7.out (ownI_ownv_apart h OV.out (by decide))) SV.out) (PnV.one (W := ((ptN wd h : Nat) : Int)) (H := ((ptN ht s : Nat) : Int)) ((HO6n.out.kept HG7.out (ownI_ownv_apart HO6n.out OV.out (by decide))).mono hle6))
    exact ⟨⟨i + 1, A7, c7, _, by omega, rfl, rfl, HO7.out, by rw [plL, HPO.out]; exact SV7, (HG7.out.block _ (row_lt R2.out) (fun e => ownv_row_apart OV.out R2.out (by decide) e.symm)).trans R2.out, (HG7.out.block _ (row_lt R9.out) (fun e => ownv_row_apart OV.out R9.out (by decide) e.symm)).trans R9.out, HAL.out.kept HG7.out (ownI_ownv_apart HAL.out OV.out (by decide)), HB.out.grown HG7.out HB.out.size (fun q hq => hlo q hq)⟩, by simp only [intOf]; omega⟩
end Go.Proofs.Ytajobboldjgidaa
