/- sample.Paint. -/
import Derived.Test.YtajobboldjgidaaSmN
import Derived.Test.YtajobboldjgidaaClD
namespace Go.Proofs.Ytajobboldjgidaa
open Go.RowKit
open Go.Tin
set_option linter.unusedVariables false
set_option linter.unusedSimpArgs false


theorem rng_keep {w Y : World} {b o : Nat} {cs : List Value} (hb : Below w.heap.size w Y) (hlt : b < w.heap.size) (h : w.rangeAt b o cs) : Y.rangeAt b o cs :=
  fun j u hj => by rw [hb.cell (p := ⟨b, o + j, none⟩) hlt]; exact h j u hj
theorem rs_one (a b : Int) (A : Option Addr) (n c : Nat) : (rsrow a b A n c).all (·.oneCell') = true := by simp [Value.oneCell']
theorem bt5 : ST Try.prog 42 5 .u8 1 := ST.of Try.underlying42 Try.underlying5 (by kernel_rfl)
def linT (f : Nat → Nat → List Int) (y : Nat) : Nat → List Int
  | 0 => []
  | x + 1 => linT f y x ++ f x y
def gridT (f : Nat → Nat → List Int) (wd : Nat) : Nat → List Int
  | 0 => []
  | y + 1 => gridT f wd y ++ linT f y wd
theorem linT_len {f : Nat → Nat → List Int} (h : ∀ x y, (f x y).length = 3) (y : Nat) : ∀ x, (linT f y x).length = 3 * x
  | 0 => rfl
  | x + 1 => by rw [linT, List.length_append, linT_len h y x, h]; omega
theorem gridT_len {f : Nat → Nat → List Int} (h : ∀ x y, (f x y).length = 3) (wd : Nat) : ∀ y, (gridT f wd y).length = 3 * (wd * y)
  | 0 => rfl
  | y + 1 => by rw [gridT, List.length_append, gridT_len h wd y, linT_len h, Nat.mul_succ]; omega
theorem gridT_le {f : Nat → Nat → List Int} (h : ∀ x y, (f x y).length = 3) {wd y x : Nat} (hw : wd ≤ 4096) (hy : y ≤ 4096) (hx : x ≤ 4096) : (gridT f wd y ++ linT f y x).length ≤ 100000000 := by
  rw [List.length_append, gridT_len h, linT_len h]
  have := Nat.mul_le_mul hw hy
  omega
/-- The bytes of a place. -/
def pixV (W H : Int) (v : List Int) (W1 H1 : Int) (v1 v2 : List Int) (h s : Int) (x y : Nat) : List Int :=
  [paiR (nearV W H v x y) (nearV W1 H1 v1 ((x : Int) / h) ((y : Int) / s)) (nearV W1 H1 v2 ((x : Int) / h) ((y : Int) / s)),
   paiG (nearV W H v x y) (nearV W1 H1 v1 ((x : Int) / h) ((y : Int) / s)) (nearV W1 H1 v2 ((x : Int) / h) ((y : Int) / s)),
   paiB (nearV W H v x y) (nearV W1 H1 v1 ((x : Int) / h) ((y : Int) / s)) (nearV W1 H1 v2 ((x : Int) / h) ((y : Int) / s))]
theorem PlS.three {w : World} {A : Option Addr} {p q r : Pn} (h : PlS w A [p, q, r]) : ∃ b off A0 c0 A1 c1 A2 c2, A = some ⟨b, off, none⟩ ∧ b < w.heap.size ∧ w.rangeAt b off [.int .i64 p.W, .int .i64 p.H, .slice A0 p.v.length c0] ∧
    w.rangeAt b (off + 3) [.int .i64 q.W, .int .i64 q.H, .slice A1 q.v.length c1] ∧ w.rangeAt b (off + 6) [.int .i64 r.W, .int .i64 r.H, .slice A2 r.v.length c2] ∧
    (Sl .i64 w A0 p.v ∧ Sl .i64 w A1 q.v ∧ Sl .i64 w A2 r.v) ∧ p.v.length ≤ 1000000000 ∧ q.v.length ≤ 1000000000 ∧ r.v.length ≤ 1000000000 := by
  obtain ⟨b, off, rfl, hb, hc⟩ := h.at_ (by simp)
  obtain ⟨x0, y0, d0, A0, c0, hx0, _, _, _, hr0, hp0⟩ := hc 0 (by simp)
  obtain ⟨x1, y1, d1, A1, c1, hx1, _, _, _, hr1, hp1⟩ := hc 1 (by simp)
  obtain ⟨x2, y2, d2, A2, c2, hx2, _, _, _, hr2, hp2⟩ := hc 2 (by simp)
  obtain rfl : p = ⟨x0, y0, d0⟩ := Option.some.inj hx0
  obtain rfl : q = ⟨x1, y1, d1⟩ := Option.some.inj hx1
  obtain rfl : r = ⟨x2, y2, d2⟩ := Option.some.inj hx2
  exact ⟨b, off, A0, c0, A1, c1, A2, c2, rfl, hb, by simpa using hr0, by simpa using hr1, by simpa using hr2, ⟨hp0.sl.2.1, hp1.sl.2.1, hp2.sl.2.1⟩, hp0.sl.2.2.2, hp1.sl.2.2.2, hp2.sl.2.2.2⟩
/-- Are planes a picture's? -/
def okPt (k : Int) (L : List Pn) : Bool := okK k && (decide (L.length = 3) && (!(L.any badP) && ((L.drop 1).all fun p => decide (p.W = ptV ((L.getD 0 ⟨0, 0, []⟩).W) (fH k)) && decide (p.H = ptV ((L.getD 0 ⟨0, 0, []⟩).H) (fV k)))))
set_option maxRecDepth 100000 in
set_option maxHeartbeats 8000000 in
theorem paint_no (k : Int) (L : List Pn) (A : Option Addr) (c : Nat) (w : World) (hs : PlS w A L) (hn : L.length ≤ 1000000) (hLc : L.length ≤ c) (hno : okPt k L = false) :
    Calls Try.prog 19 #[.slice A L.length c, .int .i64 k] w fun e w' => e = .returned (.tuple #[rsA 0 0 none 0 0, .int .i64 1]) ∧ Below w.heap.size w w' := by
  obtain ⟨r0, hb, hz⟩ := alloc1 w (.cells (rsrow 0 0 none 0 0) 44)
  have R4 := Lib.hid r0
  have HB := Lib.hid hb
  have HS := Lib.hid hs
  clear r0 hb hs
  go_enter Try.func19, Try.ntmps19
  go_wp2_with fail
  refine (factors_any k _).mono ?_
  rintro e w1 ⟨rfl, hb1⟩
  replace R4 := Lib.hid ((hb1.block _ (row_lt R4.out)).trans R4.out)
  replace HB := Lib.hid (HB.out.trans (hb1.mono HB.out.size))
  have HZ := Lib.hid (show w.heap.size + 1 ≤ w1.heap.size from Nat.le_trans (Nat.le_of_eq hz.symm) hb1.size)
  clear hb1 hz
  have HNO := Lib.hid hno
  clear hno
  unfold okPt at HNO
  cases hk : okK k with
  | false =>
    clear hk HNO
    go_wp2_with ((with_reducible refine wpl_store_row rtR ?_ (.tmp 4) (.tmp 34) ?_ (w.heap.size) ?_ (rsrow 0 0 none 0 0) ?_ (rs_one _ _ _ _ _) 44 ?_ (rsrow 0 0 none 0 0) ?_ R4.out ?_); rfl; rfl; rfl; rfl; rfl; rfl; intro w9 hr9 hg9 hs9)
    exact bodyPost_ret (res_row_tmp rtR rfl _ _ w.heap.size 44 (rsrow 0 0 none 0 0) rfl (.int .i64 1) rfl rfl hr9) rfl ⟨rfl, HB.out.grown hg9 HB.out.size (fun k hk => by cases hk; omega)⟩
  | true =>
  rw [hk, Bool.true_and] at HNO
  have HBD := Lib.hid (fHV_bd hk)
  clear hk
  by_cases h3 : L.length = 3
  case neg =>
    clear HNO
    have j1 : ((L.length : Int) != 3) = true := by rw [bne_iff_ne]; omega
    go_wp2_with ((with_reducible refine wpl_store_row rtR ?_ (.tmp 4) (.tmp 34) ?_ (w.heap.size) ?_ (rsrow 0 0 none 0 0) ?_ (rs_one _ _ _ _ _) 44 ?_ (rsrow 0 0 none 0 0) ?_ R4.out ?_); rfl; rfl; rfl; rfl; rfl; rfl; intro w9 hr9 hg9 hs9)
    exact bodyPost_ret (res_row_tmp rtR rfl _ _ w.heap.size 44 (rsrow 0 0 none 0 0) rfl (.int .i64 1) rfl rfl hr9) rfl ⟨rfl, HB.out.grown hg9 HB.out.size (fun k hk => by cases hk; omega)⟩
  rw [decide_eq_true h3, Bool.true_and] at HNO
  obtain ⟨p, q, r, rfl⟩ : ∃ p q r, L = [p, q, r] := by
    match L, h3 with
    | [p, q, r], _ => exact ⟨p, q, r, rfl⟩
  clear h3
  replace HNO := Lib.hid (show (!([p, q, r].any badP) && (decide (q.W = ptV p.W (fH k)) && decide (q.H = ptV p.H (fV k)) && ((decide (r.W = ptV p.W (fH k)) && decide (r.H = ptV p.H (fV k))) && true))) = false from HNO.out)
  simp only [List.length_cons, List.length_nil, Nat.zero_add, Nat.reduceAdd] at hLc ⊢
  go_wp2_with fail
  refine (containsP_any A c [p, q, r] w1 (HS.out.keep HB.out) (by simp)).mono ?_
  rintro e w2 ⟨rfl, hb1⟩
  replace R4 := Lib.hid ((hb1.block _ (row_lt R4.out)).trans R4.out)
  replace HB := Lib.hid (HB.out.trans (hb1.mono HB.out.size))
  replace HZ := Lib.hid (Nat.le_trans HZ.out hb1.size)
  clear hb1
  cases hbad : [p, q, r].any badP with
  | true =>
    clear HNO hbad
    go_wp2_with ((with_reducible refine wpl_store_row rtR ?_ (.tmp 4) (.tmp 34) ?_ (w.heap.size) ?_ (rsrow 0 0 none 0 0) ?_ (rs_one _ _ _ _ _) 44 ?_ (rsrow 0 0 none 0 0) ?_ R4.out ?_); rfl; rfl; rfl; rfl; rfl; rfl; intro w9 hr9 hg9 hs9)
    exact bodyPost_ret (res_row_tmp rtR rfl _ _ w.heap.size 44 (rsrow 0 0 none 0 0) rfl (.int .i64 1) rfl rfl hr9) rfl ⟨rfl, HB.out.grown hg9 HB.out.size (fun k hk => by cases hk; omega)⟩
  | false =>
  rw [hbad, Bool.not_false, Bool.true_and] at HNO
  have hmm : mayP p.W p.H p.v = true ∧ mayP q.W q.H q.v = true ∧ mayP r.W r.H r.v = true := by
    have h := hbad
    simp only [List.any_cons, List.any_nil, Bool.or_false, Bool.or_eq_false_iff, badP, Bool.not_eq_false'] at h
    exact h
  clear hbad
  obtain ⟨b, off, A0, c0, A1, c1, A2, c2, rfl, hlt, hr0, hr1, hr2, ⟨hv0, hv1, hv2⟩, hl0, hl1, hl2⟩ := PlS.three HS.out
  clear HS
  obtain ⟨W, H, v⟩ := p
  obtain ⟨W1, H1, v1⟩ := q
  obtain ⟨W2, H2, v2⟩ := r
  dsimp only at *
  obtain ⟨W0a, W0b⟩ := mayP_W hmm.1
  obtain ⟨H0a, H0b⟩ := mayP_H hmm.1
  have HMM := Lib.hid hmm
  have HR0 := Lib.hid hr0
  have HR1 := Lib.hid hr1
  have HR2 := Lib.hid hr2
  have HV0 := Lib.hid hv0
  have HV1 := Lib.hid hv1
  have HV2 := Lib.hid hv2
  clear hmm hr0 hr1 hr2 hv0 hv1 hv2
  obtain ⟨⟨x0, x1⟩, y0, y1⟩ := HBD.out
  generalize hfx : fH k = fx at *
  generalize hfy : fV k = fy at *
  have HFX := Lib.hid hfx
  have HFY := Lib.hid hfy
  clear hfx hfy HBD
  go_wp2_with fail
  go_loopw [38] (fun s38 wr => ∃ (i : Nat), i ≤ 2 ∧ s38 = .int .i64 (i : Int) ∧ wr.heap[w.heap.size]? = some (.cells (rsrow 0 0 none 0 0) 44 (0, 0)) ∧ Below w.heap.size w wr ∧ w.heap.size + 1 ≤ wr.heap.size ∧ (1 ≤ i → W1 = ptV W fx ∧ H1 = ptV H fy) ∧ (2 ≤ i → W2 = ptV W fx ∧ H2 = ptV H fy)) (fun s38 _ => 2 - (intOf s38).toNat)
  case atStart => exact ⟨0, by omega, rfl, R4.out, HB.out, HZ.out, fun h => absurd h (by decide), fun h => absurd h (by decide)⟩
  case round =>
    clear R4 HB HZ
    obtain ⟨i, hi, rfl, hr4, hb, hgs, hq1, hq2⟩ := hrel
    have R4 := Lib.hid hr4
    have HB := Lib.hid hb
    have HZ := Lib.hid hgs
    clear hr4 hb hgs
    by_cases hi2 : i < 2
    case neg =>
      obtain rfl : i = 2 := by omega
      exfalso
      have a1 := hq1 (by omega)
      have a2 := hq2 (by omega)
      have h := HNO.out
      rw [decide_eq_true a1.1, decide_eq_true a1.2, decide_eq_true a2.1, decide_eq_true a2.2] at h
      cases h
    have i1 : (i : Int) < 2 := by omega
    have hel : ∃ (X Y : Int) (Ai : Option Addr) (ni ci : Nat), w.rangeAt b (off + 3 + i * 3) [.int .i64 X, .int .i64 Y, .slice Ai ni ci] ∧ (i = 0 → X = W1 ∧ Y = H1) ∧ (i = 1 → X = W2 ∧ Y = H2) := by
      rcases (by omega : i = 0 ∨ i = 1) with rfl | rfl
      · exact ⟨_, _, _, _, _, HR1.out, fun _ => ⟨rfl, rfl⟩, fun h => absurd h (by decide)⟩
      · exact ⟨_, _, _, _, _, HR2.out, fun h => absurd h (by decide), fun _ => ⟨rfl, rfl⟩⟩
    obtain ⟨X, Y, Ai, ni, ci, hri, hx0, hx1⟩ := hel
    have HRI := Lib.hid (rng_keep HB.out hlt hri)
    clear hri
    go_wp2_with ((with_reducible refine wpl_loadv rtP ?_ (.tmp 40) ?_ b (off + 3 + i * 3) ?_ [.int .i64 X, .int .i64 Y, .slice Ai ni ci] ?_ HRI.out ?_); rfl; rfl; rfl; rfl; simp only [Act.put, List.setIfInBounds_toArray, List.set_cons_succ, List.set_cons_zero])
    have hb := (ba (brefl wr) (.cells #[.int .i64 X, .int .i64 Y, .slice Ai ni ci] 24))
    have R10 := (alloc1 wr (.cells #[.int .i64 X, .int .i64 Y, .slice Ai ni ci] 24)).1
    replace R4 := Lib.hid ((hb.block _ (row_lt R4.out)).trans R4.out)
    replace HZ := Lib.hid (Nat.le_trans HZ.out hb.size)
    replace HB := Lib.hid (HB.out.trans (hb.mono HB.out.size))
    clear hb
    replace R10 := Lib.hid R10
    generalize (wr.alloc (.cells #[.int .i64 X, .int .i64 Y, .slice Ai ni ci] 24)) = x1 at *
    by_cases hX : X = ptV W fx
    case neg =>
      clear hx0 hx1 hq1 hq2 HNO
      have n1 : (X != ptV W fx) = true := by rw [bne_iff_ne]; exact hX
      have LT_R4 : _ < x1.heap.size := row_lt R4.out
      have LT_R10 : _ < x1.heap.size := row_lt R10.out
      have SZ : x1.heap.size ≤ x1.drew.heap.size := Nat.le_refl _
      have hb := ud' (brefl x1)
      replace R4 := Lib.hid ((hb.block _ (row_lt R4.out)).trans R4.out)
      replace HZ := Lib.hid (Nat.le_trans HZ.out hb.size)
      replace R10 := Lib.hid ((hb.block _ (row_lt R10.out)).trans R10.out)
      replace HB := Lib.hid (HB.out.trans (hb.mono HB.out.size))
      clear hb
      refine Tin.reg_begin (x1.heap.size) 20 (by rfl) (by kernel_rfl) ?_
      have HBS : w.heap.size ≤ x1.heap.size := HB.out.size
      have kW : ∀ p : Bel (x1.heap.size) x1.drew, p.w'.cell? ⟨b, off, none⟩ = some (.int .i64 W) := fun p => rng_keep (HB.out.trans (p.h.mono HBS)) hlt HR0.out 0 _ rfl
      have kH : ∀ p : Bel (x1.heap.size) x1.drew, p.w'.cell? ⟨b, off + 1, none⟩ = some (.int .i64 H) := fun p => rng_keep (HB.out.trans (p.h.mono HBS)) hlt HR0.out 1 _ rfl
      have kX : ∀ p : Bel (x1.heap.size) x1.drew, p.w'.cell? ⟨wr.heap.size, 0, none⟩ = some (.int .i64 X) := fun p => row_cell ((p.h.block _ LT_R10).trans R10.out) 0 rfl
      have kY : ∀ p : Bel (x1.heap.size) x1.drew, p.w'.cell? ⟨wr.heap.size, 1, none⟩ = some (.int .i64 Y) := fun p => row_cell ((p.h.block _ LT_R10).trans R10.out) 1 rfl
      refine Tin.reg_quiets [0, 1, 2, 3, 4, 5, 6] _ 13 rfl (by simp only [Tin.pick, List.map_cons, List.map_nil, Array.getD_eq_getD_getElem?, List.getElem?_toArray, List.getElem?_cons_zero, List.getElem?_cons_succ, Option.getD_some]; rfl) (by kernel_rfl) (by kernel_rfl) ?_
      repeat (first | go_big_quiet_step (fail))
      refine wpQuiet_nil ?_
      refine Tin.reg_one 7 _ rfl (by kernel_rfl) ?_
      try simp only [List.getElem_toArray, List.getElem_cons_succ, List.getElem_cons_zero]
      go_wp2_with fail
      refine (parts_any W fx _ (by omega) (by omega)).mono ?_
      rintro e w' ⟨rfl, rfl⟩
      rw [show (W + fx - 1) / fx = ptV W fx from rfl]
      go_wp2_with fail
      refine ⟨x1.heap.size, Below.refl _ _, Nat.le_refl _, ?_⟩
      refine Tin.reg_quiets [8, 9, 10, 11, 12, 13, 14, 15, 16] _ 3 rfl (by simp only [Tin.pick, List.map_cons, List.map_nil, Array.getD_eq_getD_getElem?, List.getElem?_toArray, List.getElem?_cons_zero, List.getElem?_cons_succ, Option.getD_some]; rfl) (by kernel_rfl) (by kernel_rfl) ?_
      repeat (first | go_big_quiet_step (fail))
      refine wpQuiet_nil ?_
      clear kX kY kW kH
      refine Tin.reg_one 17 _ rfl (by kernel_rfl) ?_
      try simp only [List.getElem_toArray, List.getElem_cons_succ, List.getElem_cons_zero]
      go_wp2_with fail
      refine ⟨x1.heap.size, Below.refl _ _, Nat.le_refl _, ?_⟩
      refine Tin.reg_quiets [18, 19] _ 0 rfl (by simp only [Tin.pick, List.map_cons, List.map_nil, Array.getD_eq_getD_getElem?, List.getElem?_toArray, List.getElem?_cons_zero, List.getElem?_cons_succ, Option.getD_some]; rfl) (by kernel_rfl) (by kernel_rfl) ?_
      repeat (first | go_big_quiet_step (fail))
      refine wpQuiet_nil ?_
      refine Tin.reg_done (by kernel_rfl) ?_
      go_wp2_with ((with_reducible refine wpl_store_row rtR ?_ (.tmp 4) (.tmp 62) ?_ (w.heap.size) ?_ (rsrow 0 0 none 0 0) ?_ (rs_one _ _ _ _ _) 44 ?_ (rsrow 0 0 none 0 0) ?_ R4.out ?_); rfl; rfl; rfl; rfl; rfl; rfl; intro w9 hr9 hg9 hs9)
      exact bodyPost_ret (res_row_tmp rtR rfl _ _ w.heap.size 44 (rsrow 0 0 none 0 0) rfl (.int .i64 1) rfl rfl hr9) rfl ⟨rfl, HB.out.grown hg9 HB.out.size (fun k hk => by cases hk; omega)⟩
    have PW := Lib.hid hX.symm
    by_cases hY : Y = ptV H fy
    case neg =>
      clear hx0 hx1 hq1 hq2 HNO hX
      have n2 : (Y != ptV H fy) = true := by rw [bne_iff_ne]; exact hY
      have LT_R4 : _ < x1.heap.size := row_lt R4.out
      have LT_R10 : _ < x1.heap.size := row_lt R10.out
      have SZ : x1.heap.size ≤ x1.drew.heap.size := Nat.le_refl _
      have hb := ud' (brefl x1)
      replace R4 := Lib.hid ((hb.block _ (row_lt R4.out)).trans R4.out)
      replace HZ := Lib.hid (Nat.le_trans HZ.out hb.size)
      replace R10 := Lib.hid ((hb.block _ (row_lt R10.out)).trans R10.out)
      replace HB := Lib.hid (HB.out.trans (hb.mono HB.out.size))
      clear hb
      refine Tin.reg_begin (x1.heap.size) 20 (by rfl) (by kernel_rfl) ?_
      have HBS : w.heap.size ≤ x1.heap.size := HB.out.size
      have kW : ∀ p : Bel (x1.heap.size) x1.drew, p.w'.cell? ⟨b, off, none⟩ = some (.int .i64 W) := fun p => rng_keep (HB.out.trans (p.h.mono HBS)) hlt HR0.out 0 _ rfl
      have kH : ∀ p : Bel (x1.heap.size) x1.drew, p.w'.cell? ⟨b, off + 1, none⟩ = some (.int .i64 H) := fun p => rng_keep (HB.out.trans (p.h.mono HBS)) hlt HR0.out 1 _ rfl
      have kX : ∀ p : Bel (x1.heap.size) x1.drew, p.w'.cell? ⟨wr.heap.size, 0, none⟩ = some (.int .i64 X) := fun p => row_cell ((p.h.block _ LT_R10).trans R10.out) 0 rfl
      have kY : ∀ p : Bel (x1.heap.size) x1.drew, p.w'.cell? ⟨wr.heap.size, 1, none⟩ = some (.int .i64 Y) := fun p => row_cell ((p.h.block _ LT_R10).trans R10.out) 1 rfl
      refine Tin.reg_quiets [0, 1, 2, 3, 4, 5, 6] _ 13 rfl (by simp only [Tin.pick, List.map_cons, List.map_nil, Array.getD_eq_getD_getElem?, List.getElem?_toArray, List.getElem?_cons_zero, List.getElem?_cons_succ, Option.getD_some]; rfl) (by kernel_rfl) (by kernel_rfl) ?_
      repeat (first | go_big_quiet_step (fail))
      refine wpQuiet_nil ?_
      refine Tin.reg_one 7 _ rfl (by kernel_rfl) ?_
      try simp only [List.getElem_toArray, List.getElem_cons_succ, List.getElem_cons_zero]
      go_wp2_with fail
      refine (parts_any W fx _ (by omega) (by omega)).mono ?_
      rintro e w' ⟨rfl, rfl⟩
      rw [show (W + fx - 1) / fx = ptV W fx from rfl]
      rw [PW.out]
      go_wp2_with fail
      refine ⟨x1.heap.size, Below.refl _ _, Nat.le_refl _, ?_⟩
      refine Tin.reg_quiets [8, 9, 10, 11, 12, 13, 14, 15, 16] _ 3 rfl (by simp only [Tin.pick, List.map_cons, List.map_nil, Array.getD_eq_getD_getElem?, List.getElem?_toArray, List.getElem?_cons_zero, List.getElem?_cons_succ, Option.getD_some]; rfl) (by kernel_rfl) (by kernel_rfl) ?_
      repeat (first | go_big_quiet_step (fail))
      refine wpQuiet_nil ?_
      clear kX kY kW kH
      refine Tin.reg_one 17 _ rfl (by kernel_rfl) ?_
      try simp only [List.getElem_toArray, List.getElem_cons_succ, List.getElem_cons_zero]
      go_wp2_with fail
      refine (parts_any H fy _ (by omega) (by omega)).mono ?_
      rintro e w' ⟨rfl, rfl⟩
      rw [show (H + fy - 1) / fy = ptV H fy from rfl]
      go_wp2_with fail
      refine ⟨x1.heap.size, Below.refl _ _, Nat.le_refl _, ?_⟩
      refine Tin.reg_quiets [18, 19] _ 0 rfl (by simp only [Tin.pick, List.map_cons, List.map_nil, Array.getD_eq_getD_getElem?, List.getElem?_toArray, List.getElem?_cons_zero, List.getElem?_cons_succ, Option.getD_some]; rfl) (by kernel_rfl) (by kernel_rfl) ?_
      repeat (first | go_big_quiet_step (fail))
      refine wpQuiet_nil ?_
      refine Tin.reg_done (by kernel_rfl) ?_
      go_wp2_with ((with_reducible refine wpl_store_row rtR ?_ (.tmp 4) (.tmp 62) ?_ (w.heap.size) ?_ (rsrow 0 0 none 0 0) ?_ (rs_one _ _ _ _ _) 44 ?_ (rsrow 0 0 none 0 0) ?_ R4.out ?_); rfl; rfl; rfl; rfl; rfl; rfl; intro w9 hr9 hg9 hs9)
      exact bodyPost_ret (res_row_tmp rtR rfl _ _ w.heap.size 44 (rsrow 0 0 none 0 0) rfl (.int .i64 1) rfl rfl hr9) rfl ⟨rfl, HB.out.grown hg9 HB.out.size (fun k hk => by cases hk; omega)⟩
    have PH := Lib.hid hY.symm
    have hn1 : 1 ≤ i + 1 → W1 = ptV W fx ∧ H1 = ptV H fy := fun _ => by
      rcases (by omega : i = 0 ∨ i = 1) with h | h
      · obtain ⟨e1, e2⟩ := hx0 h; exact ⟨e1 ▸ hX, e2 ▸ hY⟩
      · exact hq1 (by omega)
    have hn2 : 2 ≤ i + 1 → W2 = ptV W fx ∧ H2 = ptV H fy := fun h2 => by
      obtain ⟨e1, e2⟩ := hx1 (by omega)
      exact ⟨e1 ▸ hX, e2 ▸ hY⟩
    replace hn1 := Lib.hid hn1
    replace hn2 := Lib.hid hn2
    clear hX hY hx0 hx1 hq1 hq2 HNO
    have LT_R4 : _ < x1.heap.size := row_lt R4.out
    have LT_R10 : _ < x1.heap.size := row_lt R10.out
    have SZ : x1.heap.size ≤ x1.drew.heap.size := Nat.le_refl _
    have hb := ud' (brefl x1)
    replace R4 := Lib.hid ((hb.block _ (row_lt R4.out)).trans R4.out)
    replace HZ := Lib.hid (Nat.le_trans HZ.out hb.size)
    replace R10 := Lib.hid ((hb.block _ (row_lt R10.out)).trans R10.out)
    replace HB := Lib.hid (HB.out.trans (hb.mono HB.out.size))
    clear hb
    refine Tin.reg_begin (x1.heap.size) 20 (by rfl) (by kernel_rfl) ?_
    have HBS : w.heap.size ≤ x1.heap.size := HB.out.size
    have kW : ∀ p : Bel (x1.heap.size) x1.drew, p.w'.cell? ⟨b, off, none⟩ = some (.int .i64 W) := fun p => rng_keep (HB.out.trans (p.h.mono HBS)) hlt HR0.out 0 _ rfl
    have kH : ∀ p : Bel (x1.heap.size) x1.drew, p.w'.cell? ⟨b, off + 1, none⟩ = some (.int .i64 H) := fun p => rng_keep (HB.out.trans (p.h.mono HBS)) hlt HR0.out 1 _ rfl
    have kX : ∀ p : Bel (x1.heap.size) x1.drew, p.w'.cell? ⟨wr.heap.size, 0, none⟩ = some (.int .i64 X) := fun p => row_cell ((p.h.block _ LT_R10).trans R10.out) 0 rfl
    have kY : ∀ p : Bel (x1.heap.size) x1.drew, p.w'.cell? ⟨wr.heap.size, 1, none⟩ = some (.int .i64 Y) := fun p => row_cell ((p.h.block _ LT_R10).trans R10.out) 1 rfl
    refine Tin.reg_quiets [0, 1, 2, 3, 4, 5, 6] _ 13 rfl (by simp only [Tin.pick, List.map_cons, List.map_nil, Array.getD_eq_getD_getElem?, List.getElem?_toArray, List.getElem?_cons_zero, List.getElem?_cons_succ, Option.getD_some]; rfl) (by kernel_rfl) (by kernel_rfl) ?_
    repeat (first | go_big_quiet_step (fail))
    refine wpQuiet_nil ?_
    refine Tin.reg_one 7 _ rfl (by kernel_rfl) ?_
    try simp only [List.getElem_toArray, List.getElem_cons_succ, List.getElem_cons_zero]
    go_wp2_with fail
    refine (parts_any W fx _ (by omega) (by omega)).mono ?_
    rintro e w' ⟨rfl, rfl⟩
    rw [show (W + fx - 1) / fx = ptV W fx from rfl]
    rw [PW.out]
    go_wp2_with fail
    refine ⟨x1.heap.size, Below.refl _ _, Nat.le_refl _, ?_⟩
    refine Tin.reg_quiets [8, 9, 10, 11, 12, 13, 14, 15, 16] _ 3 rfl (by simp only [Tin.pick, List.map_cons, List.map_nil, Array.getD_eq_getD_getElem?, List.getElem?_toArray, List.getElem?_cons_zero, List.getElem?_cons_succ, Option.getD_some]; rfl) (by kernel_rfl) (by kernel_rfl) ?_
    repeat (first | go_big_quiet_step (fail))
    refine wpQuiet_nil ?_
    clear kX kY kW kH
    refine Tin.reg_one 17 _ rfl (by kernel_rfl) ?_
    try simp only [List.getElem_toArray, List.getElem_cons_succ, List.getElem_cons_zero]
    go_wp2_with fail
    refine (parts_any H fy _ (by omega) (by omega)).mono ?_
    rintro e w' ⟨rfl, rfl⟩
    rw [show (H + fy - 1) / fy = ptV H fy from rfl]
    rw [PH.out]
    go_wp2_with fail
    refine ⟨x1.heap.size, Below.refl _ _, Nat.le_refl _, ?_⟩
    refine Tin.reg_quiets [18, 19] _ 0 rfl (by simp only [Tin.pick, List.map_cons, List.map_nil, Array.getD_eq_getD_getElem?, List.getElem?_toArray, List.getElem?_cons_zero, List.getElem?_cons_succ, Option.getD_some]; rfl) (by kernel_rfl) (by kernel_rfl) ?_
    repeat (first | go_big_quiet_step (fail))
    refine wpQuiet_nil ?_
    refine Tin.reg_done (by kernel_rfl) ?_
    go_wp2_with fail
    exact ⟨⟨i + 1, by omega, rfl, R4.out, HB.out, HZ.out, hn1.out, hn2.out⟩, by simp only [intOf]; omega⟩
set_option maxRecDepth 100000 in
set_option maxHeartbeats 8000000 in
theorem paint_yes (k : Int) (wd ht : Nat) (v : List Int) (q r : Pn) (A : Option Addr) (c : Nat) (w : World) (hs : PlS w A [⟨(wd : Int), (ht : Int), v⟩, q, r]) (hLc : 3 ≤ c) (hyes : okPt k [⟨(wd : Int), (ht : Int), v⟩, q, r] = true) :
    Calls Try.prog 19 #[.slice A 3 c, .int .i64 k] w fun e w' => ∃ A' c', e = .returned (.tuple #[rsA (wd : Int) (ht : Int) A' (3 * (wd * ht)) c', .int .i64 0]) ∧
      Own .u8 5 w' w.heap.size (.slice A' (3 * (wd * ht)) c') (gridT (pixV (wd : Int) (ht : Int) v q.W q.H q.v r.v (fH k) (fV k)) wd ht) ∧ Below w.heap.size w w' := by
  obtain ⟨r0, hb, hz⟩ := alloc1 w (.cells (rsrow 0 0 none 0 0) 44)
  have R4 := Lib.hid r0
  have HB := Lib.hid hb
  have HS := Lib.hid hs
  clear r0 hb hs
  go_enter Try.func19, Try.ntmps19
  go_wp2_with fail
  refine (factors_any k _).mono ?_
  rintro e w1 ⟨rfl, hb1⟩
  replace R4 := Lib.hid ((hb1.block _ (row_lt R4.out)).trans R4.out)
  replace HB := Lib.hid (HB.out.trans (hb1.mono HB.out.size))
  have HZ := Lib.hid (show w.heap.size + 1 ≤ w1.heap.size from Nat.le_trans (Nat.le_of_eq hz.symm) hb1.size)
  clear hb1 hz
  have hyes2 := hyes
  unfold okPt at hyes2
  simp only [Bool.and_eq_true, List.drop_succ_cons, List.drop_zero, List.all_cons, List.all_nil, decide_eq_true_eq, and_true, List.getD_cons_zero, Bool.not_eq_true'] at hyes2
  obtain ⟨hk, -, hbad, ⟨hqW, hqH⟩, hrW, hrH⟩ := hyes2
  have HBAD := Lib.hid hbad
  have HBD := Lib.hid (fHV_bd hk)
  rw [hk]
  clear hyes hk
  go_wp2_with fail
  refine (containsP_any A c [⟨(wd : Int), (ht : Int), v⟩, q, r] w1 (HS.out.keep HB.out) (by simp)).mono ?_
  rintro e w2 ⟨rfl, hb1⟩
  replace R4 := Lib.hid ((hb1.block _ (row_lt R4.out)).trans R4.out)
  replace HB := Lib.hid (HB.out.trans (hb1.mono HB.out.size))
  replace HZ := Lib.hid (Nat.le_trans HZ.out hb1.size)
  clear hb1
  rw [hbad]
  have HMP := Lib.hid hbad
  clear HBAD
  have hmm : mayP (wd : Int) (ht : Int) v = true ∧ mayP q.W q.H q.v = true ∧ mayP r.W r.H r.v = true := by
    have h := hbad
    simp only [List.any_cons, List.any_nil, Bool.or_false, Bool.or_eq_false_iff, badP, Bool.not_eq_false'] at h
    exact h
  clear hbad
  obtain ⟨b, off, A0, c0, A1, c1, A2, c2, rfl, hlt, hr0, hr1, hr2, ⟨hv0, hv1, hv2⟩, hl0, hl1, hl2⟩ := PlS.three HS.out
  clear HS
  obtain ⟨W1, H1, v1⟩ := q
  obtain ⟨W2, H2, v2⟩ := r
  dsimp only at *
  obtain ⟨W0a, W0b⟩ := mayP_W hmm.1
  obtain ⟨H0a, H0b⟩ := mayP_H hmm.1
  have HMM := Lib.hid hmm
  have HR0 := Lib.hid hr0
  have HR1 := Lib.hid hr1
  have HR2 := Lib.hid hr2
  have HV0 := Lib.hid hv0
  have HV1 := Lib.hid hv1
  have HV2 := Lib.hid hv2
  clear hmm hr0 hr1 hr2 hv0 hv1 hv2
  obtain ⟨⟨x0, x1⟩, y0, y1⟩ := HBD.out
  generalize hfx : fH k = fx at *
  generalize hfy : fV k = fy at *
  have HFX := Lib.hid hfx
  have HFY := Lib.hid hfy
  clear hfx hfy HBD
  have pW : ptV (wd : Int) fx = W1 := hqW.symm
  have pH : ptV (ht : Int) fy = H1 := hqH.symm
  have e1 : W1 = W2 := by rw [← pW, hrW]
  have e2 : H1 = H2 := by rw [← pH, hrH]
  subst e1
  subst e2
  have PW := Lib.hid pW
  have PH := Lib.hid pH
  clear hqW hqH hrW hrH pW pH
  go_wp2_with fail
  go_loopw [38] (fun s38 wr => ∃ (i : Nat), i ≤ 2 ∧ s38 = .int .i64 (i : Int) ∧ wr.heap[w.heap.size]? = some (.cells (rsrow 0 0 none 0 0) 44 (0, 0)) ∧ Below w.heap.size w wr ∧ w.heap.size + 1 ≤ wr.heap.size) (fun s38 _ => 2 - (intOf s38).toNat)
  case atStart => exact ⟨0, by omega, rfl, R4.out, HB.out, HZ.out⟩
  case round =>
    clear R4 HB HZ
    obtain ⟨i, hi, rfl, hr4, hb, hgs⟩ := hrel
    have R4 := Lib.hid hr4
    have HB := Lib.hid hb
    have HZ := Lib.hid hgs
    clear hr4 hb hgs
    by_cases hi2 : i < 2
    case neg =>
      obtain rfl : i = 2 := by omega
      rw [show ((2 : Nat) : Int) = 2 from rfl]
      go_wp2_with fail
      have HZW := HZ.out
      have LT_R4 : _ < wr.heap.size := row_lt R4.out
      have SZ : wr.heap.size ≤ wr.drew.heap.size := Nat.le_refl _
      have hb := ud' (brefl wr)
      replace R4 := Lib.hid ((hb.block _ (row_lt R4.out)).trans R4.out)
      replace HZ := Lib.hid (Nat.le_trans HZ.out hb.size)
      replace HB := Lib.hid (HB.out.trans (hb.mono HB.out.size))
      clear hb
      refine Tin.reg_begin (wr.heap.size) 11 (by rfl) (by kernel_rfl) ?_
      have HBS : w.heap.size ≤ wr.heap.size := HB.out.size
      have kW : ∀ p : Bel (wr.heap.size) wr.drew, p.w'.cell? ⟨b, off, none⟩ = some (.int .i64 (wd : Int)) := fun p => rng_keep (HB.out.trans (p.h.mono HBS)) hlt HR0.out 0 _ rfl
      have kH : ∀ p : Bel (wr.heap.size) wr.drew, p.w'.cell? ⟨b, off + 1, none⟩ = some (.int .i64 (ht : Int)) := fun p => rng_keep (HB.out.trans (p.h.mono HBS)) hlt HR0.out 1 _ rfl
      refine Tin.reg_quiets [0, 1, 2, 3, 4, 5, 6, 7, 8] _ 2 rfl (by simp only [Tin.pick, List.map_cons, List.map_nil, Array.getD_eq_getD_getElem?, List.getElem?_toArray, List.getElem?_cons_zero, List.getElem?_cons_succ, Option.getD_some]; rfl) (by kernel_rfl) (by kernel_rfl) ?_
      repeat (first | go_big_quiet_step (fail))
      refine wpQuiet_nil ?_
      clear kW kH
      refine Tin.reg_one 9 _ rfl (by kernel_rfl) ?_
      try simp only [List.getElem_toArray, List.getElem_cons_succ, List.getElem_cons_zero]
      go_wp2_with fail
      refine ⟨wr.heap.size, (ba (brefl wr.drew) (.cells (rsrow 0 0 none 0 0) 44)).mono SZ, Nat.le_refl _, ?_⟩
      refine Tin.reg_one 10 _ rfl (by kernel_rfl) ?_
      try simp only [List.getElem_toArray, List.getElem_cons_succ, List.getElem_cons_zero]
      go_wp2_with fail
      have hv2 : Below wr.drew.heap.size wr.drew (wr.alloc (.cells (rsrow (wd : Int) (ht : Int) none 0 0) 44)).drew := ⟨rfl, rfl, rfl, by simp, fun i hi => heap_alloc_old wr _ hi⟩
      refine ⟨wr.heap.size, ⟨rfl, rfl, rfl, by simp, fun i hi => (heap_alloc_old wr _ hi).trans (heap_alloc_old wr _ hi).symm⟩, Nat.le_refl _, ?_⟩
      have R11 := Lib.hid (show (wr.alloc (.cells (rsrow (wd : Int) (ht : Int) none 0 0) 44)).drew.heap[wr.heap.size]? = some (.cells (rsrow (wd : Int) (ht : Int) none 0 0) 44 (0, 0)) from heap_alloc_new wr _)
      replace R4 := Lib.hid ((hv2.block _ (row_lt R4.out)).trans R4.out)
      replace HB := Lib.hid (HB.out.trans (hv2.mono HB.out.size))
      have HGS : wr.heap.size + 1 ≤ (wr.alloc (.cells (rsrow (wd : Int) (ht : Int) none 0 0) 44)).drew.heap.size := by simp
      clear hv2 HZ SZ LT_R4 HBS
      generalize (wr.alloc (.cells (rsrow (wd : Int) (ht : Int) none 0 0) 44)).drew = u2 at *
      obtain ⟨w6, rfl⟩ : ∃ w6, w6 = wr := ⟨_, rfl⟩
      have HOW := Lib.hid (Own.nil_ .u8 5 u2 (w6.heap.size + 1))
      refine Tin.reg_done (by kernel_rfl) ?_
      have k1 := row_cell (v := .int .i64 (ht : Int)) R11.out 1 rfl
      go_wp2_with fail
      clear k1
      have h3 : ∀ x y, ((pixV (wd : Int) (ht : Int) v W1 H1 v1 v2 fx fy) x y).length = 3 := fun _ _ => rfl
      go_loopw [75] (fun s75 wr => ∃ (y : Nat) (A : Option Addr) (n c : Nat), y ≤ ht ∧ s75 = .int .i64 (y : Int) ∧ wr.heap[w6.heap.size]? = some (.cells (rsrow (wd : Int) (ht : Int) A n c) 44 (0, 0)) ∧ wr.heap[w.heap.size]? = some (.cells (rsrow 0 0 none 0 0) 44 (0, 0)) ∧ Own .u8 5 wr (w6.heap.size + 1) (.slice A n c) (gridT (pixV (wd : Int) (ht : Int) v W1 H1 v1 v2 fx fy) wd y) ∧ Below w.heap.size w wr ∧ w6.heap.size + 1 ≤ wr.heap.size) (fun s75 _ => ht - (intOf s75).toNat)
      case atStart => exact ⟨0, none, 0, 0, by omega, rfl, R11.out, R4.out, HOW.out, HB.out, HGS⟩
      case round =>
        clear R11 R4 HOW HB HGS
        obtain ⟨y, A3, n, c3, hy, rfl, hG, hZ, hO, hb, hgs⟩ := hrel
        have HG := Lib.hid hG
        have HZ := Lib.hid hZ
        clear hG hZ
        by_cases hyh : y < ht
        case neg =>
          obtain rfl : y = ht := by omega
          have hn3 := hO.sl'.1
          rw [gridT_len h3] at hn3
          subst hn3
          have HO := Lib.hid hO
          clear hO
          go_wp2_with (first | ((with_reducible refine wpl_load_row rtR ?_ (.tmp 11) ?_ w6.heap.size ?_ 44 (rsrow (wd : Int) (y : Int) A3 (3 * (wd * y)) c3) ?_ HG.out ?_); rfl; rfl; rfl; rfl; simp only [Act.put, List.setIfInBounds_toArray, List.set_cons_succ, List.set_cons_zero]) | ((with_reducible refine wpl_store_row rtR ?_ (.tmp 4) (.tmp 130) ?_ (w.heap.size) ?_ (rsrow (wd : Int) (y : Int) A3 (3 * (wd * y)) c3) ?_ (rs_one _ _ _ _ _) 44 ?_ (rsrow 0 0 none 0 0) ?_ HZ.out ?_); rfl; rfl; rfl; rfl; rfl; rfl; intro w5 hr5 hg5 hs5))
          have hk := HO.out.kept hg5 (ne_own (fun q hq => by have := (World.ownsRow.lt HO.out q hq).1; omega))
          exact bodyPost_ret (res_row_tmp rtR rfl _ _ w.heap.size 44 (rsrow (wd : Int) (y : Int) A3 (3 * (wd * y)) c3) rfl (.int .i64 0) rfl rfl hr5) rfl ⟨A3, c3, rfl, by rw [HFX.out, HFY.out]; exact hk.mono (show w.heap.size ≤ w6.heap.size + 1 by omega), hb.grown hg5 hb.size (fun k hk => by cases hk; omega)⟩
        have hy1 : (y : Int) < (ht : Int) := by omega
        have HO := Lib.hid hO
        have HB := Lib.hid hb
        clear hO hb
        have k0 := row_cell (v := .int .i64 (wd : Int)) HG.out 0 rfl
        go_wp2_with fail
        clear k0
        go_loopw [80] (fun s80 wr => ∃ (x : Nat) (A : Option Addr) (n c : Nat), x ≤ wd ∧ s80 = .int .i64 (x : Int) ∧ wr.heap[w6.heap.size]? = some (.cells (rsrow (wd : Int) (ht : Int) A n c) 44 (0, 0)) ∧ wr.heap[w.heap.size]? = some (.cells (rsrow 0 0 none 0 0) 44 (0, 0)) ∧ Own .u8 5 wr (w6.heap.size + 1) (.slice A n c) (gridT (pixV (wd : Int) (ht : Int) v W1 H1 v1 v2 fx fy) wd y ++ linT (pixV (wd : Int) (ht : Int) v W1 H1 v1 v2 fx fy) y x) ∧ Below w.heap.size w wr ∧ w6.heap.size + 1 ≤ wr.heap.size) (fun s80 _ => wd - (intOf s80).toNat)
        case atStart => exact ⟨0, A3, n, c3, by omega, rfl, HG.out, HZ.out, by rw [linT, List.append_nil]; exact HO.out, HB.out, hgs⟩
        case round =>
          clear HG HZ HO HB hgs
          obtain ⟨x, A3, n, c3, hx, rfl, hG, hZ, hO, hb, hgs⟩ := hrel
          have HG := Lib.hid hG
          have HZ := Lib.hid hZ
          have HO := Lib.hid hO
          have HB := Lib.hid hb
          have HSZ := Lib.hid hgs
          clear hG hZ hO hb hgs
          by_cases hxw : x < wd
          case neg =>
            obtain rfl : x = wd := by omega
            go_wp2_with fail
            exact ⟨⟨y + 1, A3, n, c3, by omega, rfl, HG.out, HZ.out, HO.out, HB.out, HSZ.out⟩, by simp only [intOf]; omega⟩
          have hx1 : (x : Int) < (wd : Int) := by omega
          have hln := gridT_le h3 (show wd ≤ 4096 by omega) (show y ≤ 4096 by omega) (show x ≤ 4096 by omega)
          have dx0 : 0 ≤ (x : Int) / fx := Int.ediv_nonneg (by omega) (by omega)
          have dx1 : (x : Int) / fx ≤ (x : Int) := Int.ediv_le_self _ (by omega)
          have dy0 : 0 ≤ (y : Int) / fy := Int.ediv_nonneg (by omega) (by omega)
          have dy1 : (y : Int) / fy ≤ (y : Int) := Int.ediv_le_self _ (by omega)
          have HPX := Lib.hid (show (pixV (wd : Int) (ht : Int) v W1 H1 v1 v2 fx fy) x y = [paiR (nearV (wd : Int) (ht : Int) v x y) (nearV W1 H1 v1 ((x : Int) / fx) ((y : Int) / fy)) (nearV W1 H1 v2 ((x : Int) / fx) ((y : Int) / fy)), paiG (nearV (wd : Int) (ht : Int) v x y) (nearV W1 H1 v1 ((x : Int) / fx) ((y : Int) / fy)) (nearV W1 H1 v2 ((x : Int) / fx) ((y : Int) / fy)), paiB (nearV (wd : Int) (ht : Int) v x y) (nearV W1 H1 v1 ((x : Int) / fx) ((y : Int) / fy)) (nearV W1 H1 v2 ((x : Int) / fx) ((y : Int) / fy))] from rfl)
          go_wp2_with fail
          have LT_HG : _ < wr.heap.size := row_lt HG.out
          have LT_HZ : _ < wr.heap.size := row_lt HZ.out
          have SZ : wr.heap.size ≤ wr.drew.heap.size := Nat.le_refl _
          have hb := ud' (brefl wr)
          replace HG := Lib.hid ((hb.block _ (row_lt HG.out)).trans HG.out)
          replace HZ := Lib.hid ((hb.block _ (row_lt HZ.out)).trans HZ.out)
          replace HO := Lib.hid (HO.out.keep hb)
          replace HSZ := Lib.hid (Nat.le_trans HSZ.out hb.size)
          replace HB := Lib.hid (HB.out.trans (hb.mono HB.out.size))
          clear hb
          refine Tin.reg_begin (wr.heap.size) 37 (by rfl) (by kernel_rfl) ?_
          have HBS : w.heap.size ≤ wr.heap.size := HB.out.size
          have HRG0 := Lib.hid (fun (Z : World) (h : Below (wr.heap.size) wr.drew Z) => rng_keep (HB.out.trans (h.mono HBS)) hlt HR0.out)
          have HRG1 := Lib.hid (fun (Z : World) (h : Below (wr.heap.size) wr.drew Z) => rng_keep (HB.out.trans (h.mono HBS)) hlt HR1.out)
          have HRG2 := Lib.hid (fun (Z : World) (h : Below (wr.heap.size) wr.drew Z) => rng_keep (HB.out.trans (h.mono HBS)) hlt HR2.out)
          refine Tin.reg_quiets [0, 1, 2, 3, 4, 5, 7, 8, 9, 10, 11, 12, 13, 14, 15, 16, 18, 19, 20, 21, 22, 23, 24, 25, 26, 27] _ 11 rfl (by simp only [Tin.pick, List.map_cons, List.map_nil, Array.getD_eq_getD_getElem?, List.getElem?_toArray, List.getElem?_cons_zero, List.getElem?_cons_succ, Option.getD_some]; rfl) (by kernel_rfl) (by kernel_rfl) ?_
          repeat (first | ((with_reducible refine wpq_loadv rtP ?_ (.tmp 85) ?_ b off ?_ [.int .i64 (wd : Int), .int .i64 (ht : Int), .slice A0 v.length c0] ?_ (fun Z h => by obtain ⟨p, rfl⟩ := h; exact HRG0.out _ p.h) ?_); rfl; rfl; rfl; rfl; simp only [Act.put, List.setIfInBounds_toArray, List.set_cons_succ, List.set_cons_zero]) | ((with_reducible refine wpq_loadv rtP ?_ (.tmp 92) ?_ b (off + 3) ?_ [.int .i64 W1, .int .i64 H1, .slice A1 v1.length c1] ?_ (fun Z h => by obtain ⟨p, rfl⟩ := h; exact HRG1.out _ p.h) ?_); rfl; rfl; rfl; rfl; simp only [Act.put, List.setIfInBounds_toArray, List.set_cons_succ, List.set_cons_zero]) | ((with_reducible refine wpq_loadv rtP ?_ (.tmp 103) ?_ b (off + 6) ?_ [.int .i64 W1, .int .i64 H1, .slice A2 v2.length c2] ?_ (fun Z h => by obtain ⟨p, rfl⟩ := h; exact HRG2.out _ p.h) ?_); rfl; rfl; rfl; rfl; simp only [Act.put, List.setIfInBounds_toArray, List.set_cons_succ, List.set_cons_zero]) | go_big_quiet_step (fail))
          refine wpQuiet_nil ?_
          clear HRG0 HRG1 HRG2
          refine Tin.reg_one 6 _ rfl (by kernel_rfl) ?_
          try simp only [List.getElem_toArray, List.getElem_cons_succ, List.getElem_cons_zero]
          go_wp2_with fail
          refine (near_any (wd : Int) (ht : Int) x y A0 c0 v _ (HV0.out.keep HB.out) (mayP_W HMM.out.1) (mayP_H HMM.out.1) (mayP_n HMM.out.1) (by omega) (by omega)).mono ?_
          rintro e z1 ⟨rfl, hv⟩
          go_wp2_with fail
          refine ⟨wr.heap.size, hv.mono SZ, Nat.le_refl _, ?_⟩
          replace HG := Lib.hid ((hv.block _ (row_lt HG.out)).trans HG.out)
          replace HZ := Lib.hid ((hv.block _ (row_lt HZ.out)).trans HZ.out)
          replace HO := Lib.hid (HO.out.keep hv)
          replace HSZ := Lib.hid (Nat.le_trans HSZ.out hv.size)
          replace HB := Lib.hid (HB.out.trans (hv.mono HB.out.size))
          replace SZ := Nat.le_trans SZ hv.size
          clear hv
          refine Tin.reg_one 17 _ rfl (by kernel_rfl) ?_
          try simp only [List.getElem_toArray, List.getElem_cons_succ, List.getElem_cons_zero]
          go_wp2_with fail
          refine (near_any W1 H1 ((x : Int) / fx) ((y : Int) / fy) A1 c1 v1 _ (HV1.out.keep HB.out) (mayP_W HMM.out.2.1) (mayP_H HMM.out.2.1) (mayP_n HMM.out.2.1) (by omega) (by omega)).mono ?_
          rintro e z2 ⟨rfl, hv⟩
          go_wp2_with fail
          refine ⟨wr.heap.size, hv.mono SZ, Nat.le_refl _, ?_⟩
          replace HG := Lib.hid ((hv.block _ (row_lt HG.out)).trans HG.out)
          replace HZ := Lib.hid ((hv.block _ (row_lt HZ.out)).trans HZ.out)
          replace HO := Lib.hid (HO.out.keep hv)
          replace HSZ := Lib.hid (Nat.le_trans HSZ.out hv.size)
          replace HB := Lib.hid (HB.out.trans (hv.mono HB.out.size))
          replace SZ := Nat.le_trans SZ hv.size
          clear hv
          refine Tin.reg_one 28 _ rfl (by kernel_rfl) ?_
          try simp only [List.getElem_toArray, List.getElem_cons_succ, List.getElem_cons_zero]
          go_wp2_with fail
          refine (near_any W1 H1 ((x : Int) / fx) ((y : Int) / fy) A2 c2 v2 _ (HV2.out.keep HB.out) (mayP_W HMM.out.2.2) (mayP_H HMM.out.2.2) (mayP_n HMM.out.2.2) (by omega) (by omega)).mono ?_
          rintro e z3 ⟨rfl, hv⟩
          go_wp2_with fail
          refine ⟨wr.heap.size, hv.mono SZ, Nat.le_refl _, ?_⟩
          replace HG := Lib.hid ((hv.block _ (row_lt HG.out)).trans HG.out)
          replace HZ := Lib.hid ((hv.block _ (row_lt HZ.out)).trans HZ.out)
          replace HO := Lib.hid (HO.out.keep hv)
          replace HSZ := Lib.hid (Nat.le_trans HSZ.out hv.size)
          replace HB := Lib.hid (HB.out.trans (hv.mono HB.out.size))
          replace SZ := Nat.le_trans SZ hv.size
          clear hv
          generalize nearV (wd : Int) (ht : Int) v x y = N0 at *
          generalize nearV W1 H1 v1 ((x : Int) / fx) ((y : Int) / fy) = N1 at *
          generalize nearV W1 H1 v2 ((x : Int) / fx) ((y : Int) / fy) = N2 at *
          refine Tin.reg_one 29 _ rfl (by kernel_rfl) ?_
          try simp only [List.getElem_toArray, List.getElem_cons_succ, List.getElem_cons_zero]
          go_wp2_with fail
          refine (paint_any N0 N1 N2 _).mono ?_
          rintro e z4 ⟨rfl, hv⟩
          go_wp2_with fail
          refine ⟨wr.heap.size, hv.mono SZ, Nat.le_refl _, ?_⟩
          replace HG := Lib.hid ((hv.block _ (row_lt HG.out)).trans HG.out)
          replace HZ := Lib.hid ((hv.block _ (row_lt HZ.out)).trans HZ.out)
          replace HO := Lib.hid (HO.out.keep hv)
          replace HSZ := Lib.hid (Nat.le_trans HSZ.out hv.size)
          replace HB := Lib.hid (HB.out.trans (hv.mono HB.out.size))
          replace SZ := Nat.le_trans SZ hv.size
          clear hv
          obtain ⟨⟨b0, b1⟩, ⟨b2, b3⟩, b4, b5⟩ := pai_bd N0 N1 N2
          generalize paiR N0 N1 N2 = P0 at *
          generalize paiG N0 N1 N2 = P1 at *
          generalize paiB N0 N1 N2 = P2 at *
          refine Tin.reg_quiets [30, 31, 32, 33, 34, 35, 36] _ 0 rfl (by simp only [Tin.pick, List.map_cons, List.map_nil, Array.getD_eq_getD_getElem?, List.getElem?_toArray, List.getElem?_cons_zero, List.getElem?_cons_succ, Option.getD_some]; rfl) (by kernel_rfl) (by kernel_rfl) ?_
          repeat (first | go_big_quiet_step (fail))
          refine wpQuiet_nil ?_
          have HLO := Lib.hid (World.ownsRow.lt HO.out)
          have k2 := row_cell (v := .slice A3 n c3) HG.out 2 rfl
          refine Tin.reg_done (by kernel_rfl) ?_
          go_wp2_with (at_builtin; refine Tin.wpl_app bt5 _ rfl (.tmp 118) (.tmp 125) rfl (w6.heap.size + 1) (.slice A3 n c3) (gridT (pixV (wd : Int) (ht : Int) v W1 H1 v1 v2 fx fy) wd y ++ linT (pixV (wd : Int) (ht : Int) v W1 H1 v1 v2 fx fy) y x) rfl (HO.out.alloc _) (some ⟨z4.heap.size, 0, none⟩) 3 3 [P0, P1, P2] rfl (Sl.new_ _ _ _ _ rfl) rfl (by simp only [List.length_cons, List.length_nil]; omega) (by simp only [List.length_cons, List.length_nil]; omega) (by have := HSZ.out; simp; omega) ?_; intro x6 q6 ho6 hg6 how6; obtain ⟨A6, c6, rfl⟩ := own_form ho6; obtain ⟨n6, hn6⟩ : ∃ n6, ((gridT (pixV (wd : Int) (ht : Int) v W1 H1 v1 v2 fx fy) wd y ++ linT (pixV (wd : Int) (ht : Int) v W1 H1 v1 v2 fx fy) y x) ++ [P0, P1, P2]).length = n6 := ⟨_, rfl⟩; rw [hn6] at ho6 how6 ⊢; have HN6 := Lib.hid hn6; clear hn6; have hgg := (World.grownBy_alloc z4 (.cells #[.int .u8 P0, .int .u8 P1, .int .u8 P2] 5) (Value.slice A3 n c3).ownBlock).trans hg6; have HO6 := Lib.hid ho6; have HG6 := Lib.hid ((hgg.block _ (row_lt HG.out) (fun e => by have := (HLO.out _ e.symm).1; omega)).trans HG.out); have HZ6 := Lib.hid ((hgg.block _ (row_lt HZ.out) (fun e => by have := (HLO.out _ e.symm).1; omega)).trans HZ.out); have HB6 := Lib.hid (HB.out.grown hgg HB.out.size (fun q hq => by have := (HLO.out q hq).1; omega)); have hz6 : w6.heap.size + 1 ≤ q6.heap.size := Nat.le_trans HSZ.out hgg.size; have cc6 := row_cell (v := .slice A3 n c3) HG6.out 2 rfl; have f6 := frozen_of_row q6 w6.heap.size 2 _ _ HG6.out; clear ho6 hg6 how6 hgg; simp only [Act.put, List.setIfInBounds_toArray, List.set_cons_succ, List.set_cons_zero])
          have hk6 := grown_setCells w6.heap.size [.slice A6 n6 c6] 2 q6 q6 (World.grownBy.refl q6 _)
          exact ⟨⟨x + 1, A6, n6, c6, by omega, rfl, row_set HG6.out 2 _, by rw [heap_setCell_other _ _ _ _ (by show w.heap.size ≠ w6.heap.size; omega)]; exact HZ6.out, by rw [linT, ← List.append_assoc, HPX.out]; exact HO6.out.kept hk6 (ne_own (fun q hq => by have := (World.ownsRow.lt HO6.out q hq).1; omega)), HB6.out.setCell (by show w.heap.size ≤ w6.heap.size; omega) _, by simp only [World.setCell]; simp; omega⟩, by simp only [intOf]; omega⟩
    have i1 : (i : Int) < 2 := by omega
    have hel : ∃ (X Y : Int) (Ai : Option Addr) (ni ci : Nat), w.rangeAt b (off + 3 + i * 3) [.int .i64 X, .int .i64 Y, .slice Ai ni ci] ∧ (i = 0 → X = W1 ∧ Y = H1) ∧ (i = 1 → X = W1 ∧ Y = H1) := by
      rcases (by omega : i = 0 ∨ i = 1) with rfl | rfl
      · exact ⟨_, _, _, _, _, HR1.out, fun _ => ⟨rfl, rfl⟩, fun h => absurd h (by decide)⟩
      · exact ⟨_, _, _, _, _, HR2.out, fun h => absurd h (by decide), fun _ => ⟨rfl, rfl⟩⟩
    obtain ⟨X, Y, Ai, ni, ci, hri, hx0, hx1⟩ := hel
    have HRI := Lib.hid (rng_keep HB.out hlt hri)
    clear hri
    have hXY : X = W1 ∧ Y = H1 := by
      rcases (by omega : i = 0 ∨ i = 1) with h | h
      · exact hx0 h
      · exact hx1 h
    obtain ⟨rfl, rfl⟩ := hXY
    clear hx0 hx1
    go_wp2_with ((with_reducible refine wpl_loadv rtP ?_ (.tmp 40) ?_ b (off + 3 + i * 3) ?_ [.int .i64 X, .int .i64 Y, .slice Ai ni ci] ?_ HRI.out ?_); rfl; rfl; rfl; rfl; simp only [Act.put, List.setIfInBounds_toArray, List.set_cons_succ, List.set_cons_zero])
    have hb := (ba (brefl wr) (.cells #[.int .i64 X, .int .i64 Y, .slice Ai ni ci] 24))
    have R10 := (alloc1 wr (.cells #[.int .i64 X, .int .i64 Y, .slice Ai ni ci] 24)).1
    replace R4 := Lib.hid ((hb.block _ (row_lt R4.out)).trans R4.out)
    replace HZ := Lib.hid (Nat.le_trans HZ.out hb.size)
    replace HB := Lib.hid (HB.out.trans (hb.mono HB.out.size))
    clear hb
    replace R10 := Lib.hid R10
    generalize (wr.alloc (.cells #[.int .i64 X, .int .i64 Y, .slice Ai ni ci] 24)) = x1 at *
    have LT_R4 : _ < x1.heap.size := row_lt R4.out
    have LT_R10 : _ < x1.heap.size := row_lt R10.out
    have SZ : x1.heap.size ≤ x1.drew.heap.size := Nat.le_refl _
    have hb := ud' (brefl x1)
    replace R4 := Lib.hid ((hb.block _ (row_lt R4.out)).trans R4.out)
    replace HZ := Lib.hid (Nat.le_trans HZ.out hb.size)
    replace R10 := Lib.hid ((hb.block _ (row_lt R10.out)).trans R10.out)
    replace HB := Lib.hid (HB.out.trans (hb.mono HB.out.size))
    clear hb
    refine Tin.reg_begin (x1.heap.size) 20 (by rfl) (by kernel_rfl) ?_
    have HBS : w.heap.size ≤ x1.heap.size := HB.out.size
    have kW : ∀ p : Bel (x1.heap.size) x1.drew, p.w'.cell? ⟨b, off, none⟩ = some (.int .i64 (wd : Int)) := fun p => rng_keep (HB.out.trans (p.h.mono HBS)) hlt HR0.out 0 _ rfl
    have kH : ∀ p : Bel (x1.heap.size) x1.drew, p.w'.cell? ⟨b, off + 1, none⟩ = some (.int .i64 (ht : Int)) := fun p => rng_keep (HB.out.trans (p.h.mono HBS)) hlt HR0.out 1 _ rfl
    have kX : ∀ p : Bel (x1.heap.size) x1.drew, p.w'.cell? ⟨wr.heap.size, 0, none⟩ = some (.int .i64 X) := fun p => row_cell ((p.h.block _ LT_R10).trans R10.out) 0 rfl
    have kY : ∀ p : Bel (x1.heap.size) x1.drew, p.w'.cell? ⟨wr.heap.size, 1, none⟩ = some (.int .i64 Y) := fun p => row_cell ((p.h.block _ LT_R10).trans R10.out) 1 rfl
    refine Tin.reg_quiets [0, 1, 2, 3, 4, 5, 6] _ 13 rfl (by simp only [Tin.pick, List.map_cons, List.map_nil, Array.getD_eq_getD_getElem?, List.getElem?_toArray, List.getElem?_cons_zero, List.getElem?_cons_succ, Option.getD_some]; rfl) (by kernel_rfl) (by kernel_rfl) ?_
    repeat (first | go_big_quiet_step (fail))
    refine wpQuiet_nil ?_
    refine Tin.reg_one 7 _ rfl (by kernel_rfl) ?_
    try simp only [List.getElem_toArray, List.getElem_cons_succ, List.getElem_cons_zero]
    go_wp2_with fail
    refine (parts_any (wd : Int) fx _ (by omega) (by omega)).mono ?_
    rintro e w' ⟨rfl, rfl⟩
    rw [show ((wd : Int) + fx - 1) / fx = ptV (wd : Int) fx from rfl]
    rw [PW.out]
    go_wp2_with fail
    refine ⟨x1.heap.size, Below.refl _ _, Nat.le_refl _, ?_⟩
    refine Tin.reg_quiets [8, 9, 10, 11, 12, 13, 14, 15, 16] _ 3 rfl (by simp only [Tin.pick, List.map_cons, List.map_nil, Array.getD_eq_getD_getElem?, List.getElem?_toArray, List.getElem?_cons_zero, List.getElem?_cons_succ, Option.getD_some]; rfl) (by kernel_rfl) (by kernel_rfl) ?_
    repeat (first | go_big_quiet_step (fail))
    refine wpQuiet_nil ?_
    clear kX kY kW kH
    refine Tin.reg_one 17 _ rfl (by kernel_rfl) ?_
    try simp only [List.getElem_toArray, List.getElem_cons_succ, List.getElem_cons_zero]
    go_wp2_with fail
    refine (parts_any (ht : Int) fy _ (by omega) (by omega)).mono ?_
    rintro e w' ⟨rfl, rfl⟩
    rw [show ((ht : Int) + fy - 1) / fy = ptV (ht : Int) fy from rfl]
    rw [PH.out]
    go_wp2_with fail
    refine ⟨x1.heap.size, Below.refl _ _, Nat.le_refl _, ?_⟩
    refine Tin.reg_quiets [18, 19] _ 0 rfl (by simp only [Tin.pick, List.map_cons, List.map_nil, Array.getD_eq_getD_getElem?, List.getElem?_toArray, List.getElem?_cons_zero, List.getElem?_cons_succ, Option.getD_some]; rfl) (by kernel_rfl) (by kernel_rfl) ?_
    repeat (first | go_big_quiet_step (fail))
    refine wpQuiet_nil ?_
    refine Tin.reg_done (by kernel_rfl) ?_
    go_wp2_with fail
    exact ⟨⟨i + 1, by omega, rfl, R4.out, HB.out, HZ.out⟩, by simp only [intOf]; omega⟩
end Go.Proofs.Ytajobboldjgidaa
