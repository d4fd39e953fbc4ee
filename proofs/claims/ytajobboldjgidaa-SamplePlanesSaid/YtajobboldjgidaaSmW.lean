/- The reference's planes of a picture. -/
import Derived.Test.YtajobboldjgidaaSmV
import Derived.Test.YtajobboldjgidaaSmP
namespace Go.Proofs.Ytajobboldjgidaa
open Go.RowKit
open Go.Tin
set_option linter.unusedVariables false
set_option linter.unusedSimpArgs false


theorem posR_N (wd x y : Nat) : posR (wd : Int) (x : Int) (y : Int) = 3 * (y * wd + x) := by
  unfold posR
  rw [show (3 * ((y : Int) * (wd : Int) + (x : Int))) = ((3 * (y * wd + x) : Nat) : Int) by push_cast; rfl, Int.toNat_natCast]
theorem lum_row (Y B R : Int) {i : Nat} (hi : i < 3) : (#[.int .i64 Y, .int .i64 B, .int .i64 R] : Array Value)[i]? = some (.int .i64 (nth [Y, B, R] i)) := by
  have : i = 0 ∨ i = 1 ∨ i = 2 := by omega
  rcases this with rfl | rfl | rfl <;> rfl
set_option maxRecDepth 100000 in
set_option maxHeartbeats 8000000 in
theorem rplanes_any (k : Int) (wd ht h s : Nat) (l : List Int) (A : Option Addr) (c : Nat) (w : World) (hs : Sl .u8 w A l) (hby : Byts l) (hl : l.length ≤ 900000) (hk : okK k = true) (hmb : mayB (wd : Int) (ht : Int) l.length = true) (hfx : fH k = (h : Int)) (hfy : fV k = (s : Int)) :
    Calls Try.prog 30 #[rsA (wd : Int) (ht : Int) A l.length c, .int .i64 k] w fun e w' => ∃ A' c' xs, e = .returned (.slice A' 3 c') ∧ OwnV 24 3 w' w.heap.size (.slice A' 3 c') 3 xs ∧ OwnP w' w.heap.size xs (plL l wd ht h s 3) ∧ Below w.heap.size w w' := by
  obtain ⟨⟨W0a, W0b⟩, ⟨H0a, H0b⟩, hn3⟩ := mayB_t hmb
  obtain ⟨⟨x0, x1⟩, y0, y1⟩ := fHV_bd hk
  rw [hfx] at x0 x1
  rw [hfy] at y0 y1
  have hh : 1 ≤ h ∧ h ≤ 2 := by omega
  have hv : 1 ≤ s ∧ s ≤ 2 := by omega
  obtain ⟨r0, hb, hz⟩ := alloc1 w (.cells (rsrow (wd : Int) (ht : Int) A l.length c) 44)
  have R2 := Lib.hid r0
  have HB := Lib.hid hb
  have HS := Lib.hid hs
  have HFX := Lib.hid hfx
  have HFY := Lib.hid hfy
  have HN3 := Lib.hid hn3
  have HBY := Lib.hid hby
  have HH := Lib.hid hh
  have HV := Lib.hid hv
  have hsz0 : w.heap.size + 1 ≤ (w.alloc (.cells (rsrow (wd : Int) (ht : Int) A l.length c) 44)).heap.size := Nat.le_of_eq hz.symm
  clear r0 hb hs hfx hfy hmb hby hn3 hz hk
  go_enter Try.func30, Try.ntmps30
  go_wp2_with fail
  refine (rfactors_any k _).mono ?_
  rintro e w' ⟨rfl, rfl⟩
  rw [HFX.out, HFY.out]
  generalize (w.alloc (.cells (rsrow (wd : Int) (ht : Int) A l.length c) 44)) = w1 at *
  go_wp2_with fail
  go_loopw [8, 5] (fun s8 s5 wr => ∃ (i : Nat) (A1 : Option Addr) (c1 : Nat) (xs : List Value), i ≤ 3 ∧ s8 = .int .i64 (i : Int) ∧ s5 = .slice A1 i c1 ∧ OwnV 24 3 wr w.heap.size (.slice A1 i c1) i xs ∧ OwnP wr w.heap.size xs (plL l wd ht h s i) ∧
      wr.heap[w.heap.size]? = some (.cells (rsrow (wd : Int) (ht : Int) A l.length c) 44 (0, 0)) ∧ Below w.heap.size w wr) (fun s8 _ _ => 3 - (intOf s8).toNat)
  case atStart => exact ⟨0, none, 0, [], by omega, rfl, rfl, OwnV.nil_ _ _ _ _, .nil, R2.out, HB.out⟩
  case round =>
    clear R2 HB hsz0
    obtain ⟨i, A1, c1, xs, hi, rfl, rfl, hov, hpv, hr2, hb⟩ := hrel
    have OV := Lib.hid hov
    have OP := Lib.hid hpv
    have R2 := Lib.hid hr2
    have HB := Lib.hid hb
    clear hov hpv hr2 hb
    by_cases hi3 : i < 3
    case neg =>
      obtain rfl : i = 3 := by omega
      go_wp2_with fail
      go_ret
      exact ⟨A1, c1, xs, rfl, OV.out, OP.out, HB.out⟩
    have i1 : (i : Int) < 3 := by omega
    have k0 := row_cell (v := .int .i64 (wd : Int)) R2.out 0 rfl
    have k1 := row_cell (v := .int .i64 (ht : Int)) R2.out 1 rfl
    have hlt2 := row_lt R2.out
    go_wp2_with fail
    clear k0 k1
    have SW := Lib.hid (ba (brefl wr) (.cells (plrow (wd : Int) (ht : Int) none 0 0) 24))
    have HG := Lib.hid (heap_alloc_new wr (.cells (plrow (wd : Int) (ht : Int) none 0 0) 24))
    have HO := Lib.hid (Own.nil_ .i64 3 (wr.alloc (.cells (plrow (wd : Int) (ht : Int) none 0 0) 24)) (wr.heap.size + 1))
    have HGS : wr.heap.size + 1 ≤ (wr.alloc (.cells (plrow (wd : Int) (ht : Int) none 0 0) 24)).heap.size := by simp
    generalize (wr.alloc (.cells (plrow (wd : Int) (ht : Int) none 0 0) 24)) = u2 at *
    obtain ⟨w7, rfl⟩ : ∃ w7, w7 = wr := ⟨_, rfl⟩
    go_loopw [10] (fun s10 wr => ∃ (y : Nat) (A3 : Option Addr) (n c3 : Nat), y ≤ ht ∧ s10 = .int .i64 (y : Int) ∧ wr.heap[w7.heap.size]? = some (.cells (plrow (wd : Int) (ht : Int) A3 n c3) 24 (0, 0)) ∧ Own .i64 3 wr (w7.heap.size + 1) (.slice A3 n c3) (grid (pcV l wd i) wd y) ∧ Below w7.heap.size w7 wr ∧ w7.heap.size + 1 ≤ wr.heap.size) (fun s10 _ => ht - (intOf s10).toNat)
    case atStart => exact ⟨0, none, 0, 0, by omega, rfl, HG.out, HO.out, SW.out, HGS⟩
    case round =>
      clear HG HO SW HGS
      obtain ⟨y, A3, n, c3, hy, rfl, hG, hO, hb, hgs⟩ := hrel
      have HG := Lib.hid hG
      have HO := Lib.hid hO
      have SW := Lib.hid hb
      clear hG hO hb
      have R2c := Lib.hid ((SW.out.block _ hlt2).trans R2.out)
      have k1 := row_cell (v := .int .i64 (ht : Int)) R2c.out 1 rfl
      by_cases hyh : y < ht
      case neg =>
        obtain rfl : y = ht := by omega
        have hn3' := HO.out.sl'.1
        rw [grid_len] at hn3'
        subst hn3'
        have OVc := Lib.hid (OV.out.keep SW.out)
        have OPc := Lib.hid (OP.out.keep SW.out)
        have hl5 : (grid (pcV l wd i) wd y).length = wd * y := grid_len _ _ _
        have HL5 := Lib.hid hl5
        clear hl5
        by_cases hi0 : i = 0
        · have HPO := Lib.hid (show plO l wd y h s i = ⟨(wd : Int), (y : Int), grid (pcV l wd i) wd y⟩ by unfold plO; rw [if_pos hi0, hi0])
          have i0 : ¬ (0 : Int) < (i : Int) := by omega
          clear hi0
          have hle : w.heap.size ≤ w7.heap.size + 1 := by omega
          go_wp2_with (first | ((with_reducible refine wpl_load_row rtP ?_ (.tmp 9) ?_ (w7.heap.size) ?_ 24 (plrow (wd : Int) (y : Int) A3 (wd * y) c3) ?_ HG.out ?_); rfl; rfl; rfl; rfl; simp only [Act.put, List.setIfInBounds_toArray, List.set_cons_succ, List.set_cons_zero]) | (at_builtin; refine Tin.wplv_push svP wr (plrow (wd : Int) (y : Int) A3 (wd * y) c3) rfl (.tmp 66) (.tmp 68) rfl w.heap.size A1 i c1 xs rfl OVc.out (Nat.le_trans HB.out.size SW.out.size) rfl rfl (by simp [Value.oneCell']) (by omega) (by omega) ?_; intro A7 c7 q7 ho7 hg7 how7; have HO7 := Lib.hid ho7; have HG7 := Lib.hid hg7; clear ho7 hg7 how7))
          have hlo : ∀ q, (Value.slice A1 i c1).ownBlock = some q → w.heap.size ≤ q := fun q hq => (World.ownsRow.lt OVc.out q hq).1
          have HBc := HB.out.trans (SW.out.mono HB.out.size)
          have SV7 := PnV.app (PnV.mono (fun _ _ h => Own.kept h HG7.out (ownI_ownv_apart h OVc.out (by decide))) OPc.out) (PnV.one (W := (wd : Int)) (H := (y : Int)) ((HO.out.kept HG7.out (ownI_ownv_apart HO.out OVc.out (by decide))).mono (show w.heap.size ≤ _ from hle)))
          have R2d := (SW.out.block _ hlt2).trans R2.out
          exact ⟨⟨i + 1, A7, c7, _, by omega, rfl, rfl, HO7.out, by rw [plL, HPO.out]; exact SV7, (HG7.out.block _ (row_lt R2d) (fun e => ownv_row_apart OVc.out R2d (by decide) e.symm)).trans R2d, HBc.grown HG7.out HBc.size (fun q hq => hlo q hq)⟩, by simp only [intOf]; omega⟩
        have HPO := Lib.hid (show plO l wd y h s i = ⟨(ptN wd h : Nat), (ptN y s : Nat), grid (dnV (wd : Int) (y : Int) (grid (pcV l wd i) wd y) h s) (ptN wd h) (ptN y s)⟩ by unfold plO; rw [if_neg hi0])
        have i0 : (0 : Int) < (i : Int) := by omega
        go_wp2_with ((with_reducible refine wpl_load_row rtP ?_ (.tmp 9) ?_ (w7.heap.size) ?_ 24 (plrow (wd : Int) (y : Int) A3 (wd * y) c3) ?_ HG.out ?_); rfl; rfl; rfl; rfl; simp only [Act.put, List.setIfInBounds_toArray, List.set_cons_succ, List.set_cons_zero])
        have hle := Nat.le_trans HB.out.size SW.out.size
        refine (rdown_any wd y (grid (pcV l wd i) wd y) h s A3 (wd * y) c3 _ HL5.out HO.out.sl'.2 (grid_may (fun x y => lumC_bd _ _ _) (by omega) (by omega)) HH.out HV.out).mono ?_
        rintro e p1 ⟨A6, c6, rfl, hp1_0, hb⟩
        replace HG := Lib.hid ((hb.block _ (row_lt HG.out)).trans HG.out)
        replace HO := Lib.hid (HO.out.keep hb)
        replace OVc := Lib.hid (OVc.out.keep hb)
        replace OPc := Lib.hid (OPc.out.keep hb)
        replace SW := Lib.hid (SW.out.trans (hb.mono SW.out.size))
        have HO6 := Lib.hid hp1_0
        clear hp1_0 hb
        go_wp2_with (first | ((with_reducible refine wpl_store_row rtP ?_ (.tmp 9) (.tmp 65) ?_ (w7.heap.size) ?_ (plrow (ptN wd h : Nat) (ptN y s : Nat) A6 (ptN wd h * ptN y s) c6) ?_ (pl_one _ _ _ _ _) 24 ?_ (plrow (wd : Int) (y : Int) A3 (wd * y) c3) ?_ HG.out ?_); rfl; rfl; rfl; rfl; rfl; rfl; intro p2 hr12 hg12 hs12; replace SW := Lib.hid (SW.out.grown hg12 SW.out.size (fun k hk => by cases hk; exact Nat.le_refl _)); replace HO6 := Lib.hid (HO6.out.kept hg12 (ne_own (fun q hq => by have h1 := (World.ownsRow.lt HO6.out q hq).1; omega))); replace HG := Lib.hid hr12; replace OVc := Lib.hid (OV.out.keep SW.out); replace OPc := Lib.hid (OP.out.keep SW.out); clear hr12 hg12 hs12; (try simp only [Act.put])) | ((with_reducible refine wpl_load_row rtP ?_ (.tmp 9) ?_ (w7.heap.size) ?_ 24 (plrow (ptN wd h : Nat) (ptN y s : Nat) A6 (ptN wd h * ptN y s) c6) ?_ HG.out ?_); rfl; rfl; rfl; rfl; simp only [Act.put, List.setIfInBounds_toArray, List.set_cons_succ, List.set_cons_zero]) | (at_builtin; refine Tin.wplv_push svP p2 (plrow (ptN wd h : Nat) (ptN y s : Nat) A6 (ptN wd h * ptN y s) c6) rfl (.tmp 66) (.tmp 68) rfl w.heap.size A1 i c1 xs rfl OVc.out (Nat.le_trans HB.out.size SW.out.size) rfl rfl (by simp [Value.oneCell']) (by omega) (by omega) ?_; intro A7 c7 q7 ho7 hg7 how7; have HO7 := Lib.hid ho7; have HG7 := Lib.hid hg7; clear ho7 hg7 how7))
        have hlo : ∀ q, (Value.slice A1 i c1).ownBlock = some q → w.heap.size ≤ q := fun q hq => (World.ownsRow.lt OVc.out q hq).1
        have HBc := HB.out.trans (SW.out.mono HB.out.size)
        have SV7 := PnV.app (PnV.mono (fun _ _ h => Own.kept h HG7.out (ownI_ownv_apart h OVc.out (by decide))) OPc.out) (PnV.one (W := ((ptN wd h : Nat) : Int)) (H := ((ptN y s : Nat) : Int)) ((HO6.out.kept HG7.out (ownI_ownv_apart HO6.out OVc.out (by decide))).mono (show w.heap.size ≤ _ from hle)))
        have R2d := (SW.out.block _ hlt2).trans R2.out
        exact ⟨⟨i + 1, A7, c7, _, by omega, rfl, rfl, HO7.out, by rw [plL, HPO.out]; exact SV7, (HG7.out.block _ (row_lt R2d) (fun e => ownv_row_apart OVc.out R2d (by decide) e.symm)).trans R2d, HBc.grown HG7.out HBc.size (fun q hq => hlo q hq)⟩, by simp only [intOf]; omega⟩
      have hy1 : (y : Int) < (ht : Int) := by omega
      go_wp2_with fail
      clear k1 R2c
      go_loopw [11] (fun s11 wr => ∃ (x : Nat) (A3 : Option Addr) (n c3 : Nat), x ≤ wd ∧ s11 = .int .i64 (x : Int) ∧ wr.heap[w7.heap.size]? = some (.cells (plrow (wd : Int) (ht : Int) A3 n c3) 24 (0, 0)) ∧ Own .i64 3 wr (w7.heap.size + 1) (.slice A3 n c3) (grid (pcV l wd i) wd y ++ lin (pcV l wd i) y x) ∧ Below w7.heap.size w7 wr ∧ w7.heap.size + 1 ≤ wr.heap.size) (fun s11 _ => wd - (intOf s11).toNat)
      case atStart => exact ⟨0, A3, n, c3, by omega, rfl, HG.out, by rw [lin, List.append_nil]; exact HO.out, SW.out, hgs⟩
      case round =>
        clear HG HO SW hgs
        obtain ⟨x, A3, n, c3, hx, rfl, hG, hO, hb, hgs⟩ := hrel
        have HG := Lib.hid hG
        have HO := Lib.hid hO
        have SW := Lib.hid hb
        clear hG hO hb
        have R2c := Lib.hid ((SW.out.block _ hlt2).trans R2.out)
        have k0 := row_cell (v := .int .i64 (wd : Int)) R2c.out 0 rfl
        by_cases hxw : x < wd
        case neg =>
          obtain rfl : x = wd := by omega
          go_wp2_with fail
          exact ⟨⟨y + 1, A3, n, c3, by omega, rfl, HG.out, HO.out, SW.out, hgs⟩, by simp only [intOf]; omega⟩
        have hx1 : (x : Int) < (wd : Int) := by omega
        have hln := grid_le (pcV l wd i) (ht := ht) (show wd ≤ 4096 by omega) (show y ≤ 4096 by omega) (show x ≤ 4096 by omega)
        have HPX := Lib.hid (show pcV l wd i x y = nth [lumY (nth l (posR (wd : Int) (x : Int) (y : Int) + 0)) (nth l (posR (wd : Int) (x : Int) (y : Int) + 1)) (nth l (posR (wd : Int) (x : Int) (y : Int) + 2)), lumB (nth l (posR (wd : Int) (x : Int) (y : Int) + 0)) (nth l (posR (wd : Int) (x : Int) (y : Int) + 1)) (nth l (posR (wd : Int) (x : Int) (y : Int) + 2)), lumR (nth l (posR (wd : Int) (x : Int) (y : Int) + 0)) (nth l (posR (wd : Int) (x : Int) (y : Int) + 1)) (nth l (posR (wd : Int) (x : Int) (y : Int) + 2))] i by rw [posR_N]; rfl)
        go_wp2_with fail
        clear k0
        refine Tin.reg_begin (w.heap.size + 1) 15 (by rfl) (by kernel_rfl) ?_
        replace SW := Lib.hid (ud' SW.out)
        replace HO := Lib.hid HO.out.drew
        replace HG := Lib.hid (show wr.drew.heap[w7.heap.size]? = _ from HG.out)
        replace R2c := Lib.hid (show wr.drew.heap[w.heap.size]? = _ from R2c.out)
        have hgs0 : w7.heap.size + 1 ≤ wr.drew.heap.size := hgs
        generalize wr.drew = v0 at *
        have SZ : w.heap.size + 1 ≤ v0.heap.size := by omega
        have LT_R2c : w.heap.size < w.heap.size + 1 := Nat.lt_succ_self _
        refine Tin.reg_quiets [0, 1, 2, 4, 5, 6, 8, 9, 10] _ 6 rfl (by simp only [Tin.pick, List.map_cons, List.map_nil, Array.getD_eq_getD_getElem?, List.getElem?_toArray, List.getElem?_cons_zero, List.getElem?_cons_succ, Option.getD_some]; rfl) (by kernel_rfl) (by kernel_rfl) ?_
        repeat (first | ((with_reducible refine wpq_load_row rtR ?_ (.tmp 2) ?_ (w.heap.size) ?_ 44 (rsrow (wd : Int) (ht : Int) A l.length c) ?_ (fun W h => by obtain ⟨p, rfl⟩ := h; exact (p.h.block _ LT_R2c).trans R2c.out) ?_); rfl; rfl; rfl; rfl; simp only [Act.put, List.setIfInBounds_toArray, List.set_cons_succ, List.set_cons_zero]) | go_big_quiet_step (fail))
        refine wpQuiet_nil ?_
        clear R2c
        have SV := Lib.hid (brefl v0)
        have SV_le_SW := SW.out.size
        refine Tin.reg_two 3 13 _ _ rfl rfl (by kernel_rfl) ?_ ?_
        · try simp only [List.getElem_toArray, List.getElem_cons_succ, List.getElem_cons_zero]
          go_wp2_with fail
          refine (byte_any (wd : Int) (ht : Int) (x : Int) (y : Int) 0 A l c _ (HS.out.keep (HB.out.trans (SW.out.mono HB.out.size))) (by omega) (by omega) HN3.out (by omega) (by omega) (by omega) HBY.out).mono ?_
          rintro e z1 ⟨rfl, hv⟩
          generalize nth l (posR (wd : Int) (x : Int) (y : Int) + 0) = b0 at *
          go_wp2_with fail
          refine ⟨(w.heap.size + 1), hv.mono SZ, Nat.le_refl _, ?_⟩
          replace HG := Lib.hid ((hv.block _ (row_lt HG.out)).trans HG.out)
          replace HO := Lib.hid (HO.out.keep hv)
          replace SW := Lib.hid (SW.out.trans (hv.mono SW.out.size))
          replace SV := Lib.hid (SV.out.trans (hv.mono SV.out.size))
          replace SZ := Nat.le_trans SZ hv.size
          clear hv
          refine Tin.reg_two 7 13 _ _ rfl rfl (by kernel_rfl) ?_ ?_
          · try simp only [List.getElem_toArray, List.getElem_cons_succ, List.getElem_cons_zero]
            go_wp2_with fail
            refine (byte_any (wd : Int) (ht : Int) (x : Int) (y : Int) 1 A l c _ (HS.out.keep (HB.out.trans (SW.out.mono HB.out.size))) (by omega) (by omega) HN3.out (by omega) (by omega) (by omega) HBY.out).mono ?_
            rintro e z2 ⟨rfl, hv⟩
            generalize nth l (posR (wd : Int) (x : Int) (y : Int) + 1) = b1 at *
            go_wp2_with fail
            refine ⟨(w.heap.size + 1), hv.mono SZ, Nat.le_refl _, ?_⟩
            replace HG := Lib.hid ((hv.block _ (row_lt HG.out)).trans HG.out)
            replace HO := Lib.hid (HO.out.keep hv)
            replace SW := Lib.hid (SW.out.trans (hv.mono SW.out.size))
            replace SV := Lib.hid (SV.out.trans (hv.mono SV.out.size))
            replace SZ := Nat.le_trans SZ hv.size
            clear hv
            refine Tin.reg_two 11 13 _ _ rfl rfl (by kernel_rfl) ?_ ?_
            · try simp only [List.getElem_toArray, List.getElem_cons_succ, List.getElem_cons_zero]
              go_wp2_with fail
              refine (byte_any (wd : Int) (ht : Int) (x : Int) (y : Int) 2 A l c _ (HS.out.keep (HB.out.trans (SW.out.mono HB.out.size))) (by omega) (by omega) HN3.out (by omega) (by omega) (by omega) HBY.out).mono ?_
              rintro e z3 ⟨rfl, hv⟩
              generalize nth l (posR (wd : Int) (x : Int) (y : Int) + 2) = b2 at *
              go_wp2_with fail
              refine ⟨(w.heap.size + 1), hv.mono SZ, Nat.le_refl _, ?_⟩
              replace HG := Lib.hid ((hv.block _ (row_lt HG.out)).trans HG.out)
              replace HO := Lib.hid (HO.out.keep hv)
              replace SW := Lib.hid (SW.out.trans (hv.mono SW.out.size))
              replace SV := Lib.hid (SV.out.trans (hv.mono SV.out.size))
              replace SZ := Nat.le_trans SZ hv.size
              clear hv
              refine Tin.reg_two 12 13 _ _ rfl rfl (by kernel_rfl) ?_ ?_
              · try simp only [List.getElem_toArray, List.getElem_cons_succ, List.getElem_cons_zero]
                go_wp2_with fail
                refine (rluma_any (b0) (b1) (b2) _).mono ?_
                rintro e z4 ⟨rfl, hv⟩
                go_wp2_with fail
                refine ⟨(w.heap.size + 1), hv.mono SZ, Nat.le_refl _, ?_⟩
                replace HG := Lib.hid ((hv.block _ (row_lt HG.out)).trans HG.out)
                replace HO := Lib.hid (HO.out.keep hv)
                replace SW := Lib.hid (SW.out.trans (hv.mono SW.out.size))
                replace SV := Lib.hid (SV.out.trans (hv.mono SV.out.size))
                replace SZ := Nat.le_trans SZ hv.size
                clear hv
                refine Tin.reg_one 13 _ rfl (by kernel_rfl) ?_
                try simp only [List.getElem_toArray, List.getElem_cons_succ, List.getElem_cons_zero]
                go_wp2_with fail
                have SN := Lib.hid (brefl z4)
                have SN_HG := HG
                have SN_HO := HO
                have SN_le_SW := SW.out.size
                have SN_le_SV := SV.out.size
                have hv := ba (brefl z4) (.cells #[.int .i64 0, .int .i64 0, .int .i64 0] 78)
                have hr10 := heap_alloc_new z4 (.cells #[.int .i64 0, .int .i64 0, .int .i64 0] 78)
                refine ⟨(w.heap.size + 1), hv.mono SZ, Nat.le_refl _, ?_⟩
                replace HG := Lib.hid ((hv.block _ (row_lt HG.out)).trans HG.out)
                replace HO := Lib.hid (HO.out.keep hv)
                replace SW := Lib.hid (SW.out.trans (hv.mono SW.out.size))
                replace SV := Lib.hid (SV.out.trans (hv.mono SV.out.size))
                replace SN := Lib.hid (SN.out.trans (hv.mono SN.out.size))
                replace SZ := Nat.le_trans SZ hv.size
                have R10 := Lib.hid hr10
                clear hr10 hv
                generalize (z4.alloc (.cells #[.int .i64 0, .int .i64 0, .int .i64 0] 78)) = z5 at *
                refine Tin.reg_one 14 _ rfl (by kernel_rfl) ?_
                try simp only [List.getElem_toArray, List.getElem_cons_succ, List.getElem_cons_zero]
                go_wp2_with ((with_reducible refine wpl_store_row rt3 ?_ (.tmp 12) (.tmp 51) ?_ (z4.heap.size) ?_ (#[.int .i64 (lumY (b0) (b1) (b2)), .int .i64 (lumB (b0) (b1) (b2)), .int .i64 (lumR (b0) (b1) (b2))]) ?_ (in_one _ _ _) 78 ?_ (#[.int .i64 0, .int .i64 0, .int .i64 0]) ?_ R10.out ?_); rfl; rfl; rfl; rfl; rfl; rfl; intro z6 hr10 hg10 hs10)
                have hb10 : Below (z4.heap.size) z5 z6 := (Below.refl _ _).grown hg10 SN.out.size (fun k hk => by cases hk; exact Nat.le_refl _)
                refine ⟨(w.heap.size + 1), hb10.mono (by have := SV.out.size; have := SN_le_SV; have := SN_le_SW; omega), Nat.le_refl _, ?_⟩
                clear R10
                replace SN := Lib.hid (SN.out.trans hb10)
                replace HG := Lib.hid ((SN.out.block _ (row_lt SN_HG.out)).trans SN_HG.out)
                replace HO := Lib.hid (SN_HO.out.keep SN.out)
                replace SW := Lib.hid (SW.out.trans (hb10.mono SN_le_SW))
                replace SV := Lib.hid (SV.out.trans (hb10.mono SN_le_SV))
                replace SZ := Nat.le_trans SZ hg10.size
                have R10 := Lib.hid hr10
                clear hr10 hg10 hs10 hb10
                refine Tin.reg_done (by kernel_rfl) ?_
                have k12 := row_cell R10.out i (lum_row _ _ _ hi3)
                rw [← HPX.out] at k12
                generalize hVV : pcV l wd i x y = VV at *
                have HVV := Lib.hid hVV
                have K12 := Lib.hid k12
                clear hVV k12 HPX
                have hgs2 : w7.heap.size + 1 ≤ z6.heap.size := Nat.le_trans hgs0 SV.out.size
                clear SV
                go_wp2_with fail
                refine Tin.reg_begin 0 9 (by rfl) (by kernel_rfl) ?_
                replace SW := Lib.hid (ud' SW.out)
                replace HO := Lib.hid HO.out.drew
                replace HG := Lib.hid (show z6.drew.heap[w7.heap.size]? = _ from HG.out)
                replace K12 := Lib.hid (show z6.drew.cell? ⟨z4.heap.size, i, none⟩ = _ from K12.out)
                replace hgs2 : w7.heap.size + 1 ≤ z6.drew.heap.size := hgs2
                have hlt12 : z4.heap.size < z6.drew.heap.size := row_lt R10.out
                generalize z6.drew = p0 at *
                refine Tin.reg_quiets [0, 2, 3] _ 6 rfl (by simp only [Tin.pick, List.map_cons, List.map_nil, Array.getD_eq_getD_getElem?, List.getElem?_toArray, List.getElem?_cons_zero, List.getElem?_cons_succ, Option.getD_some]; rfl) (by kernel_rfl) (by kernel_rfl) ?_
                repeat (first | go_big_quiet_step (fail))
                refine wpQuiet_nil ?_
                refine Tin.reg_two 1 4 _ _ rfl rfl (by kernel_rfl) ?_ ?_
                · have k2 : p0.cell? ⟨w7.heap.size, 2, none⟩ = some (.slice A3 n c3) := row_cell HG.out 2 rfl
                  try simp only [List.getElem_toArray, List.getElem_cons_succ, List.getElem_cons_zero]
                  go_wp2_with fail
                  refine ⟨0, Below.refl _ _, Nat.le_refl _, ?_⟩
                  clear k2
                  have k4 := K12.out
                  refine Tin.reg_one 4 _ rfl (by kernel_rfl) ?_
                  try simp only [List.getElem_toArray, List.getElem_cons_succ, List.getElem_cons_zero]
                  go_wp2_with fail
                  refine ⟨0, Below.refl _ _, Nat.le_refl _, ?_⟩
                  clear k4
                  refine Tin.reg_one 5 _ rfl (by kernel_rfl) ?_
                  try simp only [List.getElem_toArray, List.getElem_cons_succ, List.getElem_cons_zero]
                  go_wp2_with fail
                  refine ⟨0, (ba (brefl p0) _).mono (Nat.zero_le _), Nat.le_refl _, ?_⟩
                  have HSL := Lib.hid (show Sl .i64 (p0.alloc (.cells #[.int .i64 VV] 3)) (some ⟨p0.heap.size, 0, none⟩) [VV] from Sl.new_ p0 _ _ _ rfl)
                  have hv := ba (brefl p0) (.cells #[.int .i64 VV] 3)
                  replace HG := Lib.hid ((hv.block _ (row_lt HG.out)).trans HG.out)
                  replace HO := Lib.hid (HO.out.keep hv)
                  replace SW := Lib.hid (SW.out.trans (hv.mono SW.out.size))
                  have hgs1 : w7.heap.size + 1 ≤ (p0.alloc (.cells #[.int .i64 VV] 3)).heap.size := Nat.le_trans hgs2 hv.size
                  clear hv
                  generalize p0.alloc (.cells #[.int .i64 VV] 3) = z7 at *
                  refine Tin.reg_one 6 _ rfl (by kernel_rfl) ?_
                  try simp only [List.getElem_toArray, List.getElem_cons_succ, List.getElem_cons_zero]
                  refine Tin.wpl_app btI _ rfl (.tmp 53) (.tmp 57) rfl (w7.heap.size + 1) (.slice A3 n c3) (grid (pcV l wd i) wd y ++ lin (pcV l wd i) y x) rfl HO.out (some ⟨p0.heap.size, 0, none⟩) 1 1 [VV] rfl HSL.out rfl (by simp only [List.length_singleton]; omega) (by simp only [List.length_singleton]; omega) hgs1 ?_
                  intro x7 q7 hown7 hg7 how7
                  obtain ⟨A7, c7, rfl⟩ := own_form hown7
                  obtain ⟨n7, hn7⟩ : ∃ n7, ((grid (pcV l wd i) wd y ++ lin (pcV l wd i) y x) ++ [VV]).length = n7 := ⟨_, rfl⟩
                  rw [hn7] at hown7 how7 ⊢
                  have HN7 := Lib.hid hn7
                  clear hn7
                  simp only [Act.put, List.setIfInBounds_toArray, List.set_cons_succ, List.set_cons_zero]
                  go_wp2_with fail
                  refine ⟨0, ⟨hg7.os, hg7.tape, hg7.output, hg7.size, fun i hi => absurd hi (Nat.not_lt_zero _)⟩, Nat.le_refl _, ?_⟩
                  have HLO := Lib.hid (World.ownsRow.lt HO.out)
                  have HG7 := Lib.hid ((hg7.block _ (row_lt HG.out) (fun e => by have := (HLO.out _ e.symm).1; omega)).trans HG.out)
                  have SW7 := Lib.hid (SW.out.grown hg7 SW.out.size (fun q hq => by have := (HLO.out q hq).1; omega))
                  have HO7 := Lib.hid hown7
                  have hz7 : w7.heap.size + 1 ≤ q7.heap.size := Nat.le_trans hgs1 hg7.size
                  clear hg7 how7 hown7 HG SW HO
                  refine Tin.reg_quiets [7] _ 1 rfl (by simp only [Tin.pick, List.map_cons, List.map_nil, Array.getD_eq_getD_getElem?, List.getElem?_toArray, List.getElem?_cons_zero, List.getElem?_cons_succ, Option.getD_some]; rfl) (by kernel_rfl) (by kernel_rfl) ?_
                  repeat (first | go_big_quiet_step (fail))
                  refine wpQuiet_nil ?_
                  have cc7 := row_cell (v := .slice A3 n c3) HG7.out 2 rfl
                  have f7 := frozen_of_row q7 w7.heap.size 2 _ _ HG7.out
                  refine Tin.reg_one 8 _ rfl (by kernel_rfl) ?_
                  try simp only [List.getElem_toArray, List.getElem_cons_succ, List.getElem_cons_zero]
                  go_wp2_with fail
                  have hk7 := grown_setCells w7.heap.size [.slice A7 n7 c7] 2 q7 q7 (World.grownBy.refl q7 _)
                  refine ⟨0, ⟨rfl, rfl, rfl, by simp [World.setCell], fun i hi => absurd hi (Nat.not_lt_zero _)⟩, Nat.le_refl _, ?_⟩
                  refine Tin.reg_done (by kernel_rfl) ?_
                  go_wp2_with fail
                  exact ⟨⟨x + 1, A7, n7, c7, by omega, rfl, row_set HG7.out 2 _, by rw [lin, ← List.append_assoc, HVV.out]; exact HO7.out.kept hk7 (ne_own (fun q hq => by have := (World.ownsRow.lt HO7.out q hq).1; omega)), SW7.out.setCell (Nat.le_refl _) _, by simp only [World.setCell]; simp; omega⟩, by simp only [intOf]; omega⟩
                · have k4 := K12.out
                  try simp only [List.getElem_toArray, List.getElem_cons_succ, List.getElem_cons_zero]
                  go_wp2_with fail
                  refine ⟨0, Below.refl _ _, Nat.le_refl _, ?_⟩
                  clear k4
                  refine Tin.reg_two 1 5 _ _ rfl rfl (by kernel_rfl) ?_ ?_
                  · have k2 : p0.cell? ⟨w7.heap.size, 2, none⟩ = some (.slice A3 n c3) := row_cell HG.out 2 rfl
                    try simp only [List.getElem_toArray, List.getElem_cons_succ, List.getElem_cons_zero]
                    go_wp2_with fail
                    refine ⟨0, Below.refl _ _, Nat.le_refl _, ?_⟩
                    clear k2
                    refine Tin.reg_one 5 _ rfl (by kernel_rfl) ?_
                    try simp only [List.getElem_toArray, List.getElem_cons_succ, List.getElem_cons_zero]
                    go_wp2_with fail
                    refine ⟨0, (ba (brefl p0) _).mono (Nat.zero_le _), Nat.le_refl _, ?_⟩
                    have HSL := Lib.hid (show Sl .i64 (p0.alloc (.cells #[.int .i64 VV] 3)) (some ⟨p0.heap.size, 0, none⟩) [VV] from Sl.new_ p0 _ _ _ rfl)
                    have hv := ba (brefl p0) (.cells #[.int .i64 VV] 3)
                    replace HG := Lib.hid ((hv.block _ (row_lt HG.out)).trans HG.out)
                    replace HO := Lib.hid (HO.out.keep hv)
                    replace SW := Lib.hid (SW.out.trans (hv.mono SW.out.size))
                    have hgs1 : w7.heap.size + 1 ≤ (p0.alloc (.cells #[.int .i64 VV] 3)).heap.size := Nat.le_trans hgs2 hv.size
                    clear hv
                    generalize p0.alloc (.cells #[.int .i64 VV] 3) = z7 at *
                    refine Tin.reg_one 6 _ rfl (by kernel_rfl) ?_
                    try simp only [List.getElem_toArray, List.getElem_cons_succ, List.getElem_cons_zero]
                    refine Tin.wpl_app btI _ rfl (.tmp 53) (.tmp 57) rfl (w7.heap.size + 1) (.slice A3 n c3) (grid (pcV l wd i) wd y ++ lin (pcV l wd i) y x) rfl HO.out (some ⟨p0.heap.size, 0, none⟩) 1 1 [VV] rfl HSL.out rfl (by simp only [List.length_singleton]; omega) (by simp only [List.length_singleton]; omega) hgs1 ?_
                    intro x7 q7 hown7 hg7 how7
                    obtain ⟨A7, c7, rfl⟩ := own_form hown7
                    obtain ⟨n7, hn7⟩ : ∃ n7, ((grid (pcV l wd i) wd y ++ lin (pcV l wd i) y x) ++ [VV]).length = n7 := ⟨_, rfl⟩
                    rw [hn7] at hown7 how7 ⊢
                    have HN7 := Lib.hid hn7
                    clear hn7
                    simp only [Act.put, List.setIfInBounds_toArray, List.set_cons_succ, List.set_cons_zero]
                    go_wp2_with fail
                    refine ⟨0, ⟨hg7.os, hg7.tape, hg7.output, hg7.size, fun i hi => absurd hi (Nat.not_lt_zero _)⟩, Nat.le_refl _, ?_⟩
                    have HLO := Lib.hid (World.ownsRow.lt HO.out)
                    have HG7 := Lib.hid ((hg7.block _ (row_lt HG.out) (fun e => by have := (HLO.out _ e.symm).1; omega)).trans HG.out)
                    have SW7 := Lib.hid (SW.out.grown hg7 SW.out.size (fun q hq => by have := (HLO.out q hq).1; omega))
                    have HO7 := Lib.hid hown7
                    have hz7 : w7.heap.size + 1 ≤ q7.heap.size := Nat.le_trans hgs1 hg7.size
                    clear hg7 how7 hown7 HG SW HO
                    refine Tin.reg_quiets [7] _ 1 rfl (by simp only [Tin.pick, List.map_cons, List.map_nil, Array.getD_eq_getD_getElem?, List.getElem?_toArray, List.getElem?_cons_zero, List.getElem?_cons_succ, Option.getD_some]; rfl) (by kernel_rfl) (by kernel_rfl) ?_
                    repeat (first | go_big_quiet_step (fail))
                    refine wpQuiet_nil ?_
                    have cc7 := row_cell (v := .slice A3 n c3) HG7.out 2 rfl
                    have f7 := frozen_of_row q7 w7.heap.size 2 _ _ HG7.out
                    refine Tin.reg_one 8 _ rfl (by kernel_rfl) ?_
                    try simp only [List.getElem_toArray, List.getElem_cons_succ, List.getElem_cons_zero]
                    go_wp2_with fail
                    have hk7 := grown_setCells w7.heap.size [.slice A7 n7 c7] 2 q7 q7 (World.grownBy.refl q7 _)
                    refine ⟨0, ⟨rfl, rfl, rfl, by simp [World.setCell], fun i hi => absurd hi (Nat.not_lt_zero _)⟩, Nat.le_refl _, ?_⟩
                    refine Tin.reg_done (by kernel_rfl) ?_
                    go_wp2_with fail
                    exact ⟨⟨x + 1, A7, n7, c7, by omega, rfl, row_set HG7.out 2 _, by rw [lin, ← List.append_assoc, HVV.out]; exact HO7.out.kept hk7 (ne_own (fun q hq => by have := (World.ownsRow.lt HO7.out q hq).1; omega)), SW7.out.setCell (Nat.le_refl _) _, by simp only [World.setCell]; simp; omega⟩, by simp only [intOf]; omega⟩
                  · try simp only [List.getElem_toArray, List.getElem_cons_succ, List.getElem_cons_zero]
                    go_wp2_with fail
                    refine ⟨0, (ba (brefl p0) _).mono (Nat.zero_le _), Nat.le_refl _, ?_⟩
                    have HSL := Lib.hid (show Sl .i64 (p0.alloc (.cells #[.int .i64 VV] 3)) (some ⟨p0.heap.size, 0, none⟩) [VV] from Sl.new_ p0 _ _ _ rfl)
                    have hv := ba (brefl p0) (.cells #[.int .i64 VV] 3)
                    replace HG := Lib.hid ((hv.block _ (row_lt HG.out)).trans HG.out)
                    replace HO := Lib.hid (HO.out.keep hv)
                    replace SW := Lib.hid (SW.out.trans (hv.mono SW.out.size))
                    have hgs1 : w7.heap.size + 1 ≤ (p0.alloc (.cells #[.int .i64 VV] 3)).heap.size := Nat.le_trans hgs2 hv.size
                    clear hv
                    generalize p0.alloc (.cells #[.int .i64 VV] 3) = z7 at *
                    have k2 : z7.cell? ⟨w7.heap.size, 2, none⟩ = some (.slice A3 n c3) := row_cell HG.out 2 rfl
                    refine Tin.reg_one 1 _ rfl (by kernel_rfl) ?_
                    try simp only [List.getElem_toArray, List.getElem_cons_succ, List.getElem_cons_zero]
                    go_wp2_with fail
                    refine ⟨0, Below.refl _ _, Nat.le_refl _, ?_⟩
                    clear k2
                    refine Tin.reg_one 6 _ rfl (by kernel_rfl) ?_
                    try simp only [List.getElem_toArray, List.getElem_cons_succ, List.getElem_cons_zero]
                    refine Tin.wpl_app btI _ rfl (.tmp 53) (.tmp 57) rfl (w7.heap.size + 1) (.slice A3 n c3) (grid (pcV l wd i) wd y ++ lin (pcV l wd i) y x) rfl HO.out (some ⟨p0.heap.size, 0, none⟩) 1 1 [VV] rfl HSL.out rfl (by simp only [List.length_singleton]; omega) (by simp only [List.length_singleton]; omega) hgs1 ?_
                    intro x7 q7 hown7 hg7 how7
                    obtain ⟨A7, c7, rfl⟩ := own_form hown7
                    obtain ⟨n7, hn7⟩ : ∃ n7, ((grid (pcV l wd i) wd y ++ lin (pcV l wd i) y x) ++ [VV]).length = n7 := ⟨_, rfl⟩
                    rw [hn7] at hown7 how7 ⊢
                    have HN7 := Lib.hid hn7
                    clear hn7
                    simp only [Act.put, List.setIfInBounds_toArray, List.set_cons_succ, List.set_cons_zero]
                    go_wp2_with fail
                    refine ⟨0, ⟨hg7.os, hg7.tape, hg7.output, hg7.size, fun i hi => absurd hi (Nat.not_lt_zero _)⟩, Nat.le_refl _, ?_⟩
                    have HLO := Lib.hid (World.ownsRow.lt HO.out)
                    have HG7 := Lib.hid ((hg7.block _ (row_lt HG.out) (fun e => by have := (HLO.out _ e.symm).1; omega)).trans HG.out)
                    have SW7 := Lib.hid (SW.out.grown hg7 SW.out.size (fun q hq => by have := (HLO.out q hq).1; omega))
                    have HO7 := Lib.hid hown7
                    have hz7 : w7.heap.size + 1 ≤ q7.heap.size := Nat.le_trans hgs1 hg7.size
                    clear hg7 how7 hown7 HG SW HO
                    refine Tin.reg_quiets [7] _ 1 rfl (by simp only [Tin.pick, List.map_cons, List.map_nil, Array.getD_eq_getD_getElem?, List.getElem?_toArray, List.getElem?_cons_zero, List.getElem?_cons_succ, Option.getD_some]; rfl) (by kernel_rfl) (by kernel_rfl) ?_
                    repeat (first | go_big_quiet_step (fail))
                    refine wpQuiet_nil ?_
                    have cc7 := row_cell (v := .slice A3 n c3) HG7.out 2 rfl
                    have f7 := frozen_of_row q7 w7.heap.size 2 _ _ HG7.out
                    refine Tin.reg_one 8 _ rfl (by kernel_rfl) ?_
                    try simp only [List.getElem_toArray, List.getElem_cons_succ, List.getElem_cons_zero]
                    go_wp2_with fail
                    have hk7 := grown_setCells w7.heap.size [.slice A7 n7 c7] 2 q7 q7 (World.grownBy.refl q7 _)
                    refine ⟨0, ⟨rfl, rfl, rfl, by simp [World.setCell], fun i hi => absurd hi (Nat.not_lt_zero _)⟩, Nat.le_refl _, ?_⟩
                    refine Tin.reg_done (by kernel_rfl) ?_
                    go_wp2_with fail
                    exact ⟨⟨x + 1, A7, n7, c7, by omega, rfl, row_set HG7.out 2 _, by rw [lin, ← List.append_assoc, HVV.out]; exact HO7.out.kept hk7 (ne_own (fun q hq => by have := (World.ownsRow.lt HO7.out q hq).1; omega)), SW7.out.setCell (Nat.le_refl _) _, by simp only [World.setCell]; simp; omega⟩, by simp only [intOf]; omega⟩
              · try simp only [List.getElem_toArray, List.getElem_cons_succ, List.getElem_cons_zero]
                go_wp2_with fail
                have SN := Lib.hid (brefl z3)
                have SN_HG := HG
                have SN_HO := HO
                have SN_le_SW := SW.out.size
                have SN_le_SV := SV.out.size
                have hv := ba (brefl z3) (.cells #[.int .i64 0, .int .i64 0, .int .i64 0] 78)
                have hr10 := heap_alloc_new z3 (.cells #[.int .i64 0, .int .i64 0, .int .i64 0] 78)
                refine ⟨(w.heap.size + 1), hv.mono SZ, Nat.le_refl _, ?_⟩
                replace HG := Lib.hid ((hv.block _ (row_lt HG.out)).trans HG.out)
                replace HO := Lib.hid (HO.out.keep hv)
                replace SW := Lib.hid (SW.out.trans (hv.mono SW.out.size))
                replace SV := Lib.hid (SV.out.trans (hv.mono SV.out.size))
                replace SN := Lib.hid (SN.out.trans (hv.mono SN.out.size))
                replace SZ := Nat.le_trans SZ hv.size
                have R10 := Lib.hid hr10
                clear hr10 hv
                generalize (z3.alloc (.cells #[.int .i64 0, .int .i64 0, .int .i64 0] 78)) = z4 at *
                refine Tin.reg_one 12 _ rfl (by kernel_rfl) ?_
                try simp only [List.getElem_toArray, List.getElem_cons_succ, List.getElem_cons_zero]
                go_wp2_with fail
                refine (rluma_any (b0) (b1) (b2) _).mono ?_
                rintro e z5 ⟨rfl, hv⟩
                go_wp2_with fail
                refine ⟨(w.heap.size + 1), hv.mono SZ, Nat.le_refl _, ?_⟩
                replace HG := Lib.hid ((hv.block _ (row_lt HG.out)).trans HG.out)
                replace HO := Lib.hid (HO.out.keep hv)
                replace R10 := Lib.hid ((hv.block _ (row_lt R10.out)).trans R10.out)
                replace SW := Lib.hid (SW.out.trans (hv.mono SW.out.size))
                replace SV := Lib.hid (SV.out.trans (hv.mono SV.out.size))
                replace SN := Lib.hid (SN.out.trans (hv.mono SN.out.size))
                replace SZ := Nat.le_trans SZ hv.size
                clear hv
                refine Tin.reg_one 14 _ rfl (by kernel_rfl) ?_
                try simp only [List.getElem_toArray, List.getElem_cons_succ, List.getElem_cons_zero]
                go_wp2_with ((with_reducible refine wpl_store_row rt3 ?_ (.tmp 12) (.tmp 51) ?_ (z3.heap.size) ?_ (#[.int .i64 (lumY (b0) (b1) (b2)), .int .i64 (lumB (b0) (b1) (b2)), .int .i64 (lumR (b0) (b1) (b2))]) ?_ (in_one _ _ _) 78 ?_ (#[.int .i64 0, .int .i64 0, .int .i64 0]) ?_ R10.out ?_); rfl; rfl; rfl; rfl; rfl; rfl; intro z6 hr10 hg10 hs10)
                have hb10 : Below (z3.heap.size) z5 z6 := (Below.refl _ _).grown hg10 SN.out.size (fun k hk => by cases hk; exact Nat.le_refl _)
                refine ⟨(w.heap.size + 1), hb10.mono (by have := SV.out.size; have := SN_le_SV; have := SN_le_SW; omega), Nat.le_refl _, ?_⟩
                clear R10
                replace SN := Lib.hid (SN.out.trans hb10)
                replace HG := Lib.hid ((SN.out.block _ (row_lt SN_HG.out)).trans SN_HG.out)
                replace HO := Lib.hid (SN_HO.out.keep SN.out)
                replace SW := Lib.hid (SW.out.trans (hb10.mono SN_le_SW))
                replace SV := Lib.hid (SV.out.trans (hb10.mono SN_le_SV))
                replace SZ := Nat.le_trans SZ hg10.size
                have R10 := Lib.hid hr10
                clear hr10 hg10 hs10 hb10
                refine Tin.reg_done (by kernel_rfl) ?_
                have k12 := row_cell R10.out i (lum_row _ _ _ hi3)
                rw [← HPX.out] at k12
                generalize hVV : pcV l wd i x y = VV at *
                have HVV := Lib.hid hVV
                have K12 := Lib.hid k12
                clear hVV k12 HPX
                have hgs2 : w7.heap.size + 1 ≤ z6.heap.size := Nat.le_trans hgs0 SV.out.size
                clear SV
                go_wp2_with fail
                refine Tin.reg_begin 0 9 (by rfl) (by kernel_rfl) ?_
                replace SW := Lib.hid (ud' SW.out)
                replace HO := Lib.hid HO.out.drew
                replace HG := Lib.hid (show z6.drew.heap[w7.heap.size]? = _ from HG.out)
                replace K12 := Lib.hid (show z6.drew.cell? ⟨z3.heap.size, i, none⟩ = _ from K12.out)
                replace hgs2 : w7.heap.size + 1 ≤ z6.drew.heap.size := hgs2
                have hlt12 : z3.heap.size < z6.drew.heap.size := row_lt R10.out
                generalize z6.drew = p0 at *
                refine Tin.reg_quiets [0, 2, 3] _ 6 rfl (by simp only [Tin.pick, List.map_cons, List.map_nil, Array.getD_eq_getD_getElem?, List.getElem?_toArray, List.getElem?_cons_zero, List.getElem?_cons_succ, Option.getD_some]; rfl) (by kernel_rfl) (by kernel_rfl) ?_
                repeat (first | go_big_quiet_step (fail))
                refine wpQuiet_nil ?_
                refine Tin.reg_two 1 4 _ _ rfl rfl (by kernel_rfl) ?_ ?_
                · have k2 : p0.cell? ⟨w7.heap.size, 2, none⟩ = some (.slice A3 n c3) := row_cell HG.out 2 rfl
                  try simp only [List.getElem_toArray, List.getElem_cons_succ, List.getElem_cons_zero]
                  go_wp2_with fail
                  refine ⟨0, Below.refl _ _, Nat.le_refl _, ?_⟩
                  clear k2
                  have k4 := K12.out
                  refine Tin.reg_one 4 _ rfl (by kernel_rfl) ?_
                  try simp only [List.getElem_toArray, List.getElem_cons_succ, List.getElem_cons_zero]
                  go_wp2_with fail
                  refine ⟨0, Below.refl _ _, Nat.le_refl _, ?_⟩
                  clear k4
                  refine Tin.reg_one 5 _ rfl (by kernel_rfl) ?_
                  try simp only [List.getElem_toArray, List.getElem_cons_succ, List.getElem_cons_zero]
                  go_wp2_with fail
                  refine ⟨0, (ba (brefl p0) _).mono (Nat.zero_le _), Nat.le_refl _, ?_⟩
                  have HSL := Lib.hid (show Sl .i64 (p0.alloc (.cells #[.int .i64 VV] 3)) (some ⟨p0.heap.size, 0, none⟩) [VV] from Sl.new_ p0 _ _ _ rfl)
                  have hv := ba (brefl p0) (.cells #[.int .i64 VV] 3)
                  replace HG := Lib.hid ((hv.block _ (row_lt HG.out)).trans HG.out)
                  replace HO := Lib.hid (HO.out.keep hv)
                  replace SW := Lib.hid (SW.out.trans (hv.mono SW.out.size))
                  have hgs1 : w7.heap.size + 1 ≤ (p0.alloc (.cells #[.int .i64 VV] 3)).heap.size := Nat.le_trans hgs2 hv.size
                  clear hv
                  generalize p0.alloc (.cells #[.int .i64 VV] 3) = z7 at *
                  refine Tin.reg_one 6 _ rfl (by kernel_rfl) ?_
                  try simp only [List.getElem_toArray, List.getElem_cons_succ, List.getElem_cons_zero]
                  refine Tin.wpl_app btI _ rfl (.tmp 53) (.tmp 57) rfl (w7.heap.size + 1) (.slice A3 n c3) (grid (pcV l wd i) wd y ++ lin (pcV l wd i) y x) rfl HO.out (some ⟨p0.heap.size, 0, none⟩) 1 1 [VV] rfl HSL.out rfl (by simp only [List.length_singleton]; omega) (by simp only [List.length_singleton]; omega) hgs1 ?_
                  intro x7 q7 hown7 hg7 how7
                  obtain ⟨A7, c7, rfl⟩ := own_form hown7
                  obtain ⟨n7, hn7⟩ : ∃ n7, ((grid (pcV l wd i) wd y ++ lin (pcV l wd i) y x) ++ [VV]).length = n7 := ⟨_, rfl⟩
                  rw [hn7] at hown7 how7 ⊢
                  have HN7 := Lib.hid hn7
                  clear hn7
                  simp only [Act.put, List.setIfInBounds_toArray, List.set_cons_succ, List.set_cons_zero]
                  go_wp2_with fail
                  refine ⟨0, ⟨hg7.os, hg7.tape, hg7.output, hg7.size, fun i hi => absurd hi (Nat.not_lt_zero _)⟩, Nat.le_refl _, ?_⟩
                  have HLO := Lib.hid (World.ownsRow.lt HO.out)
                  have HG7 := Lib.hid ((hg7.block _ (row_lt HG.out) (fun e => by have := (HLO.out _ e.symm).1; omega)).trans HG.out)
                  have SW7 := Lib.hid (SW.out.grown hg7 SW.out.size (fun q hq => by have := (HLO.out q hq).1; omega))
                  have HO7 := Lib.hid hown7
                  have hz7 : w7.heap.size + 1 ≤ q7.heap.size := Nat.le_trans hgs1 hg7.size
                  clear hg7 how7 hown7 HG SW HO
                  refine Tin.reg_quiets [7] _ 1 rfl (by simp only [Tin.pick, List.map_cons, List.map_nil, Array.getD_eq_getD_getElem?, List.getElem?_toArray, List.getElem?_cons_zero, List.getElem?_cons_succ, Option.getD_some]; rfl) (by kernel_rfl) (by kernel_rfl) ?_
                  repeat (first | go_big_quiet_step (fail))
                  refine wpQuiet_nil ?_
                  have cc7 := row_cell (v := .slice A3 n c3) HG7.out 2 rfl
                  have f7 := frozen_of_row q7 w7.heap.size 2 _ _ HG7.out
                  refine Tin.reg_one 8 _ rfl (by kernel_rfl) ?_
                  try simp only [List.getElem_toArray, List.getElem_cons_succ, List.getElem_cons_zero]
                  go_wp2_with fail
                  have hk7 := grown_setCells w7.heap.size [.slice A7 n7 c7] 2 q7 q7 (World.grownBy.refl q7 _)
                  refine ⟨0, ⟨rfl, rfl, rfl, by simp [World.setCell], fun i hi => absurd hi (Nat.not_lt_zero _)⟩, Nat.le_refl _, ?_⟩
                  refine Tin.reg_done (by kernel_rfl) ?_
                  go_wp2_with fail
                  exact ⟨⟨x + 1, A7, n7, c7, by omega, rfl, row_set HG7.out 2 _, by rw [lin, ← List.append_assoc, HVV.out]; exact HO7.out.kept hk7 (ne_own (fun q hq => by have := (World.ownsRow.lt HO7.out q hq).1; omega)), SW7.out.setCell (Nat.le_refl _) _, by simp only [World.setCell]; simp; omega⟩, by simp only [intOf]; omega⟩
                · have k4 := K12.out
                  try simp only [List.getElem_toArray, List.getElem_cons_succ, List.getElem_cons_zero]
                  go_wp2_with fail
                  refine ⟨0, Below.refl _ _, Nat.le_refl _, ?_⟩
                  clear k4
                  refine Tin.reg_two 1 5 _ _ rfl rfl (by kernel_rfl) ?_ ?_
                  · have k2 : p0.cell? ⟨w7.heap.size, 2, none⟩ = some (.slice A3 n c3) := row_cell HG.out 2 rfl
                    try simp only [List.getElem_toArray, List.getElem_cons_succ, List.getElem_cons_zero]
                    go_wp2_with fail
                    refine ⟨0, Below.refl _ _, Nat.le_refl _, ?_⟩
                    clear k2
                    refine Tin.reg_one 5 _ rfl (by kernel_rfl) ?_
                    try simp only [List.getElem_toArray, List.getElem_cons_succ, List.getElem_cons_zero]
                    go_wp2_with fail
                    refine ⟨0, (ba (brefl p0) _).mono (Nat.zero_le _), Nat.le_refl _, ?_⟩
                    have HSL := Lib.hid (show Sl .i64 (p0.alloc (.cells #[.int .i64 VV] 3)) (some ⟨p0.heap.size, 0, none⟩) [VV] from Sl.new_ p0 _ _ _ rfl)
                    have hv := ba (brefl p0) (.cells #[.int .i64 VV] 3)
                    replace HG := Lib.hid ((hv.block _ (row_lt HG.out)).trans HG.out)
                    replace HO := Lib.hid (HO.out.keep hv)
                    replace SW := Lib.hid (SW.out.trans (hv.mono SW.out.size))
                    have hgs1 : w7.heap.size + 1 ≤ (p0.alloc (.cells #[.int .i64 VV] 3)).heap.size := Nat.le_trans hgs2 hv.size
                    clear hv
                    generalize p0.alloc (.cells #[.int .i64 VV] 3) = z7 at *
                    refine Tin.reg_one 6 _ rfl (by kernel_rfl) ?_
                    try simp only [List.getElem_toArray, List.getElem_cons_succ, List.getElem_cons_zero]
                    refine Tin.wpl_app btI _ rfl (.tmp 53) (.tmp 57) rfl (w7.heap.size + 1) (.slice A3 n c3) (grid (pcV l wd i) wd y ++ lin (pcV l wd i) y x) rfl HO.out (some ⟨p0.heap.size, 0, none⟩) 1 1 [VV] rfl HSL.out rfl (by simp only [List.length_singleton]; omega) (by simp only [List.length_singleton]; omega) hgs1 ?_
                    intro x7 q7 hown7 hg7 how7
                    obtain ⟨A7, c7, rfl⟩ := own_form hown7
                    obtain ⟨n7, hn7⟩ : ∃ n7, ((grid (pcV l wd i) wd y ++ lin (pcV l wd i) y x) ++ [VV]).length = n7 := ⟨_, rfl⟩
                    rw [hn7] at hown7 how7 ⊢
                    have HN7 := Lib.hid hn7
                    clear hn7
                    simp only [Act.put, List.setIfInBounds_toArray, List.set_cons_succ, List.set_cons_zero]
                    go_wp2_with fail
                    refine ⟨0, ⟨hg7.os, hg7.tape, hg7.output, hg7.size, fun i hi => absurd hi (Nat.not_lt_zero _)⟩, Nat.le_refl _, ?_⟩
                    have HLO := Lib.hid (World.ownsRow.lt HO.out)
                    have HG7 := Lib.hid ((hg7.block _ (row_lt HG.out) (fun e => by have := (HLO.out _ e.symm).1; omega)).trans HG.out)
                    have SW7 := Lib.hid (SW.out.grown hg7 SW.out.size (fun q hq => by have := (HLO.out q hq).1; omega))
                    have HO7 := Lib.hid hown7
                    have hz7 : w7.heap.size + 1 ≤ q7.heap.size := Nat.le_trans hgs1 hg7.size
                    clear hg7 how7 hown7 HG SW HO
                    refine Tin.reg_quiets [7] _ 1 rfl (by simp only [Tin.pick, List.map_cons, List.map_nil, Array.getD_eq_getD_getElem?, List.getElem?_toArray, List.getElem?_cons_zero, List.getElem?_cons_succ, Option.getD_some]; rfl) (by kernel_rfl) (by kernel_rfl) ?_
                    repeat (first | go_big_quiet_step (fail))
                    refine wpQuiet_nil ?_
                    have cc7 := row_cell (v := .slice A3 n c3) HG7.out 2 rfl
                    have f7 := frozen_of_row q7 w7.heap.size 2 _ _ HG7.out
                    refine Tin.reg_one 8 _ rfl (by kernel_rfl) ?_
                    try simp only [List.getElem_toArray, List.getElem_cons_succ, List.getElem_cons_zero]
                    go_wp2_with fail
                    have hk7 := grown_setCells w7.heap.size [.slice A7 n7 c7] 2 q7 q7 (World.grownBy.refl q7 _)
                    refine ⟨0, ⟨rfl, rfl, rfl, by simp [World.setCell], fun i hi => absurd hi (Nat.not_lt_zero _)⟩, Nat.le_refl _, ?_⟩
                    refine Tin.reg_done (by kernel_rfl) ?_
                    go_wp2_with fail
                    exact ⟨⟨x + 1, A7, n7, c7, by omega, rfl, row_set HG7.out 2 _, by rw [lin, ← List.append_assoc, HVV.out]; exact HO7.out.kept hk7 (ne_own (fun q hq => by have := (World.ownsRow.lt HO7.out q hq).1; omega)), SW7.out.setCell (Nat.le_refl _) _, by simp only [World.setCell]; simp; omega⟩, by simp only [intOf]; omega⟩
                  · try simp only [List.getElem_toArray, List.getElem_cons_succ, List.getElem_cons_zero]
                    go_wp2_with fail
                    refine ⟨0, (ba (brefl p0) _).mono (Nat.zero_le _), Nat.le_refl _, ?_⟩
                    have HSL := Lib.hid (show Sl .i64 (p0.alloc (.cells #[.int .i64 VV] 3)) (some ⟨p0.heap.size, 0, none⟩) [VV] from Sl.new_ p0 _ _ _ rfl)
                    have hv := ba (brefl p0) (.cells #[.int .i64 VV] 3)
                    replace HG := Lib.hid ((hv.block _ (row_lt HG.out)).trans HG.out)
                    replace HO := Lib.hid (HO.out.keep hv)
                    replace SW := Lib.hid (SW.out.trans (hv.mono SW.out.size))
                    have hgs1 : w7.heap.size + 1 ≤ (p0.alloc (.cells #[.int .i64 VV] 3)).heap.size := Nat.le_trans hgs2 hv.size
                    clear hv
                    generalize p0.alloc (.cells #[.int .i64 VV] 3) = z7 at *
                    have k2 : z7.cell? ⟨w7.heap.size, 2, none⟩ = some (.slice A3 n c3) := row_cell HG.out 2 rfl
                    refine Tin.reg_one 1 _ rfl (by kernel_rfl) ?_
                    try simp only [List.getElem_toArray, List.getElem_cons_succ, List.getElem_cons_zero]
                    go_wp2_with fail
                    refine ⟨0, Below.refl _ _, Nat.le_refl _, ?_⟩
                    clear k2
                    refine Tin.reg_one 6 _ rfl (by kernel_rfl) ?_
                    try simp only [List.getElem_toArray, List.getElem_cons_succ, List.getElem_cons_zero]
                    refine Tin.wpl_app btI _ rfl (.tmp 53) (.tmp 57) rfl (w7.heap.size + 1) (.slice A3 n c3) (grid (pcV l wd i) wd y ++ lin (pcV l wd i) y x) rfl HO.out (some ⟨p0.heap.size, 0, none⟩) 1 1 [VV] rfl HSL.out rfl (by simp only [List.length_singleton]; omega) (by simp only [List.length_singleton]; omega) hgs1 ?_
                    intro x7 q7 hown7 hg7 how7
                    obtain ⟨A7, c7, rfl⟩ := own_form hown7
                    obtain ⟨n7, hn7⟩ : ∃ n7, ((grid (pcV l wd i) wd y ++ lin (pcV l wd i) y x) ++ [VV]).length = n7 := ⟨_, rfl⟩
                    rw [hn7] at hown7 how7 ⊢
                    have HN7 := Lib.hid hn7
                    clear hn7
                    simp only [Act.put, List.setIfInBounds_toArray, List.set_cons_succ, List.set_cons_zero]
                    go_wp2_with fail
                    refine ⟨0, ⟨hg7.os, hg7.tape, hg7.output, hg7.size, fun i hi => absurd hi (Nat.not_lt_zero _)⟩, Nat.le_refl _, ?_⟩
                    have HLO := Lib.hid (World.ownsRow.lt HO.out)
                    have HG7 := Lib.hid ((hg7.block _ (row_lt HG.out) (fun e => by have := (HLO.out _ e.symm).1; omega)).trans HG.out)
                    have SW7 := Lib.hid (SW.out.grown hg7 SW.out.size (fun q hq => by have := (HLO.out q hq).1; omega))
                    have HO7 := Lib.hid hown7
                    have hz7 : w7.heap.size + 1 ≤ q7.heap.size := Nat.le_trans hgs1 hg7.size
                    clear hg7 how7 hown7 HG SW HO
                    refine Tin.reg_quiets [7] _ 1 rfl (by simp only [Tin.pick, List.map_cons, List.map_nil, Array.getD_eq_getD_getElem?, List.getElem?_toArray, List.getElem?_cons_zero, List.getElem?_cons_succ, Option.getD_some]; rfl) (by kernel_rfl) (by kernel_rfl) ?_
                    repeat (first | go_big_quiet_step (fail))
                    refine wpQuiet_nil ?_
                    have cc7 := row_cell (v := .slice A3 n c3) HG7.out 2 rfl
                    have f7 := frozen_of_row q7 w7.heap.size 2 _ _ HG7.out
                    refine Tin.reg_one 8 _ rfl (by kernel_rfl) ?_
                    try simp only [List.getElem_toArray, List.getElem_cons_succ, List.getElem_cons_zero]
                    go_wp2_with fail
                    have hk7 := grown_setCells w7.heap.size [.slice A7 n7 c7] 2 q7 q7 (World.grownBy.refl q7 _)
                    refine ⟨0, ⟨rfl, rfl, rfl, by simp [World.setCell], fun i hi => absurd hi (Nat.not_lt_zero _)⟩, Nat.le_refl _, ?_⟩
                    refine Tin.reg_done (by kernel_rfl) ?_
                    go_wp2_with fail
                    exact ⟨⟨x + 1, A7, n7, c7, by omega, rfl, row_set HG7.out 2 _, by rw [lin, ← List.append_assoc, HVV.out]; exact HO7.out.kept hk7 (ne_own (fun q hq => by have := (World.ownsRow.lt HO7.out q hq).1; omega)), SW7.out.setCell (Nat.le_refl _) _, by simp only [World.setCell]; simp; omega⟩, by simp only [intOf]; omega⟩
            · try simp only [List.getElem_toArray, List.getElem_cons_succ, List.getElem_cons_zero]
              go_wp2_with fail
              have SN := Lib.hid (brefl z2)
              have SN_HG := HG
              have SN_HO := HO
              have SN_le_SW := SW.out.size
              have SN_le_SV := SV.out.size
              have hv := ba (brefl z2) (.cells #[.int .i64 0, .int .i64 0, .int .i64 0] 78)
              have hr10 := heap_alloc_new z2 (.cells #[.int .i64 0, .int .i64 0, .int .i64 0] 78)
              refine ⟨(w.heap.size + 1), hv.mono SZ, Nat.le_refl _, ?_⟩
              replace HG := Lib.hid ((hv.block _ (row_lt HG.out)).trans HG.out)
              replace HO := Lib.hid (HO.out.keep hv)
              replace SW := Lib.hid (SW.out.trans (hv.mono SW.out.size))
              replace SV := Lib.hid (SV.out.trans (hv.mono SV.out.size))
              replace SN := Lib.hid (SN.out.trans (hv.mono SN.out.size))
              replace SZ := Nat.le_trans SZ hv.size
              have R10 := Lib.hid hr10
              clear hr10 hv
              generalize (z2.alloc (.cells #[.int .i64 0, .int .i64 0, .int .i64 0] 78)) = z3 at *
              refine Tin.reg_one 11 _ rfl (by kernel_rfl) ?_
              try simp only [List.getElem_toArray, List.getElem_cons_succ, List.getElem_cons_zero]
              go_wp2_with fail
              refine (byte_any (wd : Int) (ht : Int) (x : Int) (y : Int) 2 A l c _ (HS.out.keep (HB.out.trans (SW.out.mono HB.out.size))) (by omega) (by omega) HN3.out (by omega) (by omega) (by omega) HBY.out).mono ?_
              rintro e z4 ⟨rfl, hv⟩
              generalize nth l (posR (wd : Int) (x : Int) (y : Int) + 2) = b2 at *
              go_wp2_with fail
              refine ⟨(w.heap.size + 1), hv.mono SZ, Nat.le_refl _, ?_⟩
              replace HG := Lib.hid ((hv.block _ (row_lt HG.out)).trans HG.out)
              replace HO := Lib.hid (HO.out.keep hv)
              replace R10 := Lib.hid ((hv.block _ (row_lt R10.out)).trans R10.out)
              replace SW := Lib.hid (SW.out.trans (hv.mono SW.out.size))
              replace SV := Lib.hid (SV.out.trans (hv.mono SV.out.size))
              replace SN := Lib.hid (SN.out.trans (hv.mono SN.out.size))
              replace SZ := Nat.le_trans SZ hv.size
              clear hv
              refine Tin.reg_one 12 _ rfl (by kernel_rfl) ?_
              try simp only [List.getElem_toArray, List.getElem_cons_succ, List.getElem_cons_zero]
              go_wp2_with fail
              refine (rluma_any (b0) (b1) (b2) _).mono ?_
              rintro e z5 ⟨rfl, hv⟩
              go_wp2_with fail
              refine ⟨(w.heap.size + 1), hv.mono SZ, Nat.le_refl _, ?_⟩
              replace HG := Lib.hid ((hv.block _ (row_lt HG.out)).trans HG.out)
              replace HO := Lib.hid (HO.out.keep hv)
              replace R10 := Lib.hid ((hv.block _ (row_lt R10.out)).trans R10.out)
              replace SW := Lib.hid (SW.out.trans (hv.mono SW.out.size))
              replace SV := Lib.hid (SV.out.trans (hv.mono SV.out.size))
              replace SN := Lib.hid (SN.out.trans (hv.mono SN.out.size))
              replace SZ := Nat.le_trans SZ hv.size
              clear hv
              refine Tin.reg_one 14 _ rfl (by kernel_rfl) ?_
              try simp only [List.getElem_toArray, List.getElem_cons_succ, List.getElem_cons_zero]
              go_wp2_with ((with_reducible refine wpl_store_row rt3 ?_ (.tmp 12) (.tmp 51) ?_ (z2.heap.size) ?_ (#[.int .i64 (lumY (b0) (b1) (b2)), .int .i64 (lumB (b0) (b1) (b2)), .int .i64 (lumR (b0) (b1) (b2))]) ?_ (in_one _ _ _) 78 ?_ (#[.int .i64 0, .int .i64 0, .int .i64 0]) ?_ R10.out ?_); rfl; rfl; rfl; rfl; rfl; rfl; intro z6 hr10 hg10 hs10)
              have hb10 : Below (z2.heap.size) z5 z6 := (Below.refl _ _).grown hg10 SN.out.size (fun k hk => by cases hk; exact Nat.le_refl _)
              refine ⟨(w.heap.size + 1), hb10.mono (by have := SV.out.size; have := SN_le_SV; have := SN_le_SW; omega), Nat.le_refl _, ?_⟩
              clear R10
              replace SN := Lib.hid (SN.out.trans hb10)
              replace HG := Lib.hid ((SN.out.block _ (row_lt SN_HG.out)).trans SN_HG.out)
              replace HO := Lib.hid (SN_HO.out.keep SN.out)
              replace SW := Lib.hid (SW.out.trans (hb10.mono SN_le_SW))
              replace SV := Lib.hid (SV.out.trans (hb10.mono SN_le_SV))
              replace SZ := Nat.le_trans SZ hg10.size
              have R10 := Lib.hid hr10
              clear hr10 hg10 hs10 hb10
              refine Tin.reg_done (by kernel_rfl) ?_
              have k12 := row_cell R10.out i (lum_row _ _ _ hi3)
              rw [← HPX.out] at k12
              generalize hVV : pcV l wd i x y = VV at *
              have HVV := Lib.hid hVV
              have K12 := Lib.hid k12
              clear hVV k12 HPX
              have hgs2 : w7.heap.size + 1 ≤ z6.heap.size := Nat.le_trans hgs0 SV.out.size
              clear SV
              go_wp2_with fail
              refine Tin.reg_begin 0 9 (by rfl) (by kernel_rfl) ?_
              replace SW := Lib.hid (ud' SW.out)
              replace HO := Lib.hid HO.out.drew
              replace HG := Lib.hid (show z6.drew.heap[w7.heap.size]? = _ from HG.out)
              replace K12 := Lib.hid (show z6.drew.cell? ⟨z2.heap.size, i, none⟩ = _ from K12.out)
              replace hgs2 : w7.heap.size + 1 ≤ z6.drew.heap.size := hgs2
              have hlt12 : z2.heap.size < z6.drew.heap.size := row_lt R10.out
              generalize z6.drew = p0 at *
              refine Tin.reg_quiets [0, 2, 3] _ 6 rfl (by simp only [Tin.pick, List.map_cons, List.map_nil, Array.getD_eq_getD_getElem?, List.getElem?_toArray, List.getElem?_cons_zero, List.getElem?_cons_succ, Option.getD_some]; rfl) (by kernel_rfl) (by kernel_rfl) ?_
              repeat (first | go_big_quiet_step (fail))
              refine wpQuiet_nil ?_
              refine Tin.reg_two 1 4 _ _ rfl rfl (by kernel_rfl) ?_ ?_
              · have k2 : p0.cell? ⟨w7.heap.size, 2, none⟩ = some (.slice A3 n c3) := row_cell HG.out 2 rfl
                try simp only [List.getElem_toArray, List.getElem_cons_succ, List.getElem_cons_zero]
                go_wp2_with fail
                refine ⟨0, Below.refl _ _, Nat.le_refl _, ?_⟩
                clear k2
                have k4 := K12.out
                refine Tin.reg_one 4 _ rfl (by kernel_rfl) ?_
                try simp only [List.getElem_toArray, List.getElem_cons_succ, List.getElem_cons_zero]
                go_wp2_with fail
                refine ⟨0, Below.refl _ _, Nat.le_refl _, ?_⟩
                clear k4
                refine Tin.reg_one 5 _ rfl (by kernel_rfl) ?_
                try simp only [List.getElem_toArray, List.getElem_cons_succ, List.getElem_cons_zero]
                go_wp2_with fail
                refine ⟨0, (ba (brefl p0) _).mono (Nat.zero_le _), Nat.le_refl _, ?_⟩
                have HSL := Lib.hid (show Sl .i64 (p0.alloc (.cells #[.int .i64 VV] 3)) (some ⟨p0.heap.size, 0, none⟩) [VV] from Sl.new_ p0 _ _ _ rfl)
                have hv := ba (brefl p0) (.cells #[.int .i64 VV] 3)
                replace HG := Lib.hid ((hv.block _ (row_lt HG.out)).trans HG.out)
                replace HO := Lib.hid (HO.out.keep hv)
                replace SW := Lib.hid (SW.out.trans (hv.mono SW.out.size))
                have hgs1 : w7.heap.size + 1 ≤ (p0.alloc (.cells #[.int .i64 VV] 3)).heap.size := Nat.le_trans hgs2 hv.size
                clear hv
                generalize p0.alloc (.cells #[.int .i64 VV] 3) = z7 at *
                refine Tin.reg_one 6 _ rfl (by kernel_rfl) ?_
                try simp only [List.getElem_toArray, List.getElem_cons_succ, List.getElem_cons_zero]
                refine Tin.wpl_app btI _ rfl (.tmp 53) (.tmp 57) rfl (w7.heap.size + 1) (.slice A3 n c3) (grid (pcV l wd i) wd y ++ lin (pcV l wd i) y x) rfl HO.out (some ⟨p0.heap.size, 0, none⟩) 1 1 [VV] rfl HSL.out rfl (by simp only [List.length_singleton]; omega) (by simp only [List.length_singleton]; omega) hgs1 ?_
                intro x7 q7 hown7 hg7 how7
                obtain ⟨A7, c7, rfl⟩ := own_form hown7
                obtain ⟨n7, hn7⟩ : ∃ n7, ((grid (pcV l wd i) wd y ++ lin (pcV l wd i) y x) ++ [VV]).length = n7 := ⟨_, rfl⟩
                rw [hn7] at hown7 how7 ⊢
                have HN7 := Lib.hid hn7
                clear hn7
                simp only [Act.put, List.setIfInBounds_toArray, List.set_cons_succ, List.set_cons_zero]
                go_wp2_with fail
                refine ⟨0, ⟨hg7.os, hg7.tape, hg7.output, hg7.size, fun i hi => absurd hi (Nat.not_lt_zero _)⟩, Nat.le_refl _, ?_⟩
                have HLO := Lib.hid (World.ownsRow.lt HO.out)
                have HG7 := Lib.hid ((hg7.block _ (row_lt HG.out) (fun e => by have := (HLO.out _ e.symm).1; omega)).trans HG.out)
                have SW7 := Lib.hid (SW.out.grown hg7 SW.out.size (fun q hq => by have := (HLO.out q hq).1; omega))
                have HO7 := Lib.hid hown7
                have hz7 : w7.heap.size + 1 ≤ q7.heap.size := Nat.le_trans hgs1 hg7.size
                clear hg7 how7 hown7 HG SW HO
                refine Tin.reg_quiets [7] _ 1 rfl (by simp only [Tin.pick, List.map_cons, List.map_nil, Array.getD_eq_getD_getElem?, List.getElem?_toArray, List.getElem?_cons_zero, List.getElem?_cons_succ, Option.getD_some]; rfl) (by kernel_rfl) (by kernel_rfl) ?_
                repeat (first | go_big_quiet_step (fail))
                refine wpQuiet_nil ?_
                have cc7 := row_cell (v := .slice A3 n c3) HG7.out 2 rfl
                have f7 := frozen_of_row q7 w7.heap.size 2 _ _ HG7.out
                refine Tin.reg_one 8 _ rfl (by kernel_rfl) ?_
                try simp only [List.getElem_toArray, List.getElem_cons_succ, List.getElem_cons_zero]
                go_wp2_with fail
                have hk7 := grown_setCells w7.heap.size [.slice A7 n7 c7] 2 q7 q7 (World.grownBy.refl q7 _)
                refine ⟨0, ⟨rfl, rfl, rfl, by simp [World.setCell], fun i hi => absurd hi (Nat.not_lt_zero _)⟩, Nat.le_refl _, ?_⟩
                refine Tin.reg_done (by kernel_rfl) ?_
                go_wp2_with fail
                exact ⟨⟨x + 1, A7, n7, c7, by omega, rfl, row_set HG7.out 2 _, by rw [lin, ← List.append_assoc, HVV.out]; exact HO7.out.kept hk7 (ne_own (fun q hq => by have := (World.ownsRow.lt HO7.out q hq).1; omega)), SW7.out.setCell (Nat.le_refl _) _, by simp only [World.setCell]; simp; omega⟩, by simp only [intOf]; omega⟩
              · have k4 := K12.out
                try simp only [List.getElem_toArray, List.getElem_cons_succ, List.getElem_cons_zero]
                go_wp2_with fail
                refine ⟨0, Below.refl _ _, Nat.le_refl _, ?_⟩
                clear k4
                refine Tin.reg_two 1 5 _ _ rfl rfl (by kernel_rfl) ?_ ?_
                · have k2 : p0.cell? ⟨w7.heap.size, 2, none⟩ = some (.slice A3 n c3) := row_cell HG.out 2 rfl
                  try simp only [List.getElem_toArray, List.getElem_cons_succ, List.getElem_cons_zero]
                  go_wp2_with fail
                  refine ⟨0, Below.refl _ _, Nat.le_refl _, ?_⟩
                  clear k2
                  refine Tin.reg_one 5 _ rfl (by kernel_rfl) ?_
                  try simp only [List.getElem_toArray, List.getElem_cons_succ, List.getElem_cons_zero]
                  go_wp2_with fail
                  refine ⟨0, (ba (brefl p0) _).mono (Nat.zero_le _), Nat.le_refl _, ?_⟩
                  have HSL := Lib.hid (show Sl .i64 (p0.alloc (.cells #[.int .i64 VV] 3)) (some ⟨p0.heap.size, 0, none⟩) [VV] from Sl.new_ p0 _ _ _ rfl)
                  have hv := ba (brefl p0) (.cells #[.int .i64 VV] 3)
                  replace HG := Lib.hid ((hv.block _ (row_lt HG.out)).trans HG.out)
                  replace HO := Lib.hid (HO.out.keep hv)
                  replace SW := Lib.hid (SW.out.trans (hv.mono SW.out.size))
                  have hgs1 : w7.heap.size + 1 ≤ (p0.alloc (.cells #[.int .i64 VV] 3)).heap.size := Nat.le_trans hgs2 hv.size
                  clear hv
                  generalize p0.alloc (.cells #[.int .i64 VV] 3) = z7 at *
                  refine Tin.reg_one 6 _ rfl (by kernel_rfl) ?_
                  try simp only [List.getElem_toArray, List.getElem_cons_succ, List.getElem_cons_zero]
                  refine Tin.wpl_app btI _ rfl (.tmp 53) (.tmp 57) rfl (w7.heap.size + 1) (.slice A3 n c3) (grid (pcV l wd i) wd y ++ lin (pcV l wd i) y x) rfl HO.out (some ⟨p0.heap.size, 0, none⟩) 1 1 [VV] rfl HSL.out rfl (by simp only [List.length_singleton]; omega) (by simp only [List.length_singleton]; omega) hgs1 ?_
                  intro x7 q7 hown7 hg7 how7
                  obtain ⟨A7, c7, rfl⟩ := own_form hown7
                  obtain ⟨n7, hn7⟩ : ∃ n7, ((grid (pcV l wd i) wd y ++ lin (pcV l wd i) y x) ++ [VV]).length = n7 := ⟨_, rfl⟩
                  rw [hn7] at hown7 how7 ⊢
                  have HN7 := Lib.hid hn7
                  clear hn7
                  simp only [Act.put, List.setIfInBounds_toArray, List.set_cons_succ, List.set_cons_zero]
                  go_wp2_with fail
                  refine ⟨0, ⟨hg7.os, hg7.tape, hg7.output, hg7.size, fun i hi => absurd hi (Nat.not_lt_zero _)⟩, Nat.le_refl _, ?_⟩
                  have HLO := Lib.hid (World.ownsRow.lt HO.out)
                  have HG7 := Lib.hid ((hg7.block _ (row_lt HG.out) (fun e => by have := (HLO.out _ e.symm).1; omega)).trans HG.out)
                  have SW7 := Lib.hid (SW.out.grown hg7 SW.out.size (fun q hq => by have := (HLO.out q hq).1; omega))
                  have HO7 := Lib.hid hown7
                  have hz7 : w7.heap.size + 1 ≤ q7.heap.size := Nat.le_trans hgs1 hg7.size
                  clear hg7 how7 hown7 HG SW HO
                  refine Tin.reg_quiets [7] _ 1 rfl (by simp only [Tin.pick, List.map_cons, List.map_nil, Array.getD_eq_getD_getElem?, List.getElem?_toArray, List.getElem?_cons_zero, List.getElem?_cons_succ, Option.getD_some]; rfl) (by kernel_rfl) (by kernel_rfl) ?_
                  repeat (first | go_big_quiet_step (fail))
                  refine wpQuiet_nil ?_
                  have cc7 := row_cell (v := .slice A3 n c3) HG7.out 2 rfl
                  have f7 := frozen_of_row q7 w7.heap.size 2 _ _ HG7.out
                  refine Tin.reg_one 8 _ rfl (by kernel_rfl) ?_
                  try simp only [List.getElem_toArray, List.getElem_cons_succ, List.getElem_cons_zero]
                  go_wp2_with fail
                  have hk7 := grown_setCells w7.heap.size [.slice A7 n7 c7] 2 q7 q7 (World.grownBy.refl q7 _)
                  refine ⟨0, ⟨rfl, rfl, rfl, by simp [World.setCell], fun i hi => absurd hi (Nat.not_lt_zero _)⟩, Nat.le_refl _, ?_⟩
                  refine Tin.reg_done (by kernel_rfl) ?_
                  go_wp2_with fail
                  exact ⟨⟨x + 1, A7, n7, c7, by omega, rfl, row_set HG7.out 2 _, by rw [lin, ← List.append_assoc, HVV.out]; exact HO7.out.kept hk7 (ne_own (fun q hq => by have := (World.ownsRow.lt HO7.out q hq).1; omega)), SW7.out.setCell (Nat.le_refl _) _, by simp only [World.setCell]; simp; omega⟩, by simp only [intOf]; omega⟩
                · try simp only [List.getElem_toArray, List.getElem_cons_succ, List.getElem_cons_zero]
                  go_wp2_with fail
                  refine ⟨0, (ba (brefl p0) _).mono (Nat.zero_le _), Nat.le_refl _, ?_⟩
                  have HSL := Lib.hid (show Sl .i64 (p0.alloc (.cells #[.int .i64 VV] 3)) (some ⟨p0.heap.size, 0, none⟩) [VV] from Sl.new_ p0 _ _ _ rfl)
                  have hv := ba (brefl p0) (.cells #[.int .i64 VV] 3)
                  replace HG := Lib.hid ((hv.block _ (row_lt HG.out)).trans HG.out)
                  replace HO := Lib.hid (HO.out.keep hv)
                  replace SW := Lib.hid (SW.out.trans (hv.mono SW.out.size))
                  have hgs1 : w7.heap.size + 1 ≤ (p0.alloc (.cells #[.int .i64 VV] 3)).heap.size := Nat.le_trans hgs2 hv.size
                  clear hv
                  generalize p0.alloc (.cells #[.int .i64 VV] 3) = z7 at *
                  have k2 : z7.cell? ⟨w7.heap.size, 2, none⟩ = some (.slice A3 n c3) := row_cell HG.out 2 rfl
                  refine Tin.reg_one 1 _ rfl (by kernel_rfl) ?_
                  try simp only [List.getElem_toArray, List.getElem_cons_succ, List.getElem_cons_zero]
                  go_wp2_with fail
                  refine ⟨0, Below.refl _ _, Nat.le_refl _, ?_⟩
                  clear k2
                  refine Tin.reg_one 6 _ rfl (by kernel_rfl) ?_
                  try simp only [List.getElem_toArray, List.getElem_cons_succ, List.getElem_cons_zero]
                  refine Tin.wpl_app btI _ rfl (.tmp 53) (.tmp 57) rfl (w7.heap.size + 1) (.slice A3 n c3) (grid (pcV l wd i) wd y ++ lin (pcV l wd i) y x) rfl HO.out (some ⟨p0.heap.size, 0, none⟩) 1 1 [VV] rfl HSL.out rfl (by simp only [List.length_singleton]; omega) (by simp only [List.length_singleton]; omega) hgs1 ?_
                  intro x7 q7 hown7 hg7 how7
                  obtain ⟨A7, c7, rfl⟩ := own_form hown7
                  obtain ⟨n7, hn7⟩ : ∃ n7, ((grid (pcV l wd i) wd y ++ lin (pcV l wd i) y x) ++ [VV]).length = n7 := ⟨_, rfl⟩
                  rw [hn7] at hown7 how7 ⊢
                  have HN7 := Lib.hid hn7
                  clear hn7
                  simp only [Act.put, List.setIfInBounds_toArray, List.set_cons_succ, List.set_cons_zero]
                  go_wp2_with fail
                  refine ⟨0, ⟨hg7.os, hg7.tape, hg7.output, hg7.size, fun i hi => absurd hi (Nat.not_lt_zero _)⟩, Nat.le_refl _, ?_⟩
                  have HLO := Lib.hid (World.ownsRow.lt HO.out)
                  have HG7 := Lib.hid ((hg7.block _ (row_lt HG.out) (fun e => by have := (HLO.out _ e.symm).1; omega)).trans HG.out)
                  have SW7 := Lib.hid (SW.out.grown hg7 SW.out.size (fun q hq => by have := (HLO.out q hq).1; omega))
                  have HO7 := Lib.hid hown7
                  have hz7 : w7.heap.size + 1 ≤ q7.heap.size := Nat.le_trans hgs1 hg7.size
                  clear hg7 how7 hown7 HG SW HO
                  refine Tin.reg_quiets [7] _ 1 rfl (by simp only [Tin.pick, List.map_cons, List.map_nil, Array.getD_eq_getD_getElem?, List.getElem?_toArray, List.getElem?_cons_zero, List.getElem?_cons_succ, Option.getD_some]; rfl) (by kernel_rfl) (by kernel_rfl) ?_
                  repeat (first | go_big_quiet_step (fail))
                  refine wpQuiet_nil ?_
                  have cc7 := row_cell (v := .slice A3 n c3) HG7.out 2 rfl
                  have f7 := frozen_of_row q7 w7.heap.size 2 _ _ HG7.out
                  refine Tin.reg_one 8 _ rfl (by kernel_rfl) ?_
                  try simp only [List.getElem_toArray, List.getElem_cons_succ, List.getElem_cons_zero]
                  go_wp2_with fail
                  have hk7 := grown_setCells w7.heap.size [.slice A7 n7 c7] 2 q7 q7 (World.grownBy.refl q7 _)
                  refine ⟨0, ⟨rfl, rfl, rfl, by simp [World.setCell], fun i hi => absurd hi (Nat.not_lt_zero _)⟩, Nat.le_refl _, ?_⟩
                  refine Tin.reg_done (by kernel_rfl) ?_
                  go_wp2_with fail
                  exact ⟨⟨x + 1, A7, n7, c7, by omega, rfl, row_set HG7.out 2 _, by rw [lin, ← List.append_assoc, HVV.out]; exact HO7.out.kept hk7 (ne_own (fun q hq => by have := (World.ownsRow.lt HO7.out q hq).1; omega)), SW7.out.setCell (Nat.le_refl _) _, by simp only [World.setCell]; simp; omega⟩, by simp only [intOf]; omega⟩
          · try simp only [List.getElem_toArray, List.getElem_cons_succ, List.getElem_cons_zero]
            go_wp2_with fail
            have SN := Lib.hid (brefl z1)
            have SN_HG := HG
            have SN_HO := HO
            have SN_le_SW := SW.out.size
            have SN_le_SV := SV.out.size
            have hv := ba (brefl z1) (.cells #[.int .i64 0, .int .i64 0, .int .i64 0] 78)
            have hr10 := heap_alloc_new z1 (.cells #[.int .i64 0, .int .i64 0, .int .i64 0] 78)
            refine ⟨(w.heap.size + 1), hv.mono SZ, Nat.le_refl _, ?_⟩
            replace HG := Lib.hid ((hv.block _ (row_lt HG.out)).trans HG.out)
            replace HO := Lib.hid (HO.out.keep hv)
            replace SW := Lib.hid (SW.out.trans (hv.mono SW.out.size))
            replace SV := Lib.hid (SV.out.trans (hv.mono SV.out.size))
            replace SN := Lib.hid (SN.out.trans (hv.mono SN.out.size))
            replace SZ := Nat.le_trans SZ hv.size
            have R10 := Lib.hid hr10
            clear hr10 hv
            generalize (z1.alloc (.cells #[.int .i64 0, .int .i64 0, .int .i64 0] 78)) = z2 at *
            refine Tin.reg_one 7 _ rfl (by kernel_rfl) ?_
            try simp only [List.getElem_toArray, List.getElem_cons_succ, List.getElem_cons_zero]
            go_wp2_with fail
            refine (byte_any (wd : Int) (ht : Int) (x : Int) (y : Int) 1 A l c _ (HS.out.keep (HB.out.trans (SW.out.mono HB.out.size))) (by omega) (by omega) HN3.out (by omega) (by omega) (by omega) HBY.out).mono ?_
            rintro e z3 ⟨rfl, hv⟩
            generalize nth l (posR (wd : Int) (x : Int) (y : Int) + 1) = b1 at *
            go_wp2_with fail
            refine ⟨(w.heap.size + 1), hv.mono SZ, Nat.le_refl _, ?_⟩
            replace HG := Lib.hid ((hv.block _ (row_lt HG.out)).trans HG.out)
            replace HO := Lib.hid (HO.out.keep hv)
            replace R10 := Lib.hid ((hv.block _ (row_lt R10.out)).trans R10.out)
            replace SW := Lib.hid (SW.out.trans (hv.mono SW.out.size))
            replace SV := Lib.hid (SV.out.trans (hv.mono SV.out.size))
            replace SN := Lib.hid (SN.out.trans (hv.mono SN.out.size))
            replace SZ := Nat.le_trans SZ hv.size
            clear hv
            refine Tin.reg_one 11 _ rfl (by kernel_rfl) ?_
            try simp only [List.getElem_toArray, List.getElem_cons_succ, List.getElem_cons_zero]
            go_wp2_with fail
            refine (byte_any (wd : Int) (ht : Int) (x : Int) (y : Int) 2 A l c _ (HS.out.keep (HB.out.trans (SW.out.mono HB.out.size))) (by omega) (by omega) HN3.out (by omega) (by omega) (by omega) HBY.out).mono ?_
            rintro e z4 ⟨rfl, hv⟩
            generalize nth l (posR (wd : Int) (x : Int) (y : Int) + 2) = b2 at *
            go_wp2_with fail
            refine ⟨(w.heap.size + 1), hv.mono SZ, Nat.le_refl _, ?_⟩
            replace HG := Lib.hid ((hv.block _ (row_lt HG.out)).trans HG.out)
            replace HO := Lib.hid (HO.out.keep hv)
            replace R10 := Lib.hid ((hv.block _ (row_lt R10.out)).trans R10.out)
            replace SW := Lib.hid (SW.out.trans (hv.mono SW.out.size))
            replace SV := Lib.hid (SV.out.trans (hv.mono SV.out.size))
            replace SN := Lib.hid (SN.out.trans (hv.mono SN.out.size))
            replace SZ := Nat.le_trans SZ hv.size
            clear hv
            refine Tin.reg_one 12 _ rfl (by kernel_rfl) ?_
            try simp only [List.getElem_toArray, List.getElem_cons_succ, List.getElem_cons_zero]
            go_wp2_with fail
            refine (rluma_any (b0) (b1) (b2) _).mono ?_
            rintro e z5 ⟨rfl, hv⟩
            go_wp2_with fail
            refine ⟨(w.heap.size + 1), hv.mono SZ, Nat.le_refl _, ?_⟩
            replace HG := Lib.hid ((hv.block _ (row_lt HG.out)).trans HG.out)
            replace HO := Lib.hid (HO.out.keep hv)
            replace R10 := Lib.hid ((hv.block _ (row_lt R10.out)).trans R10.out)
            replace SW := Lib.hid (SW.out.trans (hv.mono SW.out.size))
            replace SV := Lib.hid (SV.out.trans (hv.mono SV.out.size))
            replace SN := Lib.hid (SN.out.trans (hv.mono SN.out.size))
            replace SZ := Nat.le_trans SZ hv.size
            clear hv
            refine Tin.reg_one 14 _ rfl (by kernel_rfl) ?_
            try simp only [List.getElem_toArray, List.getElem_cons_succ, List.getElem_cons_zero]
            go_wp2_with ((with_reducible refine wpl_store_row rt3 ?_ (.tmp 12) (.tmp 51) ?_ (z1.heap.size) ?_ (#[.int .i64 (lumY (b0) (b1) (b2)), .int .i64 (lumB (b0) (b1) (b2)), .int .i64 (lumR (b0) (b1) (b2))]) ?_ (in_one _ _ _) 78 ?_ (#[.int .i64 0, .int .i64 0, .int .i64 0]) ?_ R10.out ?_); rfl; rfl; rfl; rfl; rfl; rfl; intro z6 hr10 hg10 hs10)
            have hb10 : Below (z1.heap.size) z5 z6 := (Below.refl _ _).grown hg10 SN.out.size (fun k hk => by cases hk; exact Nat.le_refl _)
            refine ⟨(w.heap.size + 1), hb10.mono (by have := SV.out.size; have := SN_le_SV; have := SN_le_SW; omega), Nat.le_refl _, ?_⟩
            clear R10
            replace SN := Lib.hid (SN.out.trans hb10)
            replace HG := Lib.hid ((SN.out.block _ (row_lt SN_HG.out)).trans SN_HG.out)
            replace HO := Lib.hid (SN_HO.out.keep SN.out)
            replace SW := Lib.hid (SW.out.trans (hb10.mono SN_le_SW))
            replace SV := Lib.hid (SV.out.trans (hb10.mono SN_le_SV))
            replace SZ := Nat.le_trans SZ hg10.size
            have R10 := Lib.hid hr10
            clear hr10 hg10 hs10 hb10
            refine Tin.reg_done (by kernel_rfl) ?_
            have k12 := row_cell R10.out i (lum_row _ _ _ hi3)
            rw [← HPX.out] at k12
            generalize hVV : pcV l wd i x y = VV at *
            have HVV := Lib.hid hVV
            have K12 := Lib.hid k12
            clear hVV k12 HPX
            have hgs2 : w7.heap.size + 1 ≤ z6.heap.size := Nat.le_trans hgs0 SV.out.size
            clear SV
            go_wp2_with fail
            refine Tin.reg_begin 0 9 (by rfl) (by kernel_rfl) ?_
            replace SW := Lib.hid (ud' SW.out)
            replace HO := Lib.hid HO.out.drew
            replace HG := Lib.hid (show z6.drew.heap[w7.heap.size]? = _ from HG.out)
            replace K12 := Lib.hid (show z6.drew.cell? ⟨z1.heap.size, i, none⟩ = _ from K12.out)
            replace hgs2 : w7.heap.size + 1 ≤ z6.drew.heap.size := hgs2
            have hlt12 : z1.heap.size < z6.drew.heap.size := row_lt R10.out
            generalize z6.drew = p0 at *
            refine Tin.reg_quiets [0, 2, 3] _ 6 rfl (by simp only [Tin.pick, List.map_cons, List.map_nil, Array.getD_eq_getD_getElem?, List.getElem?_toArray, List.getElem?_cons_zero, List.getElem?_cons_succ, Option.getD_some]; rfl) (by kernel_rfl) (by kernel_rfl) ?_
            repeat (first | go_big_quiet_step (fail))
            refine wpQuiet_nil ?_
            refine Tin.reg_two 1 4 _ _ rfl rfl (by kernel_rfl) ?_ ?_
            · have k2 : p0.cell? ⟨w7.heap.size, 2, none⟩ = some (.slice A3 n c3) := row_cell HG.out 2 rfl
              try simp only [List.getElem_toArray, List.getElem_cons_succ, List.getElem_cons_zero]
              go_wp2_with fail
              refine ⟨0, Below.refl _ _, Nat.le_refl _, ?_⟩
              clear k2
              have k4 := K12.out
              refine Tin.reg_one 4 _ rfl (by kernel_rfl) ?_
              try simp only [List.getElem_toArray, List.getElem_cons_succ, List.getElem_cons_zero]
              go_wp2_with fail
              refine ⟨0, Below.refl _ _, Nat.le_refl _, ?_⟩
              clear k4
              refine Tin.reg_one 5 _ rfl (by kernel_rfl) ?_
              try simp only [List.getElem_toArray, List.getElem_cons_succ, List.getElem_cons_zero]
              go_wp2_with fail
              refine ⟨0, (ba (brefl p0) _).mono (Nat.zero_le _), Nat.le_refl _, ?_⟩
              have HSL := Lib.hid (show Sl .i64 (p0.alloc (.cells #[.int .i64 VV] 3)) (some ⟨p0.heap.size, 0, none⟩) [VV] from Sl.new_ p0 _ _ _ rfl)
              have hv := ba (brefl p0) (.cells #[.int .i64 VV] 3)
              replace HG := Lib.hid ((hv.block _ (row_lt HG.out)).trans HG.out)
              replace HO := Lib.hid (HO.out.keep hv)
              replace SW := Lib.hid (SW.out.trans (hv.mono SW.out.size))
              have hgs1 : w7.heap.size + 1 ≤ (p0.alloc (.cells #[.int .i64 VV] 3)).heap.size := Nat.le_trans hgs2 hv.size
              clear hv
              generalize p0.alloc (.cells #[.int .i64 VV] 3) = z7 at *
              refine Tin.reg_one 6 _ rfl (by kernel_rfl) ?_
              try simp only [List.getElem_toArray, List.getElem_cons_succ, List.getElem_cons_zero]
              refine Tin.wpl_app btI _ rfl (.tmp 53) (.tmp 57) rfl (w7.heap.size + 1) (.slice A3 n c3) (grid (pcV l wd i) wd y ++ lin (pcV l wd i) y x) rfl HO.out (some ⟨p0.heap.size, 0, none⟩) 1 1 [VV] rfl HSL.out rfl (by simp only [List.length_singleton]; omega) (by simp only [List.length_singleton]; omega) hgs1 ?_
              intro x7 q7 hown7 hg7 how7
              obtain ⟨A7, c7, rfl⟩ := own_form hown7
              obtain ⟨n7, hn7⟩ : ∃ n7, ((grid (pcV l wd i) wd y ++ lin (pcV l wd i) y x) ++ [VV]).length = n7 := ⟨_, rfl⟩
              rw [hn7] at hown7 how7 ⊢
              have HN7 := Lib.hid hn7
              clear hn7
              simp only [Act.put, List.setIfInBounds_toArray, List.set_cons_succ, List.set_cons_zero]
              go_wp2_with fail
              refine ⟨0, ⟨hg7.os, hg7.tape, hg7.output, hg7.size, fun i hi => absurd hi (Nat.not_lt_zero _)⟩, Nat.le_refl _, ?_⟩
              have HLO := Lib.hid (World.ownsRow.lt HO.out)
              have HG7 := Lib.hid ((hg7.block _ (row_lt HG.out) (fun e => by have := (HLO.out _ e.symm).1; omega)).trans HG.out)
              have SW7 := Lib.hid (SW.out.grown hg7 SW.out.size (fun q hq => by have := (HLO.out q hq).1; omega))
              have HO7 := Lib.hid hown7
              have hz7 : w7.heap.size + 1 ≤ q7.heap.size := Nat.le_trans hgs1 hg7.size
              clear hg7 how7 hown7 HG SW HO
              refine Tin.reg_quiets [7] _ 1 rfl (by simp only [Tin.pick, List.map_cons, List.map_nil, Array.getD_eq_getD_getElem?, List.getElem?_toArray, List.getElem?_cons_zero, List.getElem?_cons_succ, Option.getD_some]; rfl) (by kernel_rfl) (by kernel_rfl) ?_
              repeat (first | go_big_quiet_step (fail))
              refine wpQuiet_nil ?_
              have cc7 := row_cell (v := .slice A3 n c3) HG7.out 2 rfl
              have f7 := frozen_of_row q7 w7.heap.size 2 _ _ HG7.out
              refine Tin.reg_one 8 _ rfl (by kernel_rfl) ?_
              try simp only [List.getElem_toArray, List.getElem_cons_succ, List.getElem_cons_zero]
              go_wp2_with fail
              have hk7 := grown_setCells w7.heap.size [.slice A7 n7 c7] 2 q7 q7 (World.grownBy.refl q7 _)
              refine ⟨0, ⟨rfl, rfl, rfl, by simp [World.setCell], fun i hi => absurd hi (Nat.not_lt_zero _)⟩, Nat.le_refl _, ?_⟩
              refine Tin.reg_done (by kernel_rfl) ?_
              go_wp2_with fail
              exact ⟨⟨x + 1, A7, n7, c7, by omega, rfl, row_set HG7.out 2 _, by rw [lin, ← List.append_assoc, HVV.out]; exact HO7.out.kept hk7 (ne_own (fun q hq => by have := (World.ownsRow.lt HO7.out q hq).1; omega)), SW7.out.setCell (Nat.le_refl _) _, by simp only [World.setCell]; simp; omega⟩, by simp only [intOf]; omega⟩
            · have k4 := K12.out
              try simp only [List.getElem_toArray, List.getElem_cons_succ, List.getElem_cons_zero]
              go_wp2_with fail
              refine ⟨0, Below.refl _ _, Nat.le_refl _, ?_⟩
              clear k4
              refine Tin.reg_two 1 5 _ _ rfl rfl (by kernel_rfl) ?_ ?_
              · have k2 : p0.cell? ⟨w7.heap.size, 2, none⟩ = some (.slice A3 n c3) := row_cell HG.out 2 rfl
                try simp only [List.getElem_toArray, List.getElem_cons_succ, List.getElem_cons_zero]
                go_wp2_with fail
                refine ⟨0, Below.refl _ _, Nat.le_refl _, ?_⟩
                clear k2
                refine Tin.reg_one 5 _ rfl (by kernel_rfl) ?_
                try simp only [List.getElem_toArray, List.getElem_cons_succ, List.getElem_cons_zero]
                go_wp2_with fail
                refine ⟨0, (ba (brefl p0) _).mono (Nat.zero_le _), Nat.le_refl _, ?_⟩
                have HSL := Lib.hid (show Sl .i64 (p0.alloc (.cells #[.int .i64 VV] 3)) (some ⟨p0.heap.size, 0, none⟩) [VV] from Sl.new_ p0 _ _ _ rfl)
                have hv := ba (brefl p0) (.cells #[.int .i64 VV] 3)
                replace HG := Lib.hid ((hv.block _ (row_lt HG.out)).trans HG.out)
                replace HO := Lib.hid (HO.out.keep hv)
                replace SW := Lib.hid (SW.out.trans (hv.mono SW.out.size))
                have hgs1 : w7.heap.size + 1 ≤ (p0.alloc (.cells #[.int .i64 VV] 3)).heap.size := Nat.le_trans hgs2 hv.size
                clear hv
                generalize p0.alloc (.cells #[.int .i64 VV] 3) = z7 at *
                refine Tin.reg_one 6 _ rfl (by kernel_rfl) ?_
                try simp only [List.getElem_toArray, List.getElem_cons_succ, List.getElem_cons_zero]
                refine Tin.wpl_app btI _ rfl (.tmp 53) (.tmp 57) rfl (w7.heap.size + 1) (.slice A3 n c3) (grid (pcV l wd i) wd y ++ lin (pcV l wd i) y x) rfl HO.out (some ⟨p0.heap.size, 0, none⟩) 1 1 [VV] rfl HSL.out rfl (by simp only [List.length_singleton]; omega) (by simp only [List.length_singleton]; omega) hgs1 ?_
                intro x7 q7 hown7 hg7 how7
                obtain ⟨A7, c7, rfl⟩ := own_form hown7
                obtain ⟨n7, hn7⟩ : ∃ n7, ((grid (pcV l wd i) wd y ++ lin (pcV l wd i) y x) ++ [VV]).length = n7 := ⟨_, rfl⟩
                rw [hn7] at hown7 how7 ⊢
                have HN7 := Lib.hid hn7
                clear hn7
                simp only [Act.put, List.setIfInBounds_toArray, List.set_cons_succ, List.set_cons_zero]
                go_wp2_with fail
                refine ⟨0, ⟨hg7.os, hg7.tape, hg7.output, hg7.size, fun i hi => absurd hi (Nat.not_lt_zero _)⟩, Nat.le_refl _, ?_⟩
                have HLO := Lib.hid (World.ownsRow.lt HO.out)
                have HG7 := Lib.hid ((hg7.block _ (row_lt HG.out) (fun e => by have := (HLO.out _ e.symm).1; omega)).trans HG.out)
                have SW7 := Lib.hid (SW.out.grown hg7 SW.out.size (fun q hq => by have := (HLO.out q hq).1; omega))
                have HO7 := Lib.hid hown7
                have hz7 : w7.heap.size + 1 ≤ q7.heap.size := Nat.le_trans hgs1 hg7.size
                clear hg7 how7 hown7 HG SW HO
                refine Tin.reg_quiets [7] _ 1 rfl (by simp only [Tin.pick, List.map_cons, List.map_nil, Array.getD_eq_getD_getElem?, List.getElem?_toArray, List.getElem?_cons_zero, List.getElem?_cons_succ, Option.getD_some]; rfl) (by kernel_rfl) (by kernel_rfl) ?_
                repeat (first | go_big_quiet_step (fail))
                refine wpQuiet_nil ?_
                have cc7 := row_cell (v := .slice A3 n c3) HG7.out 2 rfl
                have f7 := frozen_of_row q7 w7.heap.size 2 _ _ HG7.out
                refine Tin.reg_one 8 _ rfl (by kernel_rfl) ?_
                try simp only [List.getElem_toArray, List.getElem_cons_succ, List.getElem_cons_zero]
                go_wp2_with fail
                have hk7 := grown_setCells w7.heap.size [.slice A7 n7 c7] 2 q7 q7 (World.grownBy.refl q7 _)
                refine ⟨0, ⟨rfl, rfl, rfl, by simp [World.setCell], fun i hi => absurd hi (Nat.not_lt_zero _)⟩, Nat.le_refl _, ?_⟩
                refine Tin.reg_done (by kernel_rfl) ?_
                go_wp2_with fail
                exact ⟨⟨x + 1, A7, n7, c7, by omega, rfl, row_set HG7.out 2 _, by rw [lin, ← List.append_assoc, HVV.out]; exact HO7.out.kept hk7 (ne_own (fun q hq => by have := (World.ownsRow.lt HO7.out q hq).1; omega)), SW7.out.setCell (Nat.le_refl _) _, by simp only [World.setCell]; simp; omega⟩, by simp only [intOf]; omega⟩
              · try simp only [List.getElem_toArray, List.getElem_cons_succ, List.getElem_cons_zero]
                go_wp2_with fail
                refine ⟨0, (ba (brefl p0) _).mono (Nat.zero_le _), Nat.le_refl _, ?_⟩
                have HSL := Lib.hid (show Sl .i64 (p0.alloc (.cells #[.int .i64 VV] 3)) (some ⟨p0.heap.size, 0, none⟩) [VV] from Sl.new_ p0 _ _ _ rfl)
                have hv := ba (brefl p0) (.cells #[.int .i64 VV] 3)
                replace HG := Lib.hid ((hv.block _ (row_lt HG.out)).trans HG.out)
                replace HO := Lib.hid (HO.out.keep hv)
                replace SW := Lib.hid (SW.out.trans (hv.mono SW.out.size))
                have hgs1 : w7.heap.size + 1 ≤ (p0.alloc (.cells #[.int .i64 VV] 3)).heap.size := Nat.le_trans hgs2 hv.size
                clear hv
                generalize p0.alloc (.cells #[.int .i64 VV] 3) = z7 at *
                have k2 : z7.cell? ⟨w7.heap.size, 2, none⟩ = some (.slice A3 n c3) := row_cell HG.out 2 rfl
                refine Tin.reg_one 1 _ rfl (by kernel_rfl) ?_
                try simp only [List.getElem_toArray, List.getElem_cons_succ, List.getElem_cons_zero]
                go_wp2_with fail
                refine ⟨0, Below.refl _ _, Nat.le_refl _, ?_⟩
                clear k2
                refine Tin.reg_one 6 _ rfl (by kernel_rfl) ?_
                try simp only [List.getElem_toArray, List.getElem_cons_succ, List.getElem_cons_zero]
                refine Tin.wpl_app btI _ rfl (.tmp 53) (.tmp 57) rfl (w7.heap.size + 1) (.slice A3 n c3) (grid (pcV l wd i) wd y ++ lin (pcV l wd i) y x) rfl HO.out (some ⟨p0.heap.size, 0, none⟩) 1 1 [VV] rfl HSL.out rfl (by simp only [List.length_singleton]; omega) (by simp only [List.length_singleton]; omega) hgs1 ?_
                intro x7 q7 hown7 hg7 how7
                obtain ⟨A7, c7, rfl⟩ := own_form hown7
                obtain ⟨n7, hn7⟩ : ∃ n7, ((grid (pcV l wd i) wd y ++ lin (pcV l wd i) y x) ++ [VV]).length = n7 := ⟨_, rfl⟩
                rw [hn7] at hown7 how7 ⊢
                have HN7 := Lib.hid hn7
                clear hn7
                simp only [Act.put, List.setIfInBounds_toArray, List.set_cons_succ, List.set_cons_zero]
                go_wp2_with fail
                refine ⟨0, ⟨hg7.os, hg7.tape, hg7.output, hg7.size, fun i hi => absurd hi (Nat.not_lt_zero _)⟩, Nat.le_refl _, ?_⟩
                have HLO := Lib.hid (World.ownsRow.lt HO.out)
                have HG7 := Lib.hid ((hg7.block _ (row_lt HG.out) (fun e => by have := (HLO.out _ e.symm).1; omega)).trans HG.out)
                have SW7 := Lib.hid (SW.out.grown hg7 SW.out.size (fun q hq => by have := (HLO.out q hq).1; omega))
                have HO7 := Lib.hid hown7
                have hz7 : w7.heap.size + 1 ≤ q7.heap.size := Nat.le_trans hgs1 hg7.size
                clear hg7 how7 hown7 HG SW HO
                refine Tin.reg_quiets [7] _ 1 rfl (by simp only [Tin.pick, List.map_cons, List.map_nil, Array.getD_eq_getD_getElem?, List.getElem?_toArray, List.getElem?_cons_zero, List.getElem?_cons_succ, Option.getD_some]; rfl) (by kernel_rfl) (by kernel_rfl) ?_
                repeat (first | go_big_quiet_step (fail))
                refine wpQuiet_nil ?_
                have cc7 := row_cell (v := .slice A3 n c3) HG7.out 2 rfl
                have f7 := frozen_of_row q7 w7.heap.size 2 _ _ HG7.out
                refine Tin.reg_one 8 _ rfl (by kernel_rfl) ?_
                try simp only [List.getElem_toArray, List.getElem_cons_succ, List.getElem_cons_zero]
                go_wp2_with fail
                have hk7 := grown_setCells w7.heap.size [.slice A7 n7 c7] 2 q7 q7 (World.grownBy.refl q7 _)
                refine ⟨0, ⟨rfl, rfl, rfl, by simp [World.setCell], fun i hi => absurd hi (Nat.not_lt_zero _)⟩, Nat.le_refl _, ?_⟩
                refine Tin.reg_done (by kernel_rfl) ?_
                go_wp2_with fail
                exact ⟨⟨x + 1, A7, n7, c7, by omega, rfl, row_set HG7.out 2 _, by rw [lin, ← List.append_assoc, HVV.out]; exact HO7.out.kept hk7 (ne_own (fun q hq => by have := (World.ownsRow.lt HO7.out q hq).1; omega)), SW7.out.setCell (Nat.le_refl _) _, by simp only [World.setCell]; simp; omega⟩, by simp only [intOf]; omega⟩
        · try simp only [List.getElem_toArray, List.getElem_cons_succ, List.getElem_cons_zero]
          go_wp2_with fail
          have SN := Lib.hid (brefl v0)
          have SN_HG := HG
          have SN_HO := HO
          have SN_le_SW := SW.out.size
          have SN_le_SV := SV.out.size
          have hv := ba (brefl v0) (.cells #[.int .i64 0, .int .i64 0, .int .i64 0] 78)
          have hr10 := heap_alloc_new v0 (.cells #[.int .i64 0, .int .i64 0, .int .i64 0] 78)
          refine ⟨(w.heap.size + 1), hv.mono SZ, Nat.le_refl _, ?_⟩
          replace HG := Lib.hid ((hv.block _ (row_lt HG.out)).trans HG.out)
          replace HO := Lib.hid (HO.out.keep hv)
          replace SW := Lib.hid (SW.out.trans (hv.mono SW.out.size))
          replace SV := Lib.hid (SV.out.trans (hv.mono SV.out.size))
          replace SN := Lib.hid (SN.out.trans (hv.mono SN.out.size))
          replace SZ := Nat.le_trans SZ hv.size
          have R10 := Lib.hid hr10
          clear hr10 hv
          generalize (v0.alloc (.cells #[.int .i64 0, .int .i64 0, .int .i64 0] 78)) = z1 at *
          refine Tin.reg_one 3 _ rfl (by kernel_rfl) ?_
          try simp only [List.getElem_toArray, List.getElem_cons_succ, List.getElem_cons_zero]
          go_wp2_with fail
          refine (byte_any (wd : Int) (ht : Int) (x : Int) (y : Int) 0 A l c _ (HS.out.keep (HB.out.trans (SW.out.mono HB.out.size))) (by omega) (by omega) HN3.out (by omega) (by omega) (by omega) HBY.out).mono ?_
          rintro e z2 ⟨rfl, hv⟩
          generalize nth l (posR (wd : Int) (x : Int) (y : Int) + 0) = b0 at *
          go_wp2_with fail
          refine ⟨(w.heap.size + 1), hv.mono SZ, Nat.le_refl _, ?_⟩
          replace HG := Lib.hid ((hv.block _ (row_lt HG.out)).trans HG.out)
          replace HO := Lib.hid (HO.out.keep hv)
          replace R10 := Lib.hid ((hv.block _ (row_lt R10.out)).trans R10.out)
          replace SW := Lib.hid (SW.out.trans (hv.mono SW.out.size))
          replace SV := Lib.hid (SV.out.trans (hv.mono SV.out.size))
          replace SN := Lib.hid (SN.out.trans (hv.mono SN.out.size))
          replace SZ := Nat.le_trans SZ hv.size
          clear hv
          refine Tin.reg_one 7 _ rfl (by kernel_rfl) ?_
          try simp only [List.getElem_toArray, List.getElem_cons_succ, List.getElem_cons_zero]
          go_wp2_with fail
          refine (byte_any (wd : Int) (ht : Int) (x : Int) (y : Int) 1 A l c _ (HS.out.keep (HB.out.trans (SW.out.mono HB.out.size))) (by omega) (by omega) HN3.out (by omega) (by omega) (by omega) HBY.out).mono ?_
          rintro e z3 ⟨rfl, hv⟩
          generalize nth l (posR (wd : Int) (x : Int) (y : Int) + 1) = b1 at *
          go_wp2_with fail
          refine ⟨(w.heap.size + 1), hv.mono SZ, Nat.le_refl _, ?_⟩
          replace HG := Lib.hid ((hv.block _ (row_lt HG.out)).trans HG.out)
          replace HO := Lib.hid (HO.out.keep hv)
          replace R10 := Lib.hid ((hv.block _ (row_lt R10.out)).trans R10.out)
          replace SW := Lib.hid (SW.out.trans (hv.mono SW.out.size))
          replace SV := Lib.hid (SV.out.trans (hv.mono SV.out.size))
          replace SN := Lib.hid (SN.out.trans (hv.mono SN.out.size))
          replace SZ := Nat.le_trans SZ hv.size
          clear hv
          refine Tin.reg_one 11 _ rfl (by kernel_rfl) ?_
          try simp only [List.getElem_toArray, List.getElem_cons_succ, List.getElem_cons_zero]
          go_wp2_with fail
          refine (byte_any (wd : Int) (ht : Int) (x : Int) (y : Int) 2 A l c _ (HS.out.keep (HB.out.trans (SW.out.mono HB.out.size))) (by omega) (by omega) HN3.out (by omega) (by omega) (by omega) HBY.out).mono ?_
          rintro e z4 ⟨rfl, hv⟩
          generalize nth l (posR (wd : Int) (x : Int) (y : Int) + 2) = b2 at *
          go_wp2_with fail
          refine ⟨(w.heap.size + 1), hv.mono SZ, Nat.le_refl _, ?_⟩
          replace HG := Lib.hid ((hv.block _ (row_lt HG.out)).trans HG.out)
          replace HO := Lib.hid (HO.out.keep hv)
          replace R10 := Lib.hid ((hv.block _ (row_lt R10.out)).trans R10.out)
          replace SW := Lib.hid (SW.out.trans (hv.mono SW.out.size))
          replace SV := Lib.hid (SV.out.trans (hv.mono SV.out.size))
          replace SN := Lib.hid (SN.out.trans (hv.mono SN.out.size))
          replace SZ := Nat.le_trans SZ hv.size
          clear hv
          refine Tin.reg_one 12 _ rfl (by kernel_rfl) ?_
          try simp only [List.getElem_toArray, List.getElem_cons_succ, List.getElem_cons_zero]
          go_wp2_with fail
          refine (rluma_any (b0) (b1) (b2) _).mono ?_
          rintro e z5 ⟨rfl, hv⟩
          go_wp2_with fail
          refine ⟨(w.heap.size + 1), hv.mono SZ, Nat.le_refl _, ?_⟩
          replace HG := Lib.hid ((hv.block _ (row_lt HG.out)).trans HG.out)
          replace HO := Lib.hid (HO.out.keep hv)
          replace R10 := Lib.hid ((hv.block _ (row_lt R10.out)).trans R10.out)
          replace SW := Lib.hid (SW.out.trans (hv.mono SW.out.size))
          replace SV := Lib.hid (SV.out.trans (hv.mono SV.out.size))
          replace SN := Lib.hid (SN.out.trans (hv.mono SN.out.size))
          replace SZ := Nat.le_trans SZ hv.size
          clear hv
          refine Tin.reg_one 14 _ rfl (by kernel_rfl) ?_
          try simp only [List.getElem_toArray, List.getElem_cons_succ, List.getElem_cons_zero]
          go_wp2_with ((with_reducible refine wpl_store_row rt3 ?_ (.tmp 12) (.tmp 51) ?_ (v0.heap.size) ?_ (#[.int .i64 (lumY (b0) (b1) (b2)), .int .i64 (lumB (b0) (b1) (b2)), .int .i64 (lumR (b0) (b1) (b2))]) ?_ (in_one _ _ _) 78 ?_ (#[.int .i64 0, .int .i64 0, .int .i64 0]) ?_ R10.out ?_); rfl; rfl; rfl; rfl; rfl; rfl; intro z6 hr10 hg10 hs10)
          have hb10 : Below (v0.heap.size) z5 z6 := (Below.refl _ _).grown hg10 SN.out.size (fun k hk => by cases hk; exact Nat.le_refl _)
          refine ⟨(w.heap.size + 1), hb10.mono (by have := SV.out.size; have := SN_le_SV; have := SN_le_SW; omega), Nat.le_refl _, ?_⟩
          clear R10
          replace SN := Lib.hid (SN.out.trans hb10)
          replace HG := Lib.hid ((SN.out.block _ (row_lt SN_HG.out)).trans SN_HG.out)
          replace HO := Lib.hid (SN_HO.out.keep SN.out)
          replace SW := Lib.hid (SW.out.trans (hb10.mono SN_le_SW))
          replace SV := Lib.hid (SV.out.trans (hb10.mono SN_le_SV))
          replace SZ := Nat.le_trans SZ hg10.size
          have R10 := Lib.hid hr10
          clear hr10 hg10 hs10 hb10
          refine Tin.reg_done (by kernel_rfl) ?_
          have k12 := row_cell R10.out i (lum_row _ _ _ hi3)
          rw [← HPX.out] at k12
          generalize hVV : pcV l wd i x y = VV at *
          have HVV := Lib.hid hVV
          have K12 := Lib.hid k12
          clear hVV k12 HPX
          have hgs2 : w7.heap.size + 1 ≤ z6.heap.size := Nat.le_trans hgs0 SV.out.size
          clear SV
          go_wp2_with fail
          refine Tin.reg_begin 0 9 (by rfl) (by kernel_rfl) ?_
          replace SW := Lib.hid (ud' SW.out)
          replace HO := Lib.hid HO.out.drew
          replace HG := Lib.hid (show z6.drew.heap[w7.heap.size]? = _ from HG.out)
          replace K12 := Lib.hid (show z6.drew.cell? ⟨v0.heap.size, i, none⟩ = _ from K12.out)
          replace hgs2 : w7.heap.size + 1 ≤ z6.drew.heap.size := hgs2
          have hlt12 : v0.heap.size < z6.drew.heap.size := row_lt R10.out
          generalize z6.drew = p0 at *
          refine Tin.reg_quiets [0, 2, 3] _ 6 rfl (by simp only [Tin.pick, List.map_cons, List.map_nil, Array.getD_eq_getD_getElem?, List.getElem?_toArray, List.getElem?_cons_zero, List.getElem?_cons_succ, Option.getD_some]; rfl) (by kernel_rfl) (by kernel_rfl) ?_
          repeat (first | go_big_quiet_step (fail))
          refine wpQuiet_nil ?_
          refine Tin.reg_two 1 4 _ _ rfl rfl (by kernel_rfl) ?_ ?_
          · have k2 : p0.cell? ⟨w7.heap.size, 2, none⟩ = some (.slice A3 n c3) := row_cell HG.out 2 rfl
            try simp only [List.getElem_toArray, List.getElem_cons_succ, List.getElem_cons_zero]
            go_wp2_with fail
            refine ⟨0, Below.refl _ _, Nat.le_refl _, ?_⟩
            clear k2
            have k4 := K12.out
            refine Tin.reg_one 4 _ rfl (by kernel_rfl) ?_
            try simp only [List.getElem_toArray, List.getElem_cons_succ, List.getElem_cons_zero]
            go_wp2_with fail
            refine ⟨0, Below.refl _ _, Nat.le_refl _, ?_⟩
            clear k4
            refine Tin.reg_one 5 _ rfl (by kernel_rfl) ?_
            try simp only [List.getElem_toArray, List.getElem_cons_succ, List.getElem_cons_zero]
            go_wp2_with fail
            refine ⟨0, (ba (brefl p0) _).mono (Nat.zero_le _), Nat.le_refl _, ?_⟩
            have HSL := Lib.hid (show Sl .i64 (p0.alloc (.cells #[.int .i64 VV] 3)) (some ⟨p0.heap.size, 0, none⟩) [VV] from Sl.new_ p0 _ _ _ rfl)
            have hv := ba (brefl p0) (.cells #[.int .i64 VV] 3)
            replace HG := Lib.hid ((hv.block _ (row_lt HG.out)).trans HG.out)
            replace HO := Lib.hid (HO.out.keep hv)
            replace SW := Lib.hid (SW.out.trans (hv.mono SW.out.size))
            have hgs1 : w7.heap.size + 1 ≤ (p0.alloc (.cells #[.int .i64 VV] 3)).heap.size := Nat.le_trans hgs2 hv.size
            clear hv
            generalize p0.alloc (.cells #[.int .i64 VV] 3) = z7 at *
            refine Tin.reg_one 6 _ rfl (by kernel_rfl) ?_
            try simp only [List.getElem_toArray, List.getElem_cons_succ, List.getElem_cons_zero]
            refine Tin.wpl_app btI _ rfl (.tmp 53) (.tmp 57) rfl (w7.heap.size + 1) (.slice A3 n c3) (grid (pcV l wd i) wd y ++ lin (pcV l wd i) y x) rfl HO.out (some ⟨p0.heap.size, 0, none⟩) 1 1 [VV] rfl HSL.out rfl (by simp only [List.length_singleton]; omega) (by simp only [List.length_singleton]; omega) hgs1 ?_
            intro x7 q7 hown7 hg7 how7
            obtain ⟨A7, c7, rfl⟩ := own_form hown7
            obtain ⟨n7, hn7⟩ : ∃ n7, ((grid (pcV l wd i) wd y ++ lin (pcV l wd i) y x) ++ [VV]).length = n7 := ⟨_, rfl⟩
            rw [hn7] at hown7 how7 ⊢
            have HN7 := Lib.hid hn7
            clear hn7
            simp only [Act.put, List.setIfInBounds_toArray, List.set_cons_succ, List.set_cons_zero]
            go_wp2_with fail
            refine ⟨0, ⟨hg7.os, hg7.tape, hg7.output, hg7.size, fun i hi => absurd hi (Nat.not_lt_zero _)⟩, Nat.le_refl _, ?_⟩
            have HLO := Lib.hid (World.ownsRow.lt HO.out)
            have HG7 := Lib.hid ((hg7.block _ (row_lt HG.out) (fun e => by have := (HLO.out _ e.symm).1; omega)).trans HG.out)
            have SW7 := Lib.hid (SW.out.grown hg7 SW.out.size (fun q hq => by have := (HLO.out q hq).1; omega))
            have HO7 := Lib.hid hown7
            have hz7 : w7.heap.size + 1 ≤ q7.heap.size := Nat.le_trans hgs1 hg7.size
            clear hg7 how7 hown7 HG SW HO
            refine Tin.reg_quiets [7] _ 1 rfl (by simp only [Tin.pick, List.map_cons, List.map_nil, Array.getD_eq_getD_getElem?, List.getElem?_toArray, List.getElem?_cons_zero, List.getElem?_cons_succ, Option.getD_some]; rfl) (by kernel_rfl) (by kernel_rfl) ?_
            repeat (first | go_big_quiet_step (fail))
            refine wpQuiet_nil ?_
            have cc7 := row_cell (v := .slice A3 n c3) HG7.out 2 rfl
            have f7 := frozen_of_row q7 w7.heap.size 2 _ _ HG7.out
            refine Tin.reg_one 8 _ rfl (by kernel_rfl) ?_
            try simp only [List.getElem_toArray, List.getElem_cons_succ, List.getElem_cons_zero]
            go_wp2_with fail
            have hk7 := grown_setCells w7.heap.size [.slice A7 n7 c7] 2 q7 q7 (World.grownBy.refl q7 _)
            refine ⟨0, ⟨rfl, rfl, rfl, by simp [World.setCell], fun i hi => absurd hi (Nat.not_lt_zero _)⟩, Nat.le_refl _, ?_⟩
            refine Tin.reg_done (by kernel_rfl) ?_
            go_wp2_with fail
            exact ⟨⟨x + 1, A7, n7, c7, by omega, rfl, row_set HG7.out 2 _, by rw [lin, ← List.append_assoc, HVV.out]; exact HO7.out.kept hk7 (ne_own (fun q hq => by have := (World.ownsRow.lt HO7.out q hq).1; omega)), SW7.out.setCell (Nat.le_refl _) _, by simp only [World.setCell]; simp; omega⟩, by simp only [intOf]; omega⟩
          · have k4 := K12.out
            try simp only [List.getElem_toArray, List.getElem_cons_succ, List.getElem_cons_zero]
            go_wp2_with fail
            refine ⟨0, Below.refl _ _, Nat.le_refl _, ?_⟩
            clear k4
            refine Tin.reg_two 1 5 _ _ rfl rfl (by kernel_rfl) ?_ ?_
            · have k2 : p0.cell? ⟨w7.heap.size, 2, none⟩ = some (.slice A3 n c3) := row_cell HG.out 2 rfl
              try simp only [List.getElem_toArray, List.getElem_cons_succ, List.getElem_cons_zero]
              go_wp2_with fail
              refine ⟨0, Below.refl _ _, Nat.le_refl _, ?_⟩
              clear k2
              refine Tin.reg_one 5 _ rfl (by kernel_rfl) ?_
              try simp only [List.getElem_toArray, List.getElem_cons_succ, List.getElem_cons_zero]
              go_wp2_with fail
              refine ⟨0, (ba (brefl p0) _).mono (Nat.zero_le _), Nat.le_refl _, ?_⟩
              have HSL := Lib.hid (show Sl .i64 (p0.alloc (.cells #[.int .i64 VV] 3)) (some ⟨p0.heap.size, 0, none⟩) [VV] from Sl.new_ p0 _ _ _ rfl)
              have hv := ba (brefl p0) (.cells #[.int .i64 VV] 3)
              replace HG := Lib.hid ((hv.block _ (row_lt HG.out)).trans HG.out)
              replace HO := Lib.hid (HO.out.keep hv)
              replace SW := Lib.hid (SW.out.trans (hv.mono SW.out.size))
              have hgs1 : w7.heap.size + 1 ≤ (p0.alloc (.cells #[.int .i64 VV] 3)).heap.size := Nat.le_trans hgs2 hv.size
              clear hv
              generalize p0.alloc (.cells #[.int .i64 VV] 3) = z7 at *
              refine Tin.reg_one 6 _ rfl (by kernel_rfl) ?_
              try simp only [List.getElem_toArray, List.getElem_cons_succ, List.getElem_cons_zero]
              refine Tin.wpl_app btI _ rfl (.tmp 53) (.tmp 57) rfl (w7.heap.size + 1) (.slice A3 n c3) (grid (pcV l wd i) wd y ++ lin (pcV l wd i) y x) rfl HO.out (some ⟨p0.heap.size, 0, none⟩) 1 1 [VV] rfl HSL.out rfl (by simp only [List.length_singleton]; omega) (by simp only [List.length_singleton]; omega) hgs1 ?_
              intro x7 q7 hown7 hg7 how7
              obtain ⟨A7, c7, rfl⟩ := own_form hown7
              obtain ⟨n7, hn7⟩ : ∃ n7, ((grid (pcV l wd i) wd y ++ lin (pcV l wd i) y x) ++ [VV]).length = n7 := ⟨_, rfl⟩
              rw [hn7] at hown7 how7 ⊢
              have HN7 := Lib.hid hn7
              clear hn7
              simp only [Act.put, List.setIfInBounds_toArray, List.set_cons_succ, List.set_cons_zero]
              go_wp2_with fail
              refine ⟨0, ⟨hg7.os, hg7.tape, hg7.output, hg7.size, fun i hi => absurd hi (Nat.not_lt_zero _)⟩, Nat.le_refl _, ?_⟩
              have HLO := Lib.hid (World.ownsRow.lt HO.out)
              have HG7 := Lib.hid ((hg7.block _ (row_lt HG.out) (fun e => by have := (HLO.out _ e.symm).1; omega)).trans HG.out)
              have SW7 := Lib.hid (SW.out.grown hg7 SW.out.size (fun q hq => by have := (HLO.out q hq).1; omega))
              have HO7 := Lib.hid hown7
              have hz7 : w7.heap.size + 1 ≤ q7.heap.size := Nat.le_trans hgs1 hg7.size
              clear hg7 how7 hown7 HG SW HO
              refine Tin.reg_quiets [7] _ 1 rfl (by simp only [Tin.pick, List.map_cons, List.map_nil, Array.getD_eq_getD_getElem?, List.getElem?_toArray, List.getElem?_cons_zero, List.getElem?_cons_succ, Option.getD_some]; rfl) (by kernel_rfl) (by kernel_rfl) ?_
              repeat (first | go_big_quiet_step (fail))
              refine wpQuiet_nil ?_
              have cc7 := row_cell (v := .slice A3 n c3) HG7.out 2 rfl
              have f7 := frozen_of_row q7 w7.heap.size 2 _ _ HG7.out
              refine Tin.reg_one 8 _ rfl (by kernel_rfl) ?_
              try simp only [List.getElem_toArray, List.getElem_cons_succ, List.getElem_cons_zero]
              go_wp2_with fail
              have hk7 := grown_setCells w7.heap.size [.slice A7 n7 c7] 2 q7 q7 (World.grownBy.refl q7 _)
              refine ⟨0, ⟨rfl, rfl, rfl, by simp [World.setCell], fun i hi => absurd hi (Nat.not_lt_zero _)⟩, Nat.le_refl _, ?_⟩
              refine Tin.reg_done (by kernel_rfl) ?_
              go_wp2_with fail
              exact ⟨⟨x + 1, A7, n7, c7, by omega, rfl, row_set HG7.out 2 _, by rw [lin, ← List.append_assoc, HVV.out]; exact HO7.out.kept hk7 (ne_own (fun q hq => by have := (World.ownsRow.lt HO7.out q hq).1; omega)), SW7.out.setCell (Nat.le_refl _) _, by simp only [World.setCell]; simp; omega⟩, by simp only [intOf]; omega⟩
            · try simp only [List.getElem_toArray, List.getElem_cons_succ, List.getElem_cons_zero]
              go_wp2_with fail
              refine ⟨0, (ba (brefl p0) _).mono (Nat.zero_le _), Nat.le_refl _, ?_⟩
              have HSL := Lib.hid (show Sl .i64 (p0.alloc (.cells #[.int .i64 VV] 3)) (some ⟨p0.heap.size, 0, none⟩) [VV] from Sl.new_ p0 _ _ _ rfl)
              have hv := ba (brefl p0) (.cells #[.int .i64 VV] 3)
              replace HG := Lib.hid ((hv.block _ (row_lt HG.out)).trans HG.out)
              replace HO := Lib.hid (HO.out.keep hv)
              replace SW := Lib.hid (SW.out.trans (hv.mono SW.out.size))
              have hgs1 : w7.heap.size + 1 ≤ (p0.alloc (.cells #[.int .i64 VV] 3)).heap.size := Nat.le_trans hgs2 hv.size
              clear hv
              generalize p0.alloc (.cells #[.int .i64 VV] 3) = z7 at *
              have k2 : z7.cell? ⟨w7.heap.size, 2, none⟩ = some (.slice A3 n c3) := row_cell HG.out 2 rfl
              refine Tin.reg_one 1 _ rfl (by kernel_rfl) ?_
              try simp only [List.getElem_toArray, List.getElem_cons_succ, List.getElem_cons_zero]
              go_wp2_with fail
              refine ⟨0, Below.refl _ _, Nat.le_refl _, ?_⟩
              clear k2
              refine Tin.reg_one 6 _ rfl (by kernel_rfl) ?_
              try simp only [List.getElem_toArray, List.getElem_cons_succ, List.getElem_cons_zero]
              refine Tin.wpl_app btI _ rfl (.tmp 53) (.tmp 57) rfl (w7.heap.size + 1) (.slice A3 n c3) (grid (pcV l wd i) wd y ++ lin (pcV l wd i) y x) rfl HO.out (some ⟨p0.heap.size, 0, none⟩) 1 1 [VV] rfl HSL.out rfl (by simp only [List.length_singleton]; omega) (by simp only [List.length_singleton]; omega) hgs1 ?_
              intro x7 q7 hown7 hg7 how7
              obtain ⟨A7, c7, rfl⟩ := own_form hown7
              obtain ⟨n7, hn7⟩ : ∃ n7, ((grid (pcV l wd i) wd y ++ lin (pcV l wd i) y x) ++ [VV]).length = n7 := ⟨_, rfl⟩
              rw [hn7] at hown7 how7 ⊢
              have HN7 := Lib.hid hn7
              clear hn7
              simp only [Act.put, List.setIfInBounds_toArray, List.set_cons_succ, List.set_cons_zero]
              go_wp2_with fail
              refine ⟨0, ⟨hg7.os, hg7.tape, hg7.output, hg7.size, fun i hi => absurd hi (Nat.not_lt_zero _)⟩, Nat.le_refl _, ?_⟩
              have HLO := Lib.hid (World.ownsRow.lt HO.out)
              have HG7 := Lib.hid ((hg7.block _ (row_lt HG.out) (fun e => by have := (HLO.out _ e.symm).1; omega)).trans HG.out)
              have SW7 := Lib.hid (SW.out.grown hg7 SW.out.size (fun q hq => by have := (HLO.out q hq).1; omega))
              have HO7 := Lib.hid hown7
              have hz7 : w7.heap.size + 1 ≤ q7.heap.size := Nat.le_trans hgs1 hg7.size
              clear hg7 how7 hown7 HG SW HO
              refine Tin.reg_quiets [7] _ 1 rfl (by simp only [Tin.pick, List.map_cons, List.map_nil, Array.getD_eq_getD_getElem?, List.getElem?_toArray, List.getElem?_cons_zero, List.getElem?_cons_succ, Option.getD_some]; rfl) (by kernel_rfl) (by kernel_rfl) ?_
              repeat (first | go_big_quiet_step (fail))
              refine wpQuiet_nil ?_
              have cc7 := row_cell (v := .slice A3 n c3) HG7.out 2 rfl
              have f7 := frozen_of_row q7 w7.heap.size 2 _ _ HG7.out
              refine Tin.reg_one 8 _ rfl (by kernel_rfl) ?_
              try simp only [List.getElem_toArray, List.getElem_cons_succ, List.getElem_cons_zero]
              go_wp2_with fail
              have hk7 := grown_setCells w7.heap.size [.slice A7 n7 c7] 2 q7 q7 (World.grownBy.refl q7 _)
              refine ⟨0, ⟨rfl, rfl, rfl, by simp [World.setCell], fun i hi => absurd hi (Nat.not_lt_zero _)⟩, Nat.le_refl _, ?_⟩
              refine Tin.reg_done (by kernel_rfl) ?_
              go_wp2_with fail
              exact ⟨⟨x + 1, A7, n7, c7, by omega, rfl, row_set HG7.out 2 _, by rw [lin, ← List.append_assoc, HVV.out]; exact HO7.out.kept hk7 (ne_own (fun q hq => by have := (World.ownsRow.lt HO7.out q hq).1; omega)), SW7.out.setCell (Nat.le_refl _) _, by simp only [World.setCell]; simp; omega⟩, by simp only [intOf]; omega⟩
end Go.Proofs.Ytajobboldjgidaa
