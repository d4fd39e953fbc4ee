/- The reference's Paint. -/
import Derived.Test.YtajobboldjgidaaSmO
namespace Go.Proofs.Ytajobboldjgidaa
open Go.RowKit
open Go.Tin
set_option linter.unusedVariables false
set_option linter.unusedSimpArgs false


theorem rt3 : RT Try.prog 78 3 := RT.of Try.underlying78 rfl (by kernel_rfl)
theorem in_one (a b c : Int) : (#[.int .i64 a, .int .i64 b, .int .i64 c] : Array Value).all (·.oneCell') = true := by simp [Value.oneCell']
set_option maxRecDepth 100000 in
set_option maxHeartbeats 8000000 in
theorem rpaintP_any (k : Int) (wd ht : Nat) (v : List Int) (q r : Pn) (A : Option Addr) (c : Nat) (w : World) (hs : PlS w A [⟨(wd : Int), (ht : Int), v⟩, q, r]) (hyes : okPt k [⟨(wd : Int), (ht : Int), v⟩, q, r] = true) :
    Calls Try.prog 23 #[.slice A 3 c, .int .i64 k] w fun e w' => ∃ A' c', e = .returned (rsA (wd : Int) (ht : Int) A' (3 * (wd * ht)) c') ∧
      Own .u8 5 w' w.heap.size (.slice A' (3 * (wd * ht)) c') (gridT (pixV (wd : Int) (ht : Int) v q.W q.H q.v r.v (fH k) (fV k)) wd ht) ∧ Below w.heap.size w w' := by
  unfold okPt at hyes
  simp only [Bool.and_eq_true, List.drop_succ_cons, List.drop_zero, List.all_cons, List.all_nil, decide_eq_true_eq, and_true, List.getD_cons_zero, Bool.not_eq_true'] at hyes
  obtain ⟨hk, -, hbad, ⟨hqW, hqH⟩, hrW, hrH⟩ := hyes
  have HBD := Lib.hid (fHV_bd hk)
  have hmm : mayP (wd : Int) (ht : Int) v = true ∧ mayP q.W q.H q.v = true ∧ mayP r.W r.H r.v = true := by
    have h := hbad
    simp only [List.any_cons, List.any_nil, Bool.or_false, Bool.or_eq_false_iff, badP, Bool.not_eq_false'] at h
    exact h
  clear hbad hk
  obtain ⟨b, off, A0, c0, A1, c1, A2, c2, rfl, hlt, hr0, hr1, hr2, ⟨hv0, hv1, hv2⟩, hl0, hl1, hl2⟩ := PlS.three hs
  clear hs
  obtain ⟨W1, H1, v1⟩ := q
  obtain ⟨W2, H2, v2⟩ := r
  dsimp only at *
  obtain ⟨W0a, W0b⟩ := mayP_W hmm.1
  obtain ⟨H0a, H0b⟩ := mayP_H hmm.1
  have e1 : W1 = W2 := by rw [hqW, hrW]
  have e2 : H1 = H2 := by rw [hqH, hrH]
  subst e1
  subst e2
  have HMM := Lib.hid hmm
  have HR0 := Lib.hid hr0
  have HR1 := Lib.hid hr1
  have HR2 := Lib.hid hr2
  have HV0 := Lib.hid hv0
  have HV1 := Lib.hid hv1
  have HV2 := Lib.hid hv2
  clear hmm hr0 hr1 hr2 hv0 hv1 hv2 hqW hqH hrW hrH
  obtain ⟨⟨x0, x1⟩, y0, y1⟩ := HBD.out
  obtain ⟨r0, hb, hz⟩ := alloc1 w (.cells (rsrow 0 0 none 0 0) 44)
  have R4 := Lib.hid r0
  have HB := Lib.hid hb
  have HZW := Nat.le_of_eq hz.symm
  clear r0 hb hz HBD
  generalize hfx : fH k = fx at *
  generalize hfy : fV k = fy at *
  have HFX := Lib.hid hfx
  have HFY := Lib.hid hfy
  clear hfx hfy
  go_enter Try.func23, Try.ntmps23
  go_wp2_with fail
  generalize (w.alloc (.cells (rsrow 0 0 none 0 0) 44)) = wr at *
  refine (rfactors_any k wr).mono ?_
  rintro e w' ⟨rfl, rfl⟩
  rw [HFX.out, HFY.out]
  go_wp2_with fail
  have LT_R4 : _ < wr.heap.size := row_lt R4.out
  have SZ : wr.heap.size ≤ wr.drew.heap.size := Nat.le_refl _
  have hb := ud' (brefl wr)
  replace R4 := Lib.hid ((hb.block _ (row_lt R4.out)).trans R4.out)
  replace HB := Lib.hid (HB.out.trans (hb.mono HB.out.size))
  clear hb
  refine Tin.reg_begin (wr.heap.size) 11 (by rfl) (by kernel_rfl) ?_
  have HBS : w.heap.size ≤ wr.heap.size := HB.out.size
  have kW : ∀ p : Bel (wr.heap.size) wr.drew, p.w'.cell? ⟨b, off, none⟩ = some (.int .i64 (wd : Int)) := fun p => rng_keep (HB.out.trans (p.h.mono HBS)) hlt HR0.out 0 _ rfl
  have kH : ∀ p : Bel (wr.heap.size) wr.drew, p.w'.cell? ⟨b, off + 1, none⟩ = some (.int .i64 (ht : Int)) := fun p => rng_keep (HB.out.trans (p.h.mono HBS)) hlt HR0.out 1 _ rfl
  refine Tin.reg_quiets [0, 1, 2, 3, 4, 5, 6, 7, 8] _ 2 rfl (by simp only [Tin.pick, List.map_cons, List.map_nil, Array.getD_eq_getD_getElem?, List.getElem?_toArray, List.getElem?_cons_zero, List.getElem?_cons_succ, Option.getD_some]; rfl) (by kernel_rfl) (by kernel_rfl) ?_
  repeat (first | go_big_quiet_step (fail))
  refine wpQuiet_nil ?_
  clear kW kH
  refine Tin.reg_one 9 _ rfl (by kernel_rfl) ?_
  try simp only [List.getElem_toArray, List.getElem_cons_succ, List.getElem_cons_zero]
  go_wp2_with fail
  refine ⟨wr.heap.size, (ba (brefl wr.drew) (.cells (rsrow 0 0 none 0 0) 44)).mono SZ, Nat.le_refl _, ?_⟩
  refine Tin.reg_one 10 _ rfl (by kernel_rfl) ?_
  try simp only [List.getElem_toArray, List.getElem_cons_succ, List.getElem_cons_zero]
  go_wp2_with fail
  have hv2 : Below wr.drew.heap.size wr.drew (wr.alloc (.cells (rsrow (wd : Int) (ht : Int) none 0 0) 44)).drew := ⟨rfl, rfl, rfl, by simp, fun i hi => heap_alloc_old wr _ hi⟩
  refine ⟨wr.heap.size, ⟨rfl, rfl, rfl, by simp, fun i hi => (heap_alloc_old wr _ hi).trans (heap_alloc_old wr _ hi).symm⟩, Nat.le_refl _, ?_⟩
  have R11 := Lib.hid (show (wr.alloc (.cells (rsrow (wd : Int) (ht : Int) none 0 0) 44)).drew.heap[wr.heap.size]? = some (.cells (rsrow (wd : Int) (ht : Int) none 0 0) 44 (0, 0)) from heap_alloc_new wr _)
  replace R4 := Lib.hid ((hv2.block _ (row_lt R4.out)).trans R4.out)
  replace HB := Lib.hid (HB.out.trans (hv2.mono HB.out.size))
  have HGS : wr.heap.size + 1 ≤ (wr.alloc (.cells (rsrow (wd : Int) (ht : Int) none 0 0) 44)).drew.heap.size := by simp
  clear hv2 SZ LT_R4 HBS
  generalize (wr.alloc (.cells (rsrow (wd : Int) (ht : Int) none 0 0) 44)).drew = u2 at *
  obtain ⟨w6, rfl⟩ : ∃ w6, w6 = wr := ⟨_, rfl⟩
  have HOW := Lib.hid (Own.nil_ .u8 5 u2 (w6.heap.size + 1))
  refine Tin.reg_done (by kernel_rfl) ?_
  go_wp2_with fail
  have h3 : ∀ x y, ((pixV (wd : Int) (ht : Int) v W1 H1 v1 v2 fx fy) x y).length = 3 := fun _ _ => rfl
  go_loopw [8] (fun s8 wr => ∃ (y : Nat) (A : Option Addr) (n c : Nat), y ≤ ht ∧ s8 = .int .i64 (y : Int) ∧ wr.heap[w6.heap.size]? = some (.cells (rsrow (wd : Int) (ht : Int) A n c) 44 (0, 0)) ∧ wr.heap[w.heap.size]? = some (.cells (rsrow 0 0 none 0 0) 44 (0, 0)) ∧ Own .u8 5 wr (w6.heap.size + 1) (.slice A n c) (gridT (pixV (wd : Int) (ht : Int) v W1 H1 v1 v2 fx fy) wd y) ∧ Below w.heap.size w wr ∧ w6.heap.size + 1 ≤ wr.heap.size) (fun s8 _ => ht - (intOf s8).toNat)
  case atStart => exact ⟨0, none, 0, 0, by omega, rfl, R11.out, R4.out, HOW.out, HB.out, HGS⟩
  case round =>
    clear R11 R4 HOW HB HGS
    obtain ⟨y, A3, n, c3, hy, rfl, hG, hZ, hO, hb, hgs⟩ := hrel
    have HG := Lib.hid hG
    have HZ := Lib.hid hZ
    have k1 := row_cell (v := .int .i64 (ht : Int)) HG.out 1 rfl
    clear hG hZ
    by_cases hyh : y < ht
    case neg =>
      obtain rfl : y = ht := by omega
      have hn3 := hO.sl'.1
      rw [gridT_len h3] at hn3
      subst hn3
      have HO := Lib.hid hO
      clear hO
      go_wp2_with (first | ((with_reducible refine wpl_load_row rtR ?_ (.tmp 7) ?_ w6.heap.size ?_ 44 (rsrow (wd : Int) (y : Int) A3 (3 * (wd * y)) c3) ?_ HG.out ?_); rfl; rfl; rfl; rfl; simp only [Act.put, List.setIfInBounds_toArray, List.set_cons_succ, List.set_cons_zero]) | ((with_reducible refine wpl_store_row rtR ?_ (.tmp 4) (.tmp 78) ?_ (w.heap.size) ?_ (rsrow (wd : Int) (y : Int) A3 (3 * (wd * y)) c3) ?_ (rs_one _ _ _ _ _) 44 ?_ (rsrow 0 0 none 0 0) ?_ HZ.out ?_); rfl; rfl; rfl; rfl; rfl; rfl; intro w5 hr5 hg5 hs5))
      have hk := HO.out.kept hg5 (ne_own (fun q hq => by have := (World.ownsRow.lt HO.out q hq).1; omega))
      exact bodyPost_ret (res_row rtR rfl _ _ w.heap.size 44 (rsrow (wd : Int) (y : Int) A3 (3 * (wd * y)) c3) rfl rfl hr5) rfl ⟨A3, c3, rfl, hk.mono (show w.heap.size ≤ w6.heap.size + 1 by omega), hb.grown hg5 hb.size (fun k hk => by cases hk; omega)⟩
    have hy1 : (y : Int) < (ht : Int) := by omega
    have HO := Lib.hid hO
    have HB := Lib.hid hb
    clear hO hb
    go_wp2_with fail
    clear k1
    go_loopw [9] (fun s9 wr => ∃ (x : Nat) (A : Option Addr) (n c : Nat), x ≤ wd ∧ s9 = .int .i64 (x : Int) ∧ wr.heap[w6.heap.size]? = some (.cells (rsrow (wd : Int) (ht : Int) A n c) 44 (0, 0)) ∧ wr.heap[w.heap.size]? = some (.cells (rsrow 0 0 none 0 0) 44 (0, 0)) ∧ Own .u8 5 wr (w6.heap.size + 1) (.slice A n c) (gridT (pixV (wd : Int) (ht : Int) v W1 H1 v1 v2 fx fy) wd y ++ linT (pixV (wd : Int) (ht : Int) v W1 H1 v1 v2 fx fy) y x) ∧ Below w.heap.size w wr ∧ w6.heap.size + 1 ≤ wr.heap.size) (fun s9 _ => wd - (intOf s9).toNat)
    case atStart => exact ⟨0, A3, n, c3, by omega, rfl, HG.out, HZ.out, by rw [linT, List.append_nil]; exact HO.out, HB.out, hgs⟩
    case round =>
      clear HG HZ HO HB hgs
      obtain ⟨x, A3, n, c3, hx, rfl, hG, hZ, hO, hb, hgs⟩ := hrel
      have HG := Lib.hid hG
      have HZ := Lib.hid hZ
      have HO := Lib.hid hO
      have HB := Lib.hid hb
      have k0 := row_cell (v := .int .i64 (wd : Int)) HG.out 0 rfl
      clear hG hZ hO hb
      by_cases hxw : x < wd
      case neg =>
        obtain rfl : x = wd := by omega
        go_wp2_with fail
        exact ⟨⟨y + 1, A3, n, c3, by omega, rfl, HG.out, HZ.out, HO.out, HB.out, hgs⟩, by simp only [intOf]; omega⟩
      have hx1 : (x : Int) < (wd : Int) := by omega
      have hln := gridT_le h3 (show wd ≤ 4096 by omega) (show y ≤ 4096 by omega) (show x ≤ 4096 by omega)
      have dx0 : 0 ≤ (x : Int) / fx := Int.ediv_nonneg (by omega) (by omega)
      have dx1 : (x : Int) / fx ≤ (x : Int) := Int.ediv_le_self _ (by omega)
      have dy0 : 0 ≤ (y : Int) / fy := Int.ediv_nonneg (by omega) (by omega)
      have dy1 : (y : Int) / fy ≤ (y : Int) := Int.ediv_le_self _ (by omega)
      have HPX := Lib.hid (show (pixV (wd : Int) (ht : Int) v W1 H1 v1 v2 fx fy) x y = [paiR (nearV (wd : Int) (ht : Int) v x y) (nearV W1 H1 v1 ((x : Int) / fx) ((y : Int) / fy)) (nearV W1 H1 v2 ((x : Int) / fx) ((y : Int) / fy)), paiG (nearV (wd : Int) (ht : Int) v x y) (nearV W1 H1 v1 ((x : Int) / fx) ((y : Int) / fy)) (nearV W1 H1 v2 ((x : Int) / fx) ((y : Int) / fy)), paiB (nearV (wd : Int) (ht : Int) v x y) (nearV W1 H1 v1 ((x : Int) / fx) ((y : Int) / fy)) (nearV W1 H1 v2 ((x : Int) / fx) ((y : Int) / fy))] from rfl)
      obtain ⟨⟨b0, b1⟩, ⟨b2, b3⟩, b4, b5⟩ := pai_bd (nearV (wd : Int) (ht : Int) v x y) (nearV W1 H1 v1 ((x : Int) / fx) ((y : Int) / fy)) (nearV W1 H1 v2 ((x : Int) / fx) ((y : Int) / fy))
      go_wp2_with fail
      clear k0
      refine Tin.reg_begin w.heap.size 29 (by rfl) (by kernel_rfl) ?_
      replace HB := Lib.hid (ud' HB.out)
      replace HO := Lib.hid HO.out.drew
      replace HG := Lib.hid (show wr.drew.heap[w6.heap.size]? = _ from HG.out)
      replace HZ := Lib.hid (show wr.drew.heap[w.heap.size]? = _ from HZ.out)
      have hgs0 : w6.heap.size + 1 ≤ wr.drew.heap.size := hgs
      generalize wr.drew = v0 at *
      have SZ : w.heap.size ≤ v0.heap.size := HB.out.size
      have HRG0 := Lib.hid (fun (Z : World) (h : Below w.heap.size v0 Z) => rng_keep (HB.out.trans h) hlt HR0.out)
      have HRG1 := Lib.hid (fun (Z : World) (h : Below w.heap.size v0 Z) => rng_keep (HB.out.trans h) hlt HR1.out)
      have HRG2 := Lib.hid (fun (Z : World) (h : Below w.heap.size v0 Z) => rng_keep (HB.out.trans h) hlt HR2.out)
      refine Tin.reg_quiets [0, 1, 2, 3, 4, 6, 7, 8, 9, 10, 11, 12, 13, 14, 16, 17, 18, 19, 20, 21, 22, 23, 24] _ 6 rfl (by simp only [Tin.pick, List.map_cons, List.map_nil, Array.getD_eq_getD_getElem?, List.getElem?_toArray, List.getElem?_cons_zero, List.getElem?_cons_succ, Option.getD_some]; rfl) (by kernel_rfl) (by kernel_rfl) ?_
      repeat (first | ((with_reducible refine wpq_loadv rtP ?_ (.tmp 38) ?_ b off ?_ [.int .i64 (wd : Int), .int .i64 (ht : Int), .slice A0 v.length c0] ?_ (fun Z h => by obtain ⟨p, rfl⟩ := h; exact HRG0.out _ p.h) ?_); rfl; rfl; rfl; rfl; simp only [Act.put, List.setIfInBounds_toArray, List.set_cons_succ, List.set_cons_zero]) | ((with_reducible refine wpq_loadv rtP ?_ (.tmp 44) ?_ b (off + 3) ?_ [.int .i64 W1, .int .i64 H1, .slice A1 v1.length c1] ?_ (fun Z h => by obtain ⟨p, rfl⟩ := h; exact HRG1.out _ p.h) ?_); rfl; rfl; rfl; rfl; simp only [Act.put, List.setIfInBounds_toArray, List.set_cons_succ, List.set_cons_zero]) | ((with_reducible refine wpq_loadv rtP ?_ (.tmp 54) ?_ b (off + 6) ?_ [.int .i64 W1, .int .i64 H1, .slice A2 v2.length c2] ?_ (fun Z h => by obtain ⟨p, rfl⟩ := h; exact HRG2.out _ p.h) ?_); rfl; rfl; rfl; rfl; simp only [Act.put, List.setIfInBounds_toArray, List.set_cons_succ, List.set_cons_zero]) | go_big_quiet_step (fail))
      refine wpQuiet_nil ?_
      clear HRG0 HRG1 HRG2
      have SV := Lib.hid (brefl v0)
      have SV_le_HB := HB.out.size
      refine Tin.reg_two 5 27 _ _ rfl rfl (by kernel_rfl) ?_ ?_
      · try simp only [List.getElem_toArray, List.getElem_cons_succ, List.getElem_cons_zero]
        go_wp2_with fail
        refine (rnear_any (wd : Int) (ht : Int) x y A0 c0 v _ (HV0.out.keep HB.out) (mayP_W HMM.out.1) (mayP_H HMM.out.1) (mayP_n HMM.out.1) (by omega) (by omega)).mono ?_
        rintro e z1 ⟨rfl, hv⟩
        go_wp2_with fail
        refine ⟨w.heap.size, hv.mono SZ, Nat.le_refl _, ?_⟩
        replace HG := Lib.hid ((hv.block _ (row_lt HG.out)).trans HG.out)
        replace HZ := Lib.hid ((hv.block _ (row_lt HZ.out)).trans HZ.out)
        replace HO := Lib.hid (HO.out.keep hv)
        replace HB := Lib.hid (HB.out.trans (hv.mono HB.out.size))
        replace SV := Lib.hid (SV.out.trans (hv.mono SV.out.size))
        replace SZ := Nat.le_trans SZ hv.size
        clear hv
        refine Tin.reg_two 15 27 _ _ rfl rfl (by kernel_rfl) ?_ ?_
        · try simp only [List.getElem_toArray, List.getElem_cons_succ, List.getElem_cons_zero]
          go_wp2_with fail
          refine (rnear_any W1 H1 ((x : Int) / fx) ((y : Int) / fy) A1 c1 v1 _ (HV1.out.keep HB.out) (mayP_W HMM.out.2.1) (mayP_H HMM.out.2.1) (mayP_n HMM.out.2.1) (by omega) (by omega)).mono ?_
          rintro e z2 ⟨rfl, hv⟩
          go_wp2_with fail
          refine ⟨w.heap.size, hv.mono SZ, Nat.le_refl _, ?_⟩
          replace HG := Lib.hid ((hv.block _ (row_lt HG.out)).trans HG.out)
          replace HZ := Lib.hid ((hv.block _ (row_lt HZ.out)).trans HZ.out)
          replace HO := Lib.hid (HO.out.keep hv)
          replace HB := Lib.hid (HB.out.trans (hv.mono HB.out.size))
          replace SV := Lib.hid (SV.out.trans (hv.mono SV.out.size))
          replace SZ := Nat.le_trans SZ hv.size
          clear hv
          refine Tin.reg_two 25 27 _ _ rfl rfl (by kernel_rfl) ?_ ?_
          · try simp only [List.getElem_toArray, List.getElem_cons_succ, List.getElem_cons_zero]
            go_wp2_with fail
            refine (rnear_any W1 H1 ((x : Int) / fx) ((y : Int) / fy) A2 c2 v2 _ (HV2.out.keep HB.out) (mayP_W HMM.out.2.2) (mayP_H HMM.out.2.2) (mayP_n HMM.out.2.2) (by omega) (by omega)).mono ?_
            rintro e z3 ⟨rfl, hv⟩
            go_wp2_with fail
            refine ⟨w.heap.size, hv.mono SZ, Nat.le_refl _, ?_⟩
            replace HG := Lib.hid ((hv.block _ (row_lt HG.out)).trans HG.out)
            replace HZ := Lib.hid ((hv.block _ (row_lt HZ.out)).trans HZ.out)
            replace HO := Lib.hid (HO.out.keep hv)
            replace HB := Lib.hid (HB.out.trans (hv.mono HB.out.size))
            replace SV := Lib.hid (SV.out.trans (hv.mono SV.out.size))
            replace SZ := Nat.le_trans SZ hv.size
            clear hv
            refine Tin.reg_two 26 27 _ _ rfl rfl (by kernel_rfl) ?_ ?_
            · try simp only [List.getElem_toArray, List.getElem_cons_succ, List.getElem_cons_zero]
              go_wp2_with fail
              refine (rpaint_any (nearV (wd : Int) (ht : Int) v x y) (nearV W1 H1 v1 ((x : Int) / fx) ((y : Int) / fy)) (nearV W1 H1 v2 ((x : Int) / fx) ((y : Int) / fy)) _).mono ?_
              rintro e z4 ⟨rfl, hv⟩
              go_wp2_with fail
              refine ⟨w.heap.size, hv.mono SZ, Nat.le_refl _, ?_⟩
              replace HG := Lib.hid ((hv.block _ (row_lt HG.out)).trans HG.out)
              replace HZ := Lib.hid ((hv.block _ (row_lt HZ.out)).trans HZ.out)
              replace HO := Lib.hid (HO.out.keep hv)
              replace HB := Lib.hid (HB.out.trans (hv.mono HB.out.size))
              replace SV := Lib.hid (SV.out.trans (hv.mono SV.out.size))
              replace SZ := Nat.le_trans SZ hv.size
              clear hv
              refine Tin.reg_one 27 _ rfl (by kernel_rfl) ?_
              try simp only [List.getElem_toArray, List.getElem_cons_succ, List.getElem_cons_zero]
              go_wp2_with fail
              have SN := Lib.hid (brefl z4)
              have SN_HG := HG
              have SN_HZ := HZ
              have SN_HO := HO
              have SN_le_HB := HB.out.size
              have SN_le_SV := SV.out.size
              have hv := ba (brefl z4) (.cells #[.int .i64 0, .int .i64 0, .int .i64 0] 78)
              have hr10 := heap_alloc_new z4 (.cells #[.int .i64 0, .int .i64 0, .int .i64 0] 78)
              refine ⟨w.heap.size, hv.mono SZ, Nat.le_refl _, ?_⟩
              replace HG := Lib.hid ((hv.block _ (row_lt HG.out)).trans HG.out)
              replace HZ := Lib.hid ((hv.block _ (row_lt HZ.out)).trans HZ.out)
              replace HO := Lib.hid (HO.out.keep hv)
              replace HB := Lib.hid (HB.out.trans (hv.mono HB.out.size))
              replace SV := Lib.hid (SV.out.trans (hv.mono SV.out.size))
              replace SN := Lib.hid (SN.out.trans (hv.mono SN.out.size))
              replace SZ := Nat.le_trans SZ hv.size
              have R10 := Lib.hid hr10
              clear hr10 hv
              generalize (z4.alloc (.cells #[.int .i64 0, .int .i64 0, .int .i64 0] 78)) = z5 at *
              refine Tin.reg_one 28 _ rfl (by kernel_rfl) ?_
              try simp only [List.getElem_toArray, List.getElem_cons_succ, List.getElem_cons_zero]
              go_wp2_with ((with_reducible refine wpl_store_row rt3 ?_ (.tmp 10) (.tmp 63) ?_ (z4.heap.size) ?_ (#[.int .i64 (paiR (nearV (wd : Int) (ht : Int) v x y) (nearV W1 H1 v1 ((x : Int) / fx) ((y : Int) / fy)) (nearV W1 H1 v2 ((x : Int) / fx) ((y : Int) / fy))), .int .i64 (paiG (nearV (wd : Int) (ht : Int) v x y) (nearV W1 H1 v1 ((x : Int) / fx) ((y : Int) / fy)) (nearV W1 H1 v2 ((x : Int) / fx) ((y : Int) / fy))), .int .i64 (paiB (nearV (wd : Int) (ht : Int) v x y) (nearV W1 H1 v1 ((x : Int) / fx) ((y : Int) / fy)) (nearV W1 H1 v2 ((x : Int) / fx) ((y : Int) / fy)))]) ?_ (in_one _ _ _) 78 ?_ (#[.int .i64 0, .int .i64 0, .int .i64 0]) ?_ R10.out ?_); rfl; rfl; rfl; rfl; rfl; rfl; intro z6 hr10 hg10 hs10)
              have hb10 : Below (z4.heap.size) z5 z6 := (Below.refl _ _).grown hg10 SN.out.size (fun k hk => by cases hk; exact Nat.le_refl _)
              refine ⟨w.heap.size, hb10.mono (by have := SV.out.size; have := SN_le_SV; have := SN_le_HB; omega), Nat.le_refl _, ?_⟩
              clear R10
              replace SN := Lib.hid (SN.out.trans hb10)
              replace HG := Lib.hid ((SN.out.block _ (row_lt SN_HG.out)).trans SN_HG.out)
              replace HZ := Lib.hid ((SN.out.block _ (row_lt SN_HZ.out)).trans SN_HZ.out)
              replace HO := Lib.hid (SN_HO.out.keep SN.out)
              replace HB := Lib.hid (HB.out.trans (hb10.mono SN_le_HB))
              replace SV := Lib.hid (SV.out.trans (hb10.mono SN_le_SV))
              replace SZ := Nat.le_trans SZ hg10.size
              have R10 := Lib.hid hr10
              clear hr10 hg10 hs10 hb10
              refine Tin.reg_done (by kernel_rfl) ?_
              generalize paiR (nearV (wd : Int) (ht : Int) v x y) (nearV W1 H1 v1 ((x : Int) / fx) ((y : Int) / fy)) (nearV W1 H1 v2 ((x : Int) / fx) ((y : Int) / fy)) = P0 at *
              generalize paiG (nearV (wd : Int) (ht : Int) v x y) (nearV W1 H1 v1 ((x : Int) / fx) ((y : Int) / fy)) (nearV W1 H1 v2 ((x : Int) / fx) ((y : Int) / fy)) = P1 at *
              generalize paiB (nearV (wd : Int) (ht : Int) v x y) (nearV W1 H1 v1 ((x : Int) / fx) ((y : Int) / fy)) (nearV W1 H1 v2 ((x : Int) / fx) ((y : Int) / fy)) = P2 at *
              have HLO := Lib.hid (World.ownsRow.lt HO.out)
              have k2 := row_cell (v := .slice A3 n c3) HG.out 2 rfl
              have HSZ : w6.heap.size + 1 ≤ z6.heap.size := Nat.le_trans hgs0 SV.out.size
              have j0 := row_cell (v := .int .i64 P0) R10.out 0 rfl
              have j1 := row_cell (v := .int .i64 P1) R10.out 1 rfl
              have j2 := row_cell (v := .int .i64 P2) R10.out 2 rfl
              go_wp2_with (at_builtin; refine Tin.wpl_app bt5 _ rfl (.tmp 65) (.tmp 75) rfl (w6.heap.size + 1) (.slice A3 n c3) (gridT (pixV (wd : Int) (ht : Int) v W1 H1 v1 v2 fx fy) wd y ++ linT (pixV (wd : Int) (ht : Int) v W1 H1 v1 v2 fx fy) y x) rfl (HO.out.alloc _) (some ⟨z6.heap.size, 0, none⟩) 3 3 [P0, P1, P2] rfl (Sl.new_ _ _ _ _ rfl) rfl (by simp only [List.length_cons, List.length_nil]; omega) (by simp only [List.length_cons, List.length_nil]; omega) (by simp; omega) ?_; intro x6 q6 ho6 hg6 how6; obtain ⟨A6, c6, rfl⟩ := own_form ho6; obtain ⟨n6, hn6⟩ : ∃ n6, ((gridT (pixV (wd : Int) (ht : Int) v W1 H1 v1 v2 fx fy) wd y ++ linT (pixV (wd : Int) (ht : Int) v W1 H1 v1 v2 fx fy) y x) ++ [P0, P1, P2]).length = n6 := ⟨_, rfl⟩; rw [hn6] at ho6 how6 ⊢; have HN6 := Lib.hid hn6; clear hn6; have hgg := (World.grownBy_alloc z6 (.cells #[.int .u8 P0, .int .u8 P1, .int .u8 P2] 5) (Value.slice A3 n c3).ownBlock).trans hg6; have HO6 := Lib.hid ho6; have HG6 := Lib.hid ((hgg.block _ (row_lt HG.out) (fun e => by have := (HLO.out _ e.symm).1; omega)).trans HG.out); have HZ6 := Lib.hid ((hgg.block _ (row_lt HZ.out) (fun e => by have := (HLO.out _ e.symm).1; omega)).trans HZ.out); have HB6 := Lib.hid (HB.out.grown hgg HB.out.size (fun q hq => by have := (HLO.out q hq).1; omega)); have hz6 : w6.heap.size + 1 ≤ q6.heap.size := Nat.le_trans HSZ hgg.size; have cc6 := row_cell (v := .slice A3 n c3) HG6.out 2 rfl; have f6 := frozen_of_row q6 w6.heap.size 2 _ _ HG6.out; clear ho6 hg6 how6 hgg; simp only [Act.put, List.setIfInBounds_toArray, List.set_cons_succ, List.set_cons_zero])
              have hk6 := grown_setCells w6.heap.size [.slice A6 n6 c6] 2 q6 q6 (World.grownBy.refl q6 _)
              exact ⟨⟨x + 1, A6, n6, c6, by omega, rfl, row_set HG6.out 2 _, by rw [heap_setCell_other _ _ _ _ (by show w.heap.size ≠ w6.heap.size; omega)]; exact HZ6.out, by rw [linT, ← List.append_assoc, HPX.out]; exact HO6.out.kept hk6 (ne_own (fun q hq => by have := (World.ownsRow.lt HO6.out q hq).1; omega)), HB6.out.setCell (by show w.heap.size ≤ w6.heap.size; omega) _, by simp only [World.setCell]; simp; omega⟩, by simp only [intOf]; omega⟩
            · try simp only [List.getElem_toArray, List.getElem_cons_succ, List.getElem_cons_zero]
              go_wp2_with fail
              have SN := Lib.hid (brefl z3)
              have SN_HG := HG
              have SN_HZ := HZ
              have SN_HO := HO
              have SN_le_HB := HB.out.size
              have SN_le_SV := SV.out.size
              have hv := ba (brefl z3) (.cells #[.int .i64 0, .int .i64 0, .int .i64 0] 78)
              have hr10 := heap_alloc_new z3 (.cells #[.int .i64 0, .int .i64 0, .int .i64 0] 78)
              refine ⟨w.heap.size, hv.mono SZ, Nat.le_refl _, ?_⟩
              replace HG := Lib.hid ((hv.block _ (row_lt HG.out)).trans HG.out)
              replace HZ := Lib.hid ((hv.block _ (row_lt HZ.out)).trans HZ.out)
              replace HO := Lib.hid (HO.out.keep hv)
              replace HB := Lib.hid (HB.out.trans (hv.mono HB.out.size))
              replace SV := Lib.hid (SV.out.trans (hv.mono SV.out.size))
              replace SN := Lib.hid (SN.out.trans (hv.mono SN.out.size))
              replace SZ := Nat.le_trans SZ hv.size
              have R10 := Lib.hid hr10
              clear hr10 hv
              generalize (z3.alloc (.cells #[.int .i64 0, .int .i64 0, .int .i64 0] 78)) = z4 at *
              refine Tin.reg_one 26 _ rfl (by kernel_rfl) ?_
              try simp only [List.getElem_toArray, List.getElem_cons_succ, List.getElem_cons_zero]
              go_wp2_with fail
              refine (rpaint_any (nearV (wd : Int) (ht : Int) v x y) (nearV W1 H1 v1 ((x : Int) / fx) ((y : Int) / fy)) (nearV W1 H1 v2 ((x : Int) / fx) ((y : Int) / fy)) _).mono ?_
              rintro e z5 ⟨rfl, hv⟩
              go_wp2_with fail
              refine ⟨w.heap.size, hv.mono SZ, Nat.le_refl _, ?_⟩
              replace HG := Lib.hid ((hv.block _ (row_lt HG.out)).trans HG.out)
              replace HZ := Lib.hid ((hv.block _ (row_lt HZ.out)).trans HZ.out)
              replace HO := Lib.hid (HO.out.keep hv)
              replace R10 := Lib.hid ((hv.block _ (row_lt R10.out)).trans R10.out)
              replace HB := Lib.hid (HB.out.trans (hv.mono HB.out.size))
              replace SV := Lib.hid (SV.out.trans (hv.mono SV.out.size))
              replace SN := Lib.hid (SN.out.trans (hv.mono SN.out.size))
              replace SZ := Nat.le_trans SZ hv.size
              clear hv
              refine Tin.reg_one 28 _ rfl (by kernel_rfl) ?_
              try simp only [List.getElem_toArray, List.getElem_cons_succ, List.getElem_cons_zero]
              go_wp2_with ((with_reducible refine wpl_store_row rt3 ?_ (.tmp 10) (.tmp 63) ?_ (z3.heap.size) ?_ (#[.int .i64 (paiR (nearV (wd : Int) (ht : Int) v x y) (nearV W1 H1 v1 ((x : Int) / fx) ((y : Int) / fy)) (nearV W1 H1 v2 ((x : Int) / fx) ((y : Int) / fy))), .int .i64 (paiG (nearV (wd : Int) (ht : Int) v x y) (nearV W1 H1 v1 ((x : Int) / fx) ((y : Int) / fy)) (nearV W1 H1 v2 ((x : Int) / fx) ((y : Int) / fy))), .int .i64 (paiB (nearV (wd : Int) (ht : Int) v x y) (nearV W1 H1 v1 ((x : Int) / fx) ((y : Int) / fy)) (nearV W1 H1 v2 ((x : Int) / fx) ((y : Int) / fy)))]) ?_ (in_one _ _ _) 78 ?_ (#[.int .i64 0, .int .i64 0, .int .i64 0]) ?_ R10.out ?_); rfl; rfl; rfl; rfl; rfl; rfl; intro z6 hr10 hg10 hs10)
              have hb10 : Below (z3.heap.size) z5 z6 := (Below.refl _ _).grown hg10 SN.out.size (fun k hk => by cases hk; exact Nat.le_refl _)
              refine ⟨w.heap.size, hb10.mono (by have := SV.out.size; have := SN_le_SV; have := SN_le_HB; omega), Nat.le_refl _, ?_⟩
              clear R10
              replace SN := Lib.hid (SN.out.trans hb10)
              replace HG := Lib.hid ((SN.out.block _ (row_lt SN_HG.out)).trans SN_HG.out)
              replace HZ := Lib.hid ((SN.out.block _ (row_lt SN_HZ.out)).trans SN_HZ.out)
              replace HO := Lib.hid (SN_HO.out.keep SN.out)
              replace HB := Lib.hid (HB.out.trans (hb10.mono SN_le_HB))
              replace SV := Lib.hid (SV.out.trans (hb10.mono SN_le_SV))
              replace SZ := Nat.le_trans SZ hg10.size
              have R10 := Lib.hid hr10
              clear hr10 hg10 hs10 hb10
              refine Tin.reg_done (by kernel_rfl) ?_
              generalize paiR (nearV (wd : Int) (ht : Int) v x y) (nearV W1 H1 v1 ((x : Int) / fx) ((y : Int) / fy)) (nearV W1 H1 v2 ((x : Int) / fx) ((y : Int) / fy)) = P0 at *
              generalize paiG (nearV (wd : Int) (ht : Int) v x y) (nearV W1 H1 v1 ((x : Int) / fx) ((y : Int) / fy)) (nearV W1 H1 v2 ((x : Int) / fx) ((y : Int) / fy)) = P1 at *
              generalize paiB (nearV (wd : Int) (ht : Int) v x y) (nearV W1 H1 v1 ((x : Int) / fx) ((y : Int) / fy)) (nearV W1 H1 v2 ((x : Int) / fx) ((y : Int) / fy)) = P2 at *
              have HLO := Lib.hid (World.ownsRow.lt HO.out)
              have k2 := row_cell (v := .slice A3 n c3) HG.out 2 rfl
              have HSZ : w6.heap.size + 1 ≤ z6.heap.size := Nat.le_trans hgs0 SV.out.size
              have j0 := row_cell (v := .int .i64 P0) R10.out 0 rfl
              have j1 := row_cell (v := .int .i64 P1) R10.out 1 rfl
              have j2 := row_cell (v := .int .i64 P2) R10.out 2 rfl
              go_wp2_with (at_builtin; refine Tin.wpl_app bt5 _ rfl (.tmp 65) (.tmp 75) rfl (w6.heap.size + 1) (.slice A3 n c3) (gridT (pixV (wd : Int) (ht : Int) v W1 H1 v1 v2 fx fy) wd y ++ linT (pixV (wd : Int) (ht : Int) v W1 H1 v1 v2 fx fy) y x) rfl (HO.out.alloc _) (some ⟨z6.heap.size, 0, none⟩) 3 3 [P0, P1, P2] rfl (Sl.new_ _ _ _ _ rfl) rfl (by simp only [List.length_cons, List.length_nil]; omega) (by simp only [List.length_cons, List.length_nil]; omega) (by simp; omega) ?_; intro x6 q6 ho6 hg6 how6; obtain ⟨A6, c6, rfl⟩ := own_form ho6; obtain ⟨n6, hn6⟩ : ∃ n6, ((gridT (pixV (wd : Int) (ht : Int) v W1 H1 v1 v2 fx fy) wd y ++ linT (pixV (wd : Int) (ht : Int) v W1 H1 v1 v2 fx fy) y x) ++ [P0, P1, P2]).length = n6 := ⟨_, rfl⟩; rw [hn6] at ho6 how6 ⊢; have HN6 := Lib.hid hn6; clear hn6; have hgg := (World.grownBy_alloc z6 (.cells #[.int .u8 P0, .int .u8 P1, .int .u8 P2] 5) (Value.slice A3 n c3).ownBlock).trans hg6; have HO6 := Lib.hid ho6; have HG6 := Lib.hid ((hgg.block _ (row_lt HG.out) (fun e => by have := (HLO.out _ e.symm).1; omega)).trans HG.out); have HZ6 := Lib.hid ((hgg.block _ (row_lt HZ.out) (fun e => by have := (HLO.out _ e.symm).1; omega)).trans HZ.out); have HB6 := Lib.hid (HB.out.grown hgg HB.out.size (fun q hq => by have := (HLO.out q hq).1; omega)); have hz6 : w6.heap.size + 1 ≤ q6.heap.size := Nat.le_trans HSZ hgg.size; have cc6 := row_cell (v := .slice A3 n c3) HG6.out 2 rfl; have f6 := frozen_of_row q6 w6.heap.size 2 _ _ HG6.out; clear ho6 hg6 how6 hgg; simp only [Act.put, List.setIfInBounds_toArray, List.set_cons_succ, List.set_cons_zero])
              have hk6 := grown_setCells w6.heap.size [.slice A6 n6 c6] 2 q6 q6 (World.grownBy.refl q6 _)
              exact ⟨⟨x + 1, A6, n6, c6, by omega, rfl, row_set HG6.out 2 _, by rw [heap_setCell_other _ _ _ _ (by show w.heap.size ≠ w6.heap.size; omega)]; exact HZ6.out, by rw [linT, ← List.append_assoc, HPX.out]; exact HO6.out.kept hk6 (ne_own (fun q hq => by have := (World.ownsRow.lt HO6.out q hq).1; omega)), HB6.out.setCell (by show w.heap.size ≤ w6.heap.size; omega) _, by simp only [World.setCell]; simp; omega⟩, by simp only [intOf]; omega⟩
          · try simp only [List.getElem_toArray, List.getElem_cons_succ, List.getElem_cons_zero]
            go_wp2_with fail
            have SN := Lib.hid (brefl z2)
            have SN_HG := HG
            have SN_HZ := HZ
            have SN_HO := HO
            have SN_le_HB := HB.out.size
            have SN_le_SV := SV.out.size
            have hv := ba (brefl z2) (.cells #[.int .i64 0, .int .i64 0, .int .i64 0] 78)
            have hr10 := heap_alloc_new z2 (.cells #[.int .i64 0, .int .i64 0, .int .i64 0] 78)
            refine ⟨w.heap.size, hv.mono SZ, Nat.le_refl _, ?_⟩
            replace HG := Lib.hid ((hv.block _ (row_lt HG.out)).trans HG.out)
            replace HZ := Lib.hid ((hv.block _ (row_lt HZ.out)).trans HZ.out)
            replace HO := Lib.hid (HO.out.keep hv)
            replace HB := Lib.hid (HB.out.trans (hv.mono HB.out.size))
            replace SV := Lib.hid (SV.out.trans (hv.mono SV.out.size))
            replace SN := Lib.hid (SN.out.trans (hv.mono SN.out.size))
            replace SZ := Nat.le_trans SZ hv.size
            have R10 := Lib.hid hr10
            clear hr10 hv
            generalize (z2.alloc (.cells #[.int .i64 0, .int .i64 0, .int .i64 0] 78)) = z3 at *
            refine Tin.reg_one 25 _ rfl (by kernel_rfl) ?_
            try simp only [List.getElem_toArray, List.getElem_cons_succ, List.getElem_cons_zero]
            go_wp2_with fail
            refine (rnear_any W1 H1 ((x : Int) / fx) ((y : Int) / fy) A2 c2 v2 _ (HV2.out.keep HB.out) (mayP_W HMM.out.2.2) (mayP_H HMM.out.2.2) (mayP_n HMM.out.2.2) (by omega) (by omega)).mono ?_
            rintro e z4 ⟨rfl, hv⟩
            go_wp2_with fail
            refine ⟨w.heap.size, hv.mono SZ, Nat.le_refl _, ?_⟩
            replace HG := Lib.hid ((hv.block _ (row_lt HG.out)).trans HG.out)
            replace HZ := Lib.hid ((hv.block _ (row_lt HZ.out)).trans HZ.out)
            replace HO := Lib.hid (HO.out.keep hv)
            replace R10 := Lib.hid ((hv.block _ (row_lt R10.out)).trans R10.out)
            replace HB := Lib.hid (HB.out.trans (hv.mono HB.out.size))
            replace SV := Lib.hid (SV.out.trans (hv.mono SV.out.size))
            replace SN := Lib.hid (SN.out.trans (hv.mono SN.out.size))
            replace SZ := Nat.le_trans SZ hv.size
            clear hv
            refine Tin.reg_one 26 _ rfl (by kernel_rfl) ?_
            try simp only [List.getElem_toArray, List.getElem_cons_succ, List.getElem_cons_zero]
            go_wp2_with fail
            refine (rpaint_any (nearV (wd : Int) (ht : Int) v x y) (nearV W1 H1 v1 ((x : Int) / fx) ((y : Int) / fy)) (nearV W1 H1 v2 ((x : Int) / fx) ((y : Int) / fy)) _).mono ?_
            rintro e z5 ⟨rfl, hv⟩
            go_wp2_with fail
            refine ⟨w.heap.size, hv.mono SZ, Nat.le_refl _, ?_⟩
            replace HG := Lib.hid ((hv.block _ (row_lt HG.out)).trans HG.out)
            replace HZ := Lib.hid ((hv.block _ (row_lt HZ.out)).trans HZ.out)
            replace HO := Lib.hid (HO.out.keep hv)
            replace R10 := Lib.hid ((hv.block _ (row_lt R10.out)).trans R10.out)
            replace HB := Lib.hid (HB.out.trans (hv.mono HB.out.size))
            replace SV := Lib.hid (SV.out.trans (hv.mono SV.out.size))
            replace SN := Lib.hid (SN.out.trans (hv.mono SN.out.size))
            replace SZ := Nat.le_trans SZ hv.size
            clear hv
            refine Tin.reg_one 28 _ rfl (by kernel_rfl) ?_
            try simp only [List.getElem_toArray, List.getElem_cons_succ, List.getElem_cons_zero]
            go_wp2_with ((with_reducible refine wpl_store_row rt3 ?_ (.tmp 10) (.tmp 63) ?_ (z2.heap.size) ?_ (#[.int .i64 (paiR (nearV (wd : Int) (ht : Int) v x y) (nearV W1 H1 v1 ((x : Int) / fx) ((y : Int) / fy)) (nearV W1 H1 v2 ((x : Int) / fx) ((y : Int) / fy))), .int .i64 (paiG (nearV (wd : Int) (ht : Int) v x y) (nearV W1 H1 v1 ((x : Int) / fx) ((y : Int) / fy)) (nearV W1 H1 v2 ((x : Int) / fx) ((y : Int) / fy))), .int .i64 (paiB (nearV (wd : Int) (ht : Int) v x y) (nearV W1 H1 v1 ((x : Int) / fx) ((y : Int) / fy)) (nearV W1 H1 v2 ((x : Int) / fx) ((y : Int) / fy)))]) ?_ (in_one _ _ _) 78 ?_ (#[.int .i64 0, .int .i64 0, .int .i64 0]) ?_ R10.out ?_); rfl; rfl; rfl; rfl; rfl; rfl; intro z6 hr10 hg10 hs10)
            have hb10 : Below (z2.heap.size) z5 z6 := (Below.refl _ _).grown hg10 SN.out.size (fun k hk => by cases hk; exact Nat.le_refl _)
            refine ⟨w.heap.size, hb10.mono (by have := SV.out.size; have := SN_le_SV; have := SN_le_HB; omega), Nat.le_refl _, ?_⟩
            clear R10
            replace SN := Lib.hid (SN.out.trans hb10)
            replace HG := Lib.hid ((SN.out.block _ (row_lt SN_HG.out)).trans SN_HG.out)
            replace HZ := Lib.hid ((SN.out.block _ (row_lt SN_HZ.out)).trans SN_HZ.out)
            replace HO := Lib.hid (SN_HO.out.keep SN.out)
            replace HB := Lib.hid (HB.out.trans (hb10.mono SN_le_HB))
            replace SV := Lib.hid (SV.out.trans (hb10.mono SN_le_SV))
            replace SZ := Nat.le_trans SZ hg10.size
            have R10 := Lib.hid hr10
            clear hr10 hg10 hs10 hb10
            refine Tin.reg_done (by kernel_rfl) ?_
            generalize paiR (nearV (wd : Int) (ht : Int) v x y) (nearV W1 H1 v1 ((x : Int) / fx) ((y : Int) / fy)) (nearV W1 H1 v2 ((x : Int) / fx) ((y : Int) / fy)) = P0 at *
            generalize paiG (nearV (wd : Int) (ht : Int) v x y) (nearV W1 H1 v1 ((x : Int) / fx) ((y : Int) / fy)) (nearV W1 H1 v2 ((x : Int) / fx) ((y : Int) / fy)) = P1 at *
            generalize paiB (nearV (wd : Int) (ht : Int) v x y) (nearV W1 H1 v1 ((x : Int) / fx) ((y : Int) / fy)) (nearV W1 H1 v2 ((x : Int) / fx) ((y : Int) / fy)) = P2 at *
            have HLO := Lib.hid (World.ownsRow.lt HO.out)
            have k2 := row_cell (v := .slice A3 n c3) HG.out 2 rfl
            have HSZ : w6.heap.size + 1 ≤ z6.heap.size := Nat.le_trans hgs0 SV.out.size
            have j0 := row_cell (v := .int .i64 P0) R10.out 0 rfl
            have j1 := row_cell (v := .int .i64 P1) R10.out 1 rfl
            have j2 := row_cell (v := .int .i64 P2) R10.out 2 rfl
            go_wp2_with (at_builtin; refine Tin.wpl_app bt5 _ rfl (.tmp 65) (.tmp 75) rfl (w6.heap.size + 1) (.slice A3 n c3) (gridT (pixV (wd : Int) (ht : Int) v W1 H1 v1 v2 fx fy) wd y ++ linT (pixV (wd : Int) (ht : Int) v W1 H1 v1 v2 fx fy) y x) rfl (HO.out.alloc _) (some ⟨z6.heap.size, 0, none⟩) 3 3 [P0, P1, P2] rfl (Sl.new_ _ _ _ _ rfl) rfl (by simp only [List.length_cons, List.length_nil]; omega) (by simp only [List.length_cons, List.length_nil]; omega) (by simp; omega) ?_; intro x6 q6 ho6 hg6 how6; obtain ⟨A6, c6, rfl⟩ := own_form ho6; obtain ⟨n6, hn6⟩ : ∃ n6, ((gridT (pixV (wd : Int) (ht : Int) v W1 H1 v1 v2 fx fy) wd y ++ linT (pixV (wd : Int) (ht : Int) v W1 H1 v1 v2 fx fy) y x) ++ [P0, P1, P2]).length = n6 := ⟨_, rfl⟩; rw [hn6] at ho6 how6 ⊢; have HN6 := Lib.hid hn6; clear hn6; have hgg := (World.grownBy_alloc z6 (.cells #[.int .u8 P0, .int .u8 P1, .int .u8 P2] 5) (Value.slice A3 n c3).ownBlock).trans hg6; have HO6 := Lib.hid ho6; have HG6 := Lib.hid ((hgg.block _ (row_lt HG.out) (fun e => by have := (HLO.out _ e.symm).1; omega)).trans HG.out); have HZ6 := Lib.hid ((hgg.block _ (row_lt HZ.out) (fun e => by have := (HLO.out _ e.symm).1; omega)).trans HZ.out); have HB6 := Lib.hid (HB.out.grown hgg HB.out.size (fun q hq => by have := (HLO.out q hq).1; omega)); have hz6 : w6.heap.size + 1 ≤ q6.heap.size := Nat.le_trans HSZ hgg.size; have cc6 := row_cell (v := .slice A3 n c3) HG6.out 2 rfl; have f6 := frozen_of_row q6 w6.heap.size 2 _ _ HG6.out; clear ho6 hg6 how6 hgg; simp only [Act.put, List.setIfInBounds_toArray, List.set_cons_succ, List.set_cons_zero])
            have hk6 := grown_setCells w6.heap.size [.slice A6 n6 c6] 2 q6 q6 (World.grownBy.refl q6 _)
            exact ⟨⟨x + 1, A6, n6, c6, by omega, rfl, row_set HG6.out 2 _, by rw [heap_setCell_other _ _ _ _ (by show w.heap.size ≠ w6.heap.size; omega)]; exact HZ6.out, by rw [linT, ← List.append_assoc, HPX.out]; exact HO6.out.kept hk6 (ne_own (fun q hq => by have := (World.ownsRow.lt HO6.out q hq).1; omega)), HB6.out.setCell (by show w.heap.size ≤ w6.heap.size; omega) _, by simp only [World.setCell]; simp; omega⟩, by simp only [intOf]; omega⟩
        · try simp only [List.getElem_toArray, List.getElem_cons_succ, List.getElem_cons_zero]
          go_wp2_with fail
          have SN := Lib.hid (brefl z1)
          have SN_HG := HG
          have SN_HZ := HZ
          have SN_HO := HO
          have SN_le_HB := HB.out.size
          have SN_le_SV := SV.out.size
          have hv := ba (brefl z1) (.cells #[.int .i64 0, .int .i64 0, .int .i64 0] 78)
          have hr10 := heap_alloc_new z1 (.cells #[.int .i64 0, .int .i64 0, .int .i64 0] 78)
          refine ⟨w.heap.size, hv.mono SZ, Nat.le_refl _, ?_⟩
          replace HG := Lib.hid ((hv.block _ (row_lt HG.out)).trans HG.out)
          replace HZ := Lib.hid ((hv.block _ (row_lt HZ.out)).trans HZ.out)
          replace HO := Lib.hid (HO.out.keep hv)
          replace HB := Lib.hid (HB.out.trans (hv.mono HB.out.size))
          replace SV := Lib.hid (SV.out.trans (hv.mono SV.out.size))
          replace SN := Lib.hid (SN.out.trans (hv.mono SN.out.size))
          replace SZ := Nat.le_trans SZ hv.size
          have R10 := Lib.hid hr10
          clear hr10 hv
          generalize (z1.alloc (.cells #[.int .i64 0, .int .i64 0, .int .i64 0] 78)) = z2 at *
          refine Tin.reg_one 15 _ rfl (by kernel_rfl) ?_
          try simp only [List.getElem_toArray, List.getElem_cons_succ, List.getElem_cons_zero]
          go_wp2_with fail
          refine (rnear_any W1 H1 ((x : Int) / fx) ((y : Int) / fy) A1 c1 v1 _ (HV1.out.keep HB.out) (mayP_W HMM.out.2.1) (mayP_H HMM.out.2.1) (mayP_n HMM.out.2.1) (by omega) (by omega)).mono ?_
          rintro e z3 ⟨rfl, hv⟩
          go_wp2_with fail
          refine ⟨w.heap.size, hv.mono SZ, Nat.le_refl _, ?_⟩
          replace HG := Lib.hid ((hv.block _ (row_lt HG.out)).trans HG.out)
          replace HZ := Lib.hid ((hv.block _ (row_lt HZ.out)).trans HZ.out)
          replace HO := Lib.hid (HO.out.keep hv)
          replace R10 := Lib.hid ((hv.block _ (row_lt R10.out)).trans R10.out)
          replace HB := Lib.hid (HB.out.trans (hv.mono HB.out.size))
          replace SV := Lib.hid (SV.out.trans (hv.mono SV.out.size))
          replace SN := Lib.hid (SN.out.trans (hv.mono SN.out.size))
          replace SZ := Nat.le_trans SZ hv.size
          clear hv
          refine Tin.reg_one 25 _ rfl (by kernel_rfl) ?_
          try simp only [List.getElem_toArray, List.getElem_cons_succ, List.getElem_cons_zero]
          go_wp2_with fail
          refine (rnear_any W1 H1 ((x : Int) / fx) ((y : Int) / fy) A2 c2 v2 _ (HV2.out.keep HB.out) (mayP_W HMM.out.2.2) (mayP_H HMM.out.2.2) (mayP_n HMM.out.2.2) (by omega) (by omega)).mono ?_
          rintro e z4 ⟨rfl, hv⟩
          go_wp2_with fail
          refine ⟨w.heap.size, hv.mono SZ, Nat.le_refl _, ?_⟩
          replace HG := Lib.hid ((hv.block _ (row_lt HG.out)).trans HG.out)
          replace HZ := Lib.hid ((hv.block _ (row_lt HZ.out)).trans HZ.out)
          replace HO := Lib.hid (HO.out.keep hv)
          replace R10 := Lib.hid ((hv.block _ (row_lt R10.out)).trans R10.out)
          replace HB := Lib.hid (HB.out.trans (hv.mono HB.out.size))
          replace SV := Lib.hid (SV.out.trans (hv.mono SV.out.size))
          replace SN := Lib.hid (SN.out.trans (hv.mono SN.out.size))
          replace SZ := Nat.le_trans SZ hv.size
          clear hv
          refine Tin.reg_one 26 _ rfl (by kernel_rfl) ?_
          try simp only [List.getElem_toArray, List.getElem_cons_succ, List.getElem_cons_zero]
          go_wp2_with fail
          refine (rpaint_any (nearV (wd : Int) (ht : Int) v x y) (nearV W1 H1 v1 ((x : Int) / fx) ((y : Int) / fy)) (nearV W1 H1 v2 ((x : Int) / fx) ((y : Int) / fy)) _).mono ?_
          rintro e z5 ⟨rfl, hv⟩
          go_wp2_with fail
          refine ⟨w.heap.size, hv.mono SZ, Nat.le_refl _, ?_⟩
          replace HG := Lib.hid ((hv.block _ (row_lt HG.out)).trans HG.out)
          replace HZ := Lib.hid ((hv.block _ (row_lt HZ.out)).trans HZ.out)
          replace HO := Lib.hid (HO.out.keep hv)
          replace R10 := Lib.hid ((hv.block _ (row_lt R10.out)).trans R10.out)
          replace HB := Lib.hid (HB.out.trans (hv.mono HB.out.size))
          replace SV := Lib.hid (SV.out.trans (hv.mono SV.out.size))
          replace SN := Lib.hid (SN.out.trans (hv.mono SN.out.size))
          replace SZ := Nat.le_trans SZ hv.size
          clear hv
          refine Tin.reg_one 28 _ rfl (by kernel_rfl) ?_
          try simp only [List.getElem_toArray, List.getElem_cons_succ, List.getElem_cons_zero]
          go_wp2_with ((with_reducible refine wpl_store_row rt3 ?_ (.tmp 10) (.tmp 63) ?_ (z1.heap.size) ?_ (#[.int .i64 (paiR (nearV (wd : Int) (ht : Int) v x y) (nearV W1 H1 v1 ((x : Int) / fx) ((y : Int) / fy)) (nearV W1 H1 v2 ((x : Int) / fx) ((y : Int) / fy))), .int .i64 (paiG (nearV (wd : Int) (ht : Int) v x y) (nearV W1 H1 v1 ((x : Int) / fx) ((y : Int) / fy)) (nearV W1 H1 v2 ((x : Int) / fx) ((y : Int) / fy))), .int .i64 (paiB (nearV (wd : Int) (ht : Int) v x y) (nearV W1 H1 v1 ((x : Int) / fx) ((y : Int) / fy)) (nearV W1 H1 v2 ((x : Int) / fx) ((y : Int) / fy)))]) ?_ (in_one _ _ _) 78 ?_ (#[.int .i64 0, .int .i64 0, .int .i64 0]) ?_ R10.out ?_); rfl; rfl; rfl; rfl; rfl; rfl; intro z6 hr10 hg10 hs10)
          have hb10 : Below (z1.heap.size) z5 z6 := (Below.refl _ _).grown hg10 SN.out.size (fun k hk => by cases hk; exact Nat.le_refl _)
          refine ⟨w.heap.size, hb10.mono (by have := SV.out.size; have := SN_le_SV; have := SN_le_HB; omega), Nat.le_refl _, ?_⟩
          clear R10
          replace SN := Lib.hid (SN.out.trans hb10)
          replace HG := Lib.hid ((SN.out.block _ (row_lt SN_HG.out)).trans SN_HG.out)
          replace HZ := Lib.hid ((SN.out.block _ (row_lt SN_HZ.out)).trans SN_HZ.out)
          replace HO := Lib.hid (SN_HO.out.keep SN.out)
          replace HB := Lib.hid (HB.out.trans (hb10.mono SN_le_HB))
          replace SV := Lib.hid (SV.out.trans (hb10.mono SN_le_SV))
          replace SZ := Nat.le_trans SZ hg10.size
          have R10 := Lib.hid hr10
          clear hr10 hg10 hs10 hb10
          refine Tin.reg_done (by kernel_rfl) ?_
          generalize paiR (nearV (wd : Int) (ht : Int) v x y) (nearV W1 H1 v1 ((x : Int) / fx) ((y : Int) / fy)) (nearV W1 H1 v2 ((x : Int) / fx) ((y : Int) / fy)) = P0 at *
          generalize paiG (nearV (wd : Int) (ht : Int) v x y) (nearV W1 H1 v1 ((x : Int) / fx) ((y : Int) / fy)) (nearV W1 H1 v2 ((x : Int) / fx) ((y : Int) / fy)) = P1 at *
          generalize paiB (nearV (wd : Int) (ht : Int) v x y) (nearV W1 H1 v1 ((x : Int) / fx) ((y : Int) / fy)) (nearV W1 H1 v2 ((x : Int) / fx) ((y : Int) / fy)) = P2 at *
          have HLO := Lib.hid (World.ownsRow.lt HO.out)
          have k2 := row_cell (v := .slice A3 n c3) HG.out 2 rfl
          have HSZ : w6.heap.size + 1 ≤ z6.heap.size := Nat.le_trans hgs0 SV.out.size
          have j0 := row_cell (v := .int .i64 P0) R10.out 0 rfl
          have j1 := row_cell (v := .int .i64 P1) R10.out 1 rfl
          have j2 := row_cell (v := .int .i64 P2) R10.out 2 rfl
          go_wp2_with (at_builtin; refine Tin.wpl_app bt5 _ rfl (.tmp 65) (.tmp 75) rfl (w6.heap.size + 1) (.slice A3 n c3) (gridT (pixV (wd : Int) (ht : Int) v W1 H1 v1 v2 fx fy) wd y ++ linT (pixV (wd : Int) (ht : Int) v W1 H1 v1 v2 fx fy) y x) rfl (HO.out.alloc _) (some ⟨z6.heap.size, 0, none⟩) 3 3 [P0, P1, P2] rfl (Sl.new_ _ _ _ _ rfl) rfl (by simp only [List.length_cons, List.length_nil]; omega) (by simp only [List.length_cons, List.length_nil]; omega) (by simp; omega) ?_; intro x6 q6 ho6 hg6 how6; obtain ⟨A6, c6, rfl⟩ := own_form ho6; obtain ⟨n6, hn6⟩ : ∃ n6, ((gridT (pixV (wd : Int) (ht : Int) v W1 H1 v1 v2 fx fy) wd y ++ linT (pixV (wd : Int) (ht : Int) v W1 H1 v1 v2 fx fy) y x) ++ [P0, P1, P2]).length = n6 := ⟨_, rfl⟩; rw [hn6] at ho6 how6 ⊢; have HN6 := Lib.hid hn6; clear hn6; have hgg := (World.grownBy_alloc z6 (.cells #[.int .u8 P0, .int .u8 P1, .int .u8 P2] 5) (Value.slice A3 n c3).ownBlock).trans hg6; have HO6 := Lib.hid ho6; have HG6 := Lib.hid ((hgg.block _ (row_lt HG.out) (fun e => by have := (HLO.out _ e.symm).1; omega)).trans HG.out); have HZ6 := Lib.hid ((hgg.block _ (row_lt HZ.out) (fun e => by have := (HLO.out _ e.symm).1; omega)).trans HZ.out); have HB6 := Lib.hid (HB.out.grown hgg HB.out.size (fun q hq => by have := (HLO.out q hq).1; omega)); have hz6 : w6.heap.size + 1 ≤ q6.heap.size := Nat.le_trans HSZ hgg.size; have cc6 := row_cell (v := .slice A3 n c3) HG6.out 2 rfl; have f6 := frozen_of_row q6 w6.heap.size 2 _ _ HG6.out; clear ho6 hg6 how6 hgg; simp only [Act.put, List.setIfInBounds_toArray, List.set_cons_succ, List.set_cons_zero])
          have hk6 := grown_setCells w6.heap.size [.slice A6 n6 c6] 2 q6 q6 (World.grownBy.refl q6 _)
          exact ⟨⟨x + 1, A6, n6, c6, by omega, rfl, row_set HG6.out 2 _, by rw [heap_setCell_other _ _ _ _ (by show w.heap.size ≠ w6.heap.size; omega)]; exact HZ6.out, by rw [linT, ← List.append_assoc, HPX.out]; exact HO6.out.kept hk6 (ne_own (fun q hq => by have := (World.ownsRow.lt HO6.out q hq).1; omega)), HB6.out.setCell (by show w.heap.size ≤ w6.heap.size; omega) _, by simp only [World.setCell]; simp; omega⟩, by simp only [intOf]; omega⟩
      · try simp only [List.getElem_toArray, List.getElem_cons_succ, List.getElem_cons_zero]
        go_wp2_with fail
        have SN := Lib.hid (brefl v0)
        have SN_HG := HG
        have SN_HZ := HZ
        have SN_HO := HO
        have SN_le_HB := HB.out.size
        have SN_le_SV := SV.out.size
        have hv := ba (brefl v0) (.cells #[.int .i64 0, .int .i64 0, .int .i64 0] 78)
        have hr10 := heap_alloc_new v0 (.cells #[.int .i64 0, .int .i64 0, .int .i64 0] 78)
        refine ⟨w.heap.size, hv.mono SZ, Nat.le_refl _, ?_⟩
        replace HG := Lib.hid ((hv.block _ (row_lt HG.out)).trans HG.out)
        replace HZ := Lib.hid ((hv.block _ (row_lt HZ.out)).trans HZ.out)
        replace HO := Lib.hid (HO.out.keep hv)
        replace HB := Lib.hid (HB.out.trans (hv.mono HB.out.size))
        replace SV := Lib.hid (SV.out.trans (hv.mono SV.out.size))
        replace SN := Lib.hid (SN.out.trans (hv.mono SN.out.size))
        replace SZ := Nat.le_trans SZ hv.size
        have R10 := Lib.hid hr10
        clear hr10 hv
        generalize (v0.alloc (.cells #[.int .i64 0, .int .i64 0, .int .i64 0] 78)) = z1 at *
        refine Tin.reg_one 5 _ rfl (by kernel_rfl) ?_
        try simp only [List.getElem_toArray, List.getElem_cons_succ, List.getElem_cons_zero]
        go_wp2_with fail
        refine (rnear_any (wd : Int) (ht : Int) x y A0 c0 v _ (HV0.out.keep HB.out) (mayP_W HMM.out.1) (mayP_H HMM.out.1) (mayP_n HMM.out.1) (by omega) (by omega)).mono ?_
        rintro e z2 ⟨rfl, hv⟩
        go_wp2_with fail
        refine ⟨w.heap.size, hv.mono SZ, Nat.le_refl _, ?_⟩
        replace HG := Lib.hid ((hv.block _ (row_lt HG.out)).trans HG.out)
        replace HZ := Lib.hid ((hv.block _ (row_lt HZ.out)).trans HZ.out)
        replace HO := Lib.hid (HO.out.keep hv)
        replace R10 := Lib.hid ((hv.block _ (row_lt R10.out)).trans R10.out)
        replace HB := Lib.hid (HB.out.trans (hv.mono HB.out.size))
        replace SV := Lib.hid (SV.out.trans (hv.mono SV.out.size))
        replace SN := Lib.hid (SN.out.trans (hv.mono SN.out.size))
        replace SZ := Nat.le_trans SZ hv.size
        clear hv
        refine Tin.reg_one 15 _ rfl (by kernel_rfl) ?_
        try simp only [List.getElem_toArray, List.getElem_cons_succ, List.getElem_cons_zero]
        go_wp2_with fail
        refine (rnear_any W1 H1 ((x : Int) / fx) ((y : Int) / fy) A1 c1 v1 _ (HV1.out.keep HB.out) (mayP_W HMM.out.2.1) (mayP_H HMM.out.2.1) (mayP_n HMM.out.2.1) (by omega) (by omega)).mono ?_
        rintro e z3 ⟨rfl, hv⟩
        go_wp2_with fail
        refine ⟨w.heap.size, hv.mono SZ, Nat.le_refl _, ?_⟩
        replace HG := Lib.hid ((hv.block _ (row_lt HG.out)).trans HG.out)
        replace HZ := Lib.hid ((hv.block _ (row_lt HZ.out)).trans HZ.out)
        replace HO := Lib.hid (HO.out.keep hv)
        replace R10 := Lib.hid ((hv.block _ (row_lt R10.out)).trans R10.out)
        replace HB := Lib.hid (HB.out.trans (hv.mono HB.out.size))
        replace SV := Lib.hid (SV.out.trans (hv.mono SV.out.size))
        replace SN := Lib.hid (SN.out.trans (hv.mono SN.out.size))
        replace SZ := Nat.le_trans SZ hv.size
        clear hv
        refine Tin.reg_one 25 _ rfl (by kernel_rfl) ?_
        try simp only [List.getElem_toArray, List.getElem_cons_succ, List.getElem_cons_zero]
        go_wp2_with fail
        refine (rnear_any W1 H1 ((x : Int) / fx) ((y : Int) / fy) A2 c2 v2 _ (HV2.out.keep HB.out) (mayP_W HMM.out.2.2) (mayP_H HMM.out.2.2) (mayP_n HMM.out.2.2) (by omega) (by omega)).mono ?_
        rintro e z4 ⟨rfl, hv⟩
        go_wp2_with fail
        refine ⟨w.heap.size, hv.mono SZ, Nat.le_refl _, ?_⟩
        replace HG := Lib.hid ((hv.block _ (row_lt HG.out)).trans HG.out)
        replace HZ := Lib.hid ((hv.block _ (row_lt HZ.out)).trans HZ.out)
        replace HO := Lib.hid (HO.out.keep hv)
        replace R10 := Lib.hid ((hv.block _ (row_lt R10.out)).trans R10.out)
        replace HB := Lib.hid (HB.out.trans (hv.mono HB.out.size))
        replace SV := Lib.hid (SV.out.trans (hv.mono SV.out.size))
        replace SN := Lib.hid (SN.out.trans (hv.mono SN.out.size))
        replace SZ := Nat.le_trans SZ hv.size
        clear hv
        refine Tin.reg_one 26 _ rfl (by kernel_rfl) ?_
        try simp only [List.getElem_toArray, List.getElem_cons_succ, List.getElem_cons_zero]
        go_wp2_with fail
        refine (rpaint_any (nearV (wd : Int) (ht : Int) v x y) (nearV W1 H1 v1 ((x : Int) / fx) ((y : Int) / fy)) (nearV W1 H1 v2 ((x : Int) / fx) ((y : Int) / fy)) _).mono ?_
        rintro e z5 ⟨rfl, hv⟩
        go_wp2_with fail
        refine ⟨w.heap.size, hv.mono SZ, Nat.le_refl _, ?_⟩
        replace HG := Lib.hid ((hv.block _ (row_lt HG.out)).trans HG.out)
        replace HZ := Lib.hid ((hv.block _ (row_lt HZ.out)).trans HZ.out)
        replace HO := Lib.hid (HO.out.keep hv)
        replace R10 := Lib.hid ((hv.block _ (row_lt R10.out)).trans R10.out)
        replace HB := Lib.hid (HB.out.trans (hv.mono HB.out.size))
        replace SV := Lib.hid (SV.out.trans (hv.mono SV.out.size))
        replace SN := Lib.hid (SN.out.trans (hv.mono SN.out.size))
        replace SZ := Nat.le_trans SZ hv.size
        clear hv
        refine Tin.reg_one 28 _ rfl (by kernel_rfl) ?_
        try simp only [List.getElem_toArray, List.getElem_cons_succ, List.getElem_cons_zero]
        go_wp2_with ((with_reducible refine wpl_store_row rt3 ?_ (.tmp 10) (.tmp 63) ?_ (v0.heap.size) ?_ (#[.int .i64 (paiR (nearV (wd : Int) (ht : Int) v x y) (nearV W1 H1 v1 ((x : Int) / fx) ((y : Int) / fy)) (nearV W1 H1 v2 ((x : Int) / fx) ((y : Int) / fy))), .int .i64 (paiG (nearV (wd : Int) (ht : Int) v x y) (nearV W1 H1 v1 ((x : Int) / fx) ((y : Int) / fy)) (nearV W1 H1 v2 ((x : Int) / fx) ((y : Int) / fy))), .int .i64 (paiB (nearV (wd : Int) (ht : Int) v x y) (nearV W1 H1 v1 ((x : Int) / fx) ((y : Int) / fy)) (nearV W1 H1 v2 ((x : Int) / fx) ((y : Int) / fy)))]) ?_ (in_one _ _ _) 78 ?_ (#[.int .i64 0, .int .i64 0, .int .i64 0]) ?_ R10.out ?_); rfl; rfl; rfl; rfl; rfl; rfl; intro z6 hr10 hg10 hs10)
        have hb10 : Below (v0.heap.size) z5 z6 := (Below.refl _ _).grown hg10 SN.out.size (fun k hk => by cases hk; exact Nat.le_refl _)
        refine ⟨w.heap.size, hb10.mono (by have := SV.out.size; have := SN_le_SV; have := SN_le_HB; omega), Nat.le_refl _, ?_⟩
        clear R10
        replace SN := Lib.hid (SN.out.trans hb10)
        replace HG := Lib.hid ((SN.out.block _ (row_lt SN_HG.out)).trans SN_HG.out)
        replace HZ := Lib.hid ((SN.out.block _ (row_lt SN_HZ.out)).trans SN_HZ.out)
        replace HO := Lib.hid (SN_HO.out.keep SN.out)
        replace HB := Lib.hid (HB.out.trans (hb10.mono SN_le_HB))
        replace SV := Lib.hid (SV.out.trans (hb10.mono SN_le_SV))
        replace SZ := Nat.le_trans SZ hg10.size
        have R10 := Lib.hid hr10
        clear hr10 hg10 hs10 hb10
        refine Tin.reg_done (by kernel_rfl) ?_
        generalize paiR (nearV (wd : Int) (ht : Int) v x y) (nearV W1 H1 v1 ((x : Int) / fx) ((y : Int) / fy)) (nearV W1 H1 v2 ((x : Int) / fx) ((y : Int) / fy)) = P0 at *
        generalize paiG (nearV (wd : Int) (ht : Int) v x y) (nearV W1 H1 v1 ((x : Int) / fx) ((y : Int) / fy)) (nearV W1 H1 v2 ((x : Int) / fx) ((y : Int) / fy)) = P1 at *
        generalize paiB (nearV (wd : Int) (ht : Int) v x y) (nearV W1 H1 v1 ((x : Int) / fx) ((y : Int) / fy)) (nearV W1 H1 v2 ((x : Int) / fx) ((y : Int) / fy)) = P2 at *
        have HLO := Lib.hid (World.ownsRow.lt HO.out)
        have k2 := row_cell (v := .slice A3 n c3) HG.out 2 rfl
        have HSZ : w6.heap.size + 1 ≤ z6.heap.size := Nat.le_trans hgs0 SV.out.size
        have j0 := row_cell (v := .int .i64 P0) R10.out 0 rfl
        have j1 := row_cell (v := .int .i64 P1) R10.out 1 rfl
        have j2 := row_cell (v := .int .i64 P2) R10.out 2 rfl
        go_wp2_with (at_builtin; refine Tin.wpl_app bt5 _ rfl (.tmp 65) (.tmp 75) rfl (w6.heap.size + 1) (.slice A3 n c3) (gridT (pixV (wd : Int) (ht : Int) v W1 H1 v1 v2 fx fy) wd y ++ linT (pixV (wd : Int) (ht : Int) v W1 H1 v1 v2 fx fy) y x) rfl (HO.out.alloc _) (some ⟨z6.heap.size, 0, none⟩) 3 3 [P0, P1, P2] rfl (Sl.new_ _ _ _ _ rfl) rfl (by simp only [List.length_cons, List.length_nil]; omega) (by simp only [List.length_cons, List.length_nil]; omega) (by simp; omega) ?_; intro x6 q6 ho6 hg6 how6; obtain ⟨A6, c6, rfl⟩ := own_form ho6; obtain ⟨n6, hn6⟩ : ∃ n6, ((gridT (pixV (wd : Int) (ht : Int) v W1 H1 v1 v2 fx fy) wd y ++ linT (pixV (wd : Int) (ht : Int) v W1 H1 v1 v2 fx fy) y x) ++ [P0, P1, P2]).length = n6 := ⟨_, rfl⟩; rw [hn6] at ho6 how6 ⊢; have HN6 := Lib.hid hn6; clear hn6; have hgg := (World.grownBy_alloc z6 (.cells #[.int .u8 P0, .int .u8 P1, .int .u8 P2] 5) (Value.slice A3 n c3).ownBlock).trans hg6; have HO6 := Lib.hid ho6; have HG6 := Lib.hid ((hgg.block _ (row_lt HG.out) (fun e => by have := (HLO.out _ e.symm).1; omega)).trans HG.out); have HZ6 := Lib.hid ((hgg.block _ (row_lt HZ.out) (fun e => by have := (HLO.out _ e.symm).1; omega)).trans HZ.out); have HB6 := Lib.hid (HB.out.grown hgg HB.out.size (fun q hq => by have := (HLO.out q hq).1; omega)); have hz6 : w6.heap.size + 1 ≤ q6.heap.size := Nat.le_trans HSZ hgg.size; have cc6 := row_cell (v := .slice A3 n c3) HG6.out 2 rfl; have f6 := frozen_of_row q6 w6.heap.size 2 _ _ HG6.out; clear ho6 hg6 how6 hgg; simp only [Act.put, List.setIfInBounds_toArray, List.set_cons_succ, List.set_cons_zero])
        have hk6 := grown_setCells w6.heap.size [.slice A6 n6 c6] 2 q6 q6 (World.grownBy.refl q6 _)
        exact ⟨⟨x + 1, A6, n6, c6, by omega, rfl, row_set HG6.out 2 _, by rw [heap_setCell_other _ _ _ _ (by show w.heap.size ≠ w6.heap.size; omega)]; exact HZ6.out, by rw [linT, ← List.append_assoc, HPX.out]; exact HO6.out.kept hk6 (ne_own (fun q hq => by have := (World.ownsRow.lt HO6.out q hq).1; omega)), HB6.out.setCell (by show w.heap.size ≤ w6.heap.size; omega) _, by simp only [World.setCell]; simp; omega⟩, by simp only [intOf]; omega⟩
end Go.Proofs.Ytajobboldjgidaa
