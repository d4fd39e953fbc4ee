/- The walk of CosineDoes. -/
import Derived.Test.YtmfipjpmfigjaaaL
import Derived.Test.YtmfipjpmfigjaaaM
namespace Go.Proofs.Ytmfipjpmfigjaaa
open Go.RowKit
open Go.Tin
set_option linter.unusedVariables false
set_option linter.unusedSimpArgs false

theorem zl_len : (List.replicate 64 (0 : Int)).length = 64 := by simp
set_option maxRecDepth 100000 in
set_option maxHeartbeats 4000000 in
theorem does_any (l : List Int) (w : World) (hl : l.length = 64) (hw : ∀ z ∈ l, (Lit.int .i64 z).wf = true) : Calls Try.prog 4 #[.agg (arr .i64 l)] w fun e w' => e = .returned (.bool true) ∧ Below w.heap.size w w' := by
  clear hw
  have F1 := Lib.hid (fun W => forward_any l hl W)
  have F2 := Lib.hid (fun W => inverse_any l hl W)
  have F3 := Lib.hid (fun W => rmay_any l hl W)
  have D1 := Lib.hid (dctL_len fwdF l)
  have D2 := Lib.hid (dctL_len invF l)
  have HL := Lib.hid hl
  go_enter Try.func4, Try.ntmps4
  have q0 := heap_alloc_new w (.cells (arr .i64 l) 26)
  have hB := ba (brefl w) (.cells (arr .i64 l) 26)
  have g0 : w.heap.size < (w.alloc (.cells (arr .i64 l) 26)).heap.size := by simp
  have H0 := Lib.hid q0
  clear q0
  go_wp2_with ((with_reducible refine wpl_load_row rt26 ?_ (.tmp 1) rfl (w.heap.size) rfl 26 _ ?_ H0.out ?_); rfl; simp [HL.out]; simp only [Act.put, List.setIfInBounds_toArray, List.set_cons_succ, List.set_cons_zero])
  generalize w.alloc _ = W0 at *
  refine Calls.mono (F1.out W0) ?_
  rintro e w1 ⟨rfl, hb1⟩
  have H1 := Lib.hid ((hb1.block _ g0).trans H0.out)
  have hB1 := bt hB hb1
  have z1 := hb1.size
  go_wp2_with (first | (with_reducible refine wpl_store_arr at26 rfl (.tmp 3) (.tmp 10) rfl w1.heap.size rfl rfl 26 (D1.out) _ rfl (heap_alloc_new _ _) ?_; intro w1x hrx hgx hsx; have hbx : Below w1.heap.size w1 w1x := (ba (brefl w1) _).grown hgx (by simp) (fun k hk => by cases hk; exact Nat.le_refl _); have lw1 : w1.heap.size < w1x.heap.size := (by rw [hsx]; simp); have H1x := Lib.hid ((hbx.block _ (show w.heap.size < w1.heap.size by omega)).trans H1.out); have hB1x := bt hB1 hbx; have z1x := hbx.size; clear hbx; have Gw1 := Lib.hid hrx; clear hrx hgx hsx; simp only [Act.put]) | ((with_reducible refine wpl_load_row rt26 ?_ (.tmp 1) rfl (w.heap.size) rfl 26 _ ?_ H1x.out ?_); rfl; simp [HL.out]; simp only [Act.put, List.setIfInBounds_toArray, List.set_cons_succ, List.set_cons_zero]))
  refine Calls.mono (F2.out w1x) ?_
  rintro e w2 ⟨rfl, hb2⟩
  have H2 := Lib.hid ((hb2.block _ (show w.heap.size < _ by omega)).trans H1x.out)
  have G1 := Lib.hid ((hb2.block _ lw1).trans Gw1.out)
  have hB2 := bt hB1x hb2
  have z2 := hb2.size
  go_wp2_with (first | (with_reducible refine wpl_store_arr at26 rfl (.tmp 5) (.tmp 15) rfl w2.heap.size rfl rfl 26 (D2.out) _ rfl (heap_alloc_new _ _) ?_; intro w2x hrx hgx hsx; have hbx : Below w2.heap.size w2 w2x := (ba (brefl w2) _).grown hgx (by simp) (fun k hk => by cases hk; exact Nat.le_refl _); have lw2 : w2.heap.size < w2x.heap.size := (by rw [hsx]; simp); have H2x := Lib.hid ((hbx.block _ (show w.heap.size < w2.heap.size by omega)).trans H2.out); have G1x := Lib.hid ((hbx.block _ (show w1.heap.size < w2.heap.size by omega)).trans G1.out); have hB2x := bt hB2 hbx; have z2x := hbx.size; clear hbx; have Gw2 := Lib.hid hrx; clear hrx hgx hsx; simp only [Act.put]) | ((with_reducible refine wpl_load_row rt26 ?_ (.tmp 1) rfl (w.heap.size) rfl 26 _ ?_ H2x.out ?_); rfl; simp [HL.out]; simp only [Act.put, List.setIfInBounds_toArray, List.set_cons_succ, List.set_cons_zero]))
  refine Calls.mono (F3.out w2x) ?_
  rintro e w3 ⟨rfl, hb3⟩
  have hB3 := bt hB2x hb3
  have z3 := hb3.size
  have K0 := Lib.hid ((hb3.block _ (show w.heap.size < _ by omega)).trans H2x.out)
  have K1 := Lib.hid ((hb3.block _ (show w1.heap.size < _ by omega)).trans G1x.out)
  have K2 := Lib.hid ((hb3.block _ lw2).trans Gw2.out)
  have e1 : w.heap.size < w3.heap.size := by omega
  have e2 : w1.heap.size < w3.heap.size := by omega
  have e3 : w2.heap.size < w3.heap.size := by omega
  clear F1 F2 F3 H0 H1 H2 H1x H2x G1 G1x Gw1 Gw2 hb1 hb2 hb3 hB hB1 hB1x hB2 hB2x g0 lw1 lw2 z1 z2 z3
  by_cases hany : l.any bigB = true
  · have x1 : dctL fwdF l = List.replicate 64 0 := by unfold dctL; rw [if_pos hany]
    have x2 : dctL invF l = List.replicate 64 0 := by unfold dctL; rw [if_pos hany]
    have x3 : dctE l = 1 := by unfold dctE; rw [if_pos hany]
    rw [x1] at K1
    rw [x2] at K2
    simp only [x1, x2, x3, hany]
    clear x1 x2 x3 D1 D2
    go_wp2_with (first | ((with_reducible refine wpl_load_row rt26 ?_ (.tmp 3) rfl (w1.heap.size) rfl 26 _ ?_ K1.out ?_); rfl; simp [zl_len]; simp only [Act.put, List.setIfInBounds_toArray, List.set_cons_succ, List.set_cons_zero]) | ((with_reducible refine wpl_load_row rt26 ?_ (.tmp 5) rfl (w2.heap.size) rfl 26 _ ?_ K2.out ?_); rfl; simp [zl_len]; simp only [Act.put, List.setIfInBounds_toArray, List.set_cons_succ, List.set_cons_zero]) | ((with_reducible refine wpl_eq_arr at26 eg26 (l := List.replicate 64 0) (l' := List.replicate 64 0) ?_ (.tmp 20) (.tmp 21) _ rfl ?_ ?_ (zl_len) (zl_len) true ?_ ?_); rfl; rfl; rfl; exact decide_eq_true rfl; simp only [Act.put, List.setIfInBounds_toArray, List.set_cons_succ, List.set_cons_zero]) | ((with_reducible refine wpl_eq_arr at26 eg26 (l := List.replicate 64 0) (l' := List.replicate 64 0) ?_ (.tmp 24) (.tmp 25) _ rfl ?_ ?_ (zl_len) (zl_len) true ?_ ?_); rfl; rfl; rfl; exact decide_eq_true rfl; simp only [Act.put, List.setIfInBounds_toArray, List.set_cons_succ, List.set_cons_zero]))
    refine Calls.mono (awake_any w3) ?_
    rintro e w4 ⟨rfl, hb4⟩
    go_wp2_with fail
    go_ret
    exact ⟨rfl, bt hB3 hb4⟩
  · have hno : l.any bigB = false := by simpa using hany
    have x1 : dctL fwdF l = full 64 (refF fwdF l) := by unfold dctL; rw [if_neg hany, ref_dct]
    have x2 : dctL invF l = full 64 (refF invF l) := by unfold dctL; rw [if_neg hany, ref_dct]
    have x3 : dctE l = 0 := by unfold dctE; rw [if_neg hany]
    have R1 := Lib.hid (fun W => ref13_any l hl hno W)
    have R2 := Lib.hid (fun W => ref14_any l hl hno W)
    rw [x1] at K1 D1
    rw [x2] at K2 D2
    simp only [x1, x2, x3, hno]
    generalize full 64 (refF fwdF l) = L1 at *
    generalize full 64 (refF invF l) = L2 at *
    clear x1 x2 x3 hany hno hl
    go_wp2_with fail
    have E0 := Lib.hid (show w3.drew.heap[w.heap.size]? = _ from K0.out)
    have E1 := Lib.hid (show w3.drew.heap[w1.heap.size]? = _ from K1.out)
    refine Tin.reg_begin w3.heap.size 22 (by rfl) (by kernel_rfl) ?_
    refine Tin.reg_quiets [0, 1] _ 20 rfl (by simp only [Tin.pick, List.map_cons, List.map_nil, Array.getD_eq_getD_getElem?, List.getElem?_toArray, List.getElem?_cons_zero, List.getElem?_cons_succ, Option.getD_some]; rfl) (by kernel_rfl) (by kernel_rfl) ?_
    repeat (first | (first | ((with_reducible refine wpq_load_arr at26 (l := L1) ?_ (.tmp 3) rfl (w1.heap.size) rfl 26 (D1.out) (fun w' h => by obtain ⟨p, rfl⟩ := h; exact (p.h.block _ (show w1.heap.size < w3.heap.size by omega)).trans (E1.out)) ?_); rfl; simp only [Act.put, List.setIfInBounds_toArray, List.set_cons_succ, List.set_cons_zero]) | ((with_reducible refine wpq_load_arr at26 (l := l) ?_ (.tmp 1) rfl (w.heap.size) rfl 26 (HL.out) (fun w' h => by obtain ⟨p, rfl⟩ := h; exact (p.h.block _ (show w.heap.size < w3.heap.size by omega)).trans (E0.out)) ?_); rfl; simp only [Act.put, List.setIfInBounds_toArray, List.set_cons_succ, List.set_cons_zero])) | go_big_quiet_step (fail))
    refine wpQuiet_nil ?_
    refine Tin.reg_one 2 _ rfl (by kernel_rfl) ?_
    try simp only [List.getElem_toArray, List.getElem_cons_succ, List.getElem_cons_zero]
    go_wp2_with fail
    refine Calls.mono (R1.out w3.drew) ?_
    rintro e w4 ⟨rfl, hb4⟩
    have hw4 : Below w3.heap.size w3 w4 := ⟨hb4.os, hb4.tape, hb4.output, hb4.size, hb4.block⟩
    have hs4 := hw4.size
    go_wp2_with fail
    refine ⟨w3.heap.size, hb4, Nat.le_refl _, ?_⟩
    have E2 := Lib.hid ((hw4.block _ e3).trans K2.out)
    have E3 := Lib.hid ((hw4.block _ e1).trans K0.out)
    refine Tin.reg_quiets [3, 4, 5, 6] _ 15 rfl (by simp only [Tin.pick, List.map_cons, List.map_nil, Array.getD_eq_getD_getElem?, List.getElem?_toArray, List.getElem?_cons_zero, List.getElem?_cons_succ, Option.getD_some]; rfl) (by kernel_rfl) (by kernel_rfl) ?_
    repeat (first | (first | ((with_reducible refine wpq_eq_arr at26 eg26 (l := L1) (l' := L1) ?_ (.tmp 39) (.tmp 41) _ rfl ?_ ?_ (D1.out) (D1.out) true ?_ ?_); rfl; rfl; rfl; exact decide_eq_true rfl; simp only [Act.put, List.setIfInBounds_toArray, List.set_cons_succ, List.set_cons_zero]) | ((with_reducible refine wpq_load_arr at26 (l := L2) ?_ (.tmp 5) rfl (w2.heap.size) rfl 26 (D2.out) (fun w' h => by obtain ⟨p, rfl⟩ := h; exact (p.h.block _ (show w2.heap.size < w3.heap.size by omega)).trans (E2.out)) ?_); rfl; simp only [Act.put, List.setIfInBounds_toArray, List.set_cons_succ, List.set_cons_zero]) | ((with_reducible refine wpq_load_arr at26 (l := l) ?_ (.tmp 1) rfl (w.heap.size) rfl 26 (HL.out) (fun w' h => by obtain ⟨p, rfl⟩ := h; exact (p.h.block _ (show w.heap.size < w3.heap.size by omega)).trans (E3.out)) ?_); rfl; simp only [Act.put, List.setIfInBounds_toArray, List.set_cons_succ, List.set_cons_zero])) | go_big_quiet_step (fail))
    refine wpQuiet_nil ?_
    refine Tin.reg_one 7 _ rfl (by kernel_rfl) ?_
    try simp only [List.getElem_toArray, List.getElem_cons_succ, List.getElem_cons_zero]
    go_wp2_with fail
    refine Calls.mono (R2.out w4) ?_
    rintro e w5 ⟨rfl, hb5⟩
    have hw5 := bt hw4 hb5
    have hs5 := hw5.size
    go_wp2_with fail
    refine ⟨w3.heap.size, hb5.mono hs4, Nat.le_refl _, ?_⟩
    refine Tin.reg_quiets [8, 9, 10, 11, 12, 13, 14, 15, 16, 17, 18] _ 3 rfl (by simp only [Tin.pick, List.map_cons, List.map_nil, Array.getD_eq_getD_getElem?, List.getElem?_toArray, List.getElem?_cons_zero, List.getElem?_cons_succ, Option.getD_some]; rfl) (by kernel_rfl) (by kernel_rfl) ?_
    repeat (first | ((with_reducible refine wpq_eq_arr at26 eg26 (l := L2) (l' := L2) ?_ (.tmp 44) (.tmp 46) _ rfl ?_ ?_ (D2.out) (D2.out) true ?_ ?_); rfl; rfl; rfl; exact decide_eq_true rfl; simp only [Act.put, List.setIfInBounds_toArray, List.set_cons_succ, List.set_cons_zero]) | go_big_quiet_step (fail))
    refine wpQuiet_nil ?_
    refine Tin.reg_one 19 _ rfl (by kernel_rfl) ?_
    try simp only [List.getElem_toArray, List.getElem_cons_succ, List.getElem_cons_zero]
    go_wp2_with fail
    refine Calls.mono (awake_any w5) ?_
    rintro e w6 ⟨rfl, hb6⟩
    have hw6 := bt hw5 hb6
    go_wp2_with fail
    refine ⟨w3.heap.size, hb6.mono hs5, Nat.le_refl _, ?_⟩
    refine Tin.reg_quiets [20, 21] _ 0 rfl (by simp only [Tin.pick, List.map_cons, List.map_nil, Array.getD_eq_getD_getElem?, List.getElem?_toArray, List.getElem?_cons_zero, List.getElem?_cons_succ, Option.getD_some]; rfl) (by kernel_rfl) (by kernel_rfl) ?_
    repeat (first | go_big_quiet_step (fail))
    refine wpQuiet_nil ?_
    refine Tin.reg_done (by kernel_rfl) ?_
    go_wp2_with fail
    go_ret
    exact ⟨rfl, bt hB3 hw6⟩
end Go.Proofs.Ytmfipjpmfigjaaa
