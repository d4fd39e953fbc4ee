/- The contracts of the references Divide and Multiply. -/
import Derived.Test.YtaahphocoedmdaaQuE
namespace Go.Proofs.Ytaahphocoedmdaa
open Go.RowKit
open Go.Tin
set_option linter.unusedVariables false
set_option linter.unusedSimpArgs false


theorem doneB_bd {a b : List Int} (ha : a.length = 64) (hb : b.length = 64) (h : doneB a b = true) (i : Nat) (hi : i < 64) : -1048576 ≤ nth a i ∧ nth a i ≤ 1048576 ∧ 1 ≤ nth b i ∧ nth b i ≤ 255 := by
  unfold doneB at h
  rw [Bool.and_eq_true] at h
  have h1 := inL_t h.1 i (by omega)
  have h2 := inL_t h.2 i (by omega)
  exact ⟨h2.1, h2.2, h1.1, h1.2⟩
set_option maxRecDepth 100000 in
set_option maxHeartbeats 4000000 in
theorem rdivide_any (a b : List Int) (ha : a.length = 64) (hb : b.length = 64) (w : World) (hyes : doneB a b = true) :
    Calls Try.prog 16 #[.agg (arr .i64 a), .agg (arr .i64 b)] w fun e w' => e = .returned (.agg (arr .i64 (eachL nearI a b))) ∧ Below w.heap.size w w' := by
  have HA := Lib.hid ha
  have HB := Lib.hid hb
  have HY := Lib.hid (doneB_bd ha hb hyes)
  clear ha hb hyes
  go_enter Try.func16, Try.ntmps16
  go_wp2_with fail
  generalize hW0 : (((w.alloc _).alloc _).alloc _).alloc _ = W0 at *
  obtain ⟨g0, g1, g2, g3, hB0, hz0⟩ : W0.heap[w.heap.size]? = some (.cells (arr .i64 a) 23 (0, 0)) ∧ W0.heap[w.heap.size + 1]? = some (.cells (arr .i64 b) 23 (0, 0)) ∧ W0.heap[w.heap.size + 2]? = some (.cells (arr .i64 (List.replicate 64 0)) 23 (0, 0)) ∧ W0.heap[w.heap.size + 3]? = some (.cells (arr .i64 (List.replicate 64 0)) 23 (0, 0)) ∧ Below w.heap.size w W0 ∧ W0.heap.size = w.heap.size + 4 := by
    rw [← hW0]
    exact alloc4 w (.cells (arr .i64 a) 23) (.cells (arr .i64 b) 23) (.cells (arr .i64 (List.replicate 64 0)) 23) (.cells (arr .i64 (List.replicate 64 0)) 23)
  have e0 : eachT nearI a b 0 = List.replicate 64 0 := tell_zero _ _
  rw [← e0] at g3
  clear hW0 e0
  go_loopw [6] (fun s6 wr => ∃ (i : Nat), i ≤ 64 ∧ s6 = .int .i64 (i : Int) ∧ wr.heap[w.heap.size]? = some (.cells (arr .i64 a) 23 (0, 0)) ∧ wr.heap[w.heap.size + 1]? = some (.cells (arr .i64 b) 23 (0, 0)) ∧ wr.heap[w.heap.size + 2]? = some (.cells (arr .i64 (List.replicate 64 0)) 23 (0, 0)) ∧ wr.heap[w.heap.size + 3]? = some (.cells (arr .i64 (eachT nearI a b i)) 23 (0, 0)) ∧ Below w.heap.size w wr ∧ w.heap.size + 4 ≤ wr.heap.size) (fun s6 _ => 64 - (intOf s6).toNat)
  case atStart => exact ⟨0, by omega, rfl, g0, g1, g2, g3, hB0, by omega⟩
  case round =>
    clear g0 g1 g2 g3 hB0 hz0
    obtain ⟨i, hi, rfl, g0, g1, g2, g3, hB, hz⟩ := hrel
    by_cases hi64 : i < 64
    · have i1 : (i : Int) < 64 := by omega
      have k0 := row_cell g0 i (arr_get i (by rw [HA.out]; exact hi64))
      have k1 := row_cell g1 i (arr_get i (by rw [HB.out]; exact hi64))
      have lift : ∀ (g : Nat) (v : Value), g < w.heap.size + 3 → wr.cell? ⟨g, i, none⟩ = some v → ∀ p : Bel (w.heap.size + 3) wr.drew, p.w'.cell? ⟨g, i, none⟩ = some v := fun g v hg hc p => (p.h.cell (p := ⟨g, i, none⟩) hg).trans hc
      have q0 := lift _ _ (by omega) k0
      have q1 := lift _ _ (by omega) k1
      clear lift k0 k1
      have G0 := Lib.hid g0
      have G1 := Lib.hid g1
      have G2 := Lib.hid g2
      have G3 := Lib.hid g3
      clear g0 g1 g2 g3
      have c3 : wr.cell? ⟨w.heap.size + 3, i, none⟩ = some (.int .i64 0) := by
        rw [row_cell G3.out i (arr_get i (by simp; exact hi64))]
        unfold eachT
        rw [nth_tell _ _ _ _ hi64, if_neg (by omega)]
      have f3 : wr.frozen? ⟨w.heap.size + 3, i, none⟩ = false := frozen_of_row wr _ i _ _ G3.out
      have hset : (wr.drew.setCell ⟨w.heap.size + 3, i, none⟩ (.int .i64 (nearI (nth a i) (nth b i)))).heap[w.heap.size + 3]? = some (.cells (arr .i64 (eachT nearI a b (i + 1))) 23 (0, 0)) := by
        unfold eachT
        rw [← tell_set 64 _ i hi64]
        have := blk_set (W := wr.drew) G3.out i (nearI (nth a i) (nth b i))
        exact this
      have HSet := Lib.hid hset
      clear hset
      obtain ⟨x0, x1, y0, y1⟩ := HY.out i hi64
      clear HY
      go_wp2_with fail
      refine Tin.reg_begin (w.heap.size + 3) 10 (by rfl) (by kernel_rfl) ?_
      refine Tin.reg_quiets [0, 1, 2, 3, 4, 5, 6] _ 3 rfl (by simp only [Tin.pick, List.map_cons, List.map_nil, Array.getD_eq_getD_getElem?, List.getElem?_toArray, List.getElem?_cons_zero, List.getElem?_cons_succ, Option.getD_some]; rfl) (by kernel_rfl) (by kernel_rfl) ?_
      repeat (first | go_big_quiet_step (fail))
      refine wpQuiet_nil ?_
      refine Tin.reg_one 7 _ rfl (by kernel_rfl) ?_
      try simp only [List.getElem_toArray, List.getElem_cons_succ, List.getElem_cons_zero]
      go_wp2_with fail
      refine Calls.mono (rnear_any (nth a i) (nth b i) _ (by omega) (by omega) y0 y1) ?_
      rintro e w1 ⟨rfl, rfl⟩
      go_wp2_with fail
      refine ⟨w.heap.size + 3, Below.refl _ _, Nat.le_refl _, ?_⟩
      refine Tin.reg_quiets [8] _ 1 rfl (by simp only [Tin.pick, List.map_cons, List.map_nil, Array.getD_eq_getD_getElem?, List.getElem?_toArray, List.getElem?_cons_zero, List.getElem?_cons_succ, Option.getD_some]; rfl) (by kernel_rfl) (by kernel_rfl) ?_
      repeat (first | go_big_quiet_step (fail))
      refine wpQuiet_nil ?_
      refine Tin.reg_one 9 _ rfl (by kernel_rfl) ?_
      try simp only [List.getElem_toArray, List.getElem_cons_succ, List.getElem_cons_zero]
      go_wp2_with fail
      refine ⟨w.heap.size + 3, (show Below (w.heap.size + 3) wr.drew (wr.drew.setCell ⟨w.heap.size + 3, i, none⟩ (.int .i64 (nearI (nth a i) (nth b i)))) from bset (Below.refl _ _) _ _ _ (Nat.le_refl _)), Nat.le_refl _, ?_⟩
      refine Tin.reg_done (by kernel_rfl) ?_
      obtain ⟨w5, hw5⟩ : ∃ w5, w5 = (wr.setCell ⟨w.heap.size + 1 + 1 + 1, i, none⟩ (.int .i64 (nearI (nth a i) (nth b i)))).drew := ⟨_, rfl⟩
      rw [← hw5]
      have hB5 : Below w.heap.size w w5 := by rw [hw5]; exact bset hB.drew _ _ _ (by omega)
      have g0 := Lib.hid (show w5.heap[w.heap.size]? = some (.cells (arr .i64 a) 23 (0, 0)) by rw [hw5]; exact (heap_setCell_other wr.drew ⟨w.heap.size + 3, i, none⟩ w.heap.size (.int .i64 (nearI (nth a i) (nth b i))) (by show w.heap.size ≠ w.heap.size + 3; omega)).trans G0.out)
      have g1 := Lib.hid (show w5.heap[w.heap.size + 1]? = some (.cells (arr .i64 b) 23 (0, 0)) by rw [hw5]; exact (heap_setCell_other wr.drew ⟨w.heap.size + 3, i, none⟩ (w.heap.size + 1) (.int .i64 (nearI (nth a i) (nth b i))) (by show w.heap.size + 1 ≠ w.heap.size + 3; omega)).trans G1.out)
      have g2 := Lib.hid (show w5.heap[w.heap.size + 2]? = some (.cells (arr .i64 (List.replicate 64 0)) 23 (0, 0)) by rw [hw5]; exact (heap_setCell_other wr.drew ⟨w.heap.size + 3, i, none⟩ (w.heap.size + 2) (.int .i64 (nearI (nth a i) (nth b i))) (by show w.heap.size + 2 ≠ w.heap.size + 3; omega)).trans G2.out)
      have g3 := Lib.hid (show w5.heap[w.heap.size + 3]? = some (.cells (arr .i64 (eachT nearI a b (i + 1))) 23 (0, 0)) by rw [hw5]; exact HSet.out)
      have hz5 : w.heap.size + 4 ≤ w5.heap.size := by rw [hw5]; show w.heap.size + 4 ≤ (wr.drew.setCell ⟨w.heap.size + 3, i, none⟩ (.int .i64 (nearI (nth a i) (nth b i)))).heap.size; simpa [World.setCell] using hz
      clear hw5 HSet
      clear G0 G1 G2 G3 q0 q1 c3 f3
      go_wp2_with fail
      go_roundw
      case rel => exact ⟨i + 1, by omega, by go_num, g0.out, g1.out, g2.out, g3.out, hB5, hz5⟩
      case measure => simp [intOf]; omega
    · obtain rfl : i = 64 := by omega
      have G2 := Lib.hid g2
      have e5 : eachT nearI a b 64 = eachL nearI a b := tell_all _ _
      rw [e5] at g3
      have G3 := Lib.hid g3
      clear g0 g1 g2 g3 e5
      go_wp2_with (first | ((with_reducible refine wpl_load_arr at27 ?_ (.tmp 5) rfl (w.heap.size + 3) rfl 23 (eachL_len nearI a b) G3.out ?_); rfl; simp only [Act.put, List.setIfInBounds_toArray, List.set_cons_succ, List.set_cons_zero]) | (with_reducible refine wpl_store_arr at27 rfl (.tmp 4) (.tmp 20) rfl (w.heap.size + 2) rfl rfl 23 (eachL_len nearI a b) _ (by simp) G2.out ?_; intro w6 hr6 hg6 hs6))
      exact bodyPost_ret (res_arr at27 rfl _ _ (w.heap.size + 2) 23 rfl (eachL_len nearI a b) hr6) rfl ⟨rfl, hB.grown hg6 hB.size (fun k hk => by cases hk; omega)⟩

set_option maxRecDepth 100000 in
set_option maxHeartbeats 4000000 in
theorem rmultiply_any (a b : List Int) (ha : a.length = 64) (hb : b.length = 64) (w : World) (hyes : doneB a b = true) :
    Calls Try.prog 17 #[.agg (arr .i64 a), .agg (arr .i64 b)] w fun e w' => e = .returned (.agg (arr .i64 (eachL mulI a b))) ∧ Below w.heap.size w w' := by
  have HA := Lib.hid ha
  have HB := Lib.hid hb
  have HY := Lib.hid (doneB_bd ha hb hyes)
  clear ha hb hyes
  go_enter Try.func17, Try.ntmps17
  go_wp2_with fail
  generalize hW0 : (((w.alloc _).alloc _).alloc _).alloc _ = W0 at *
  obtain ⟨g0, g1, g2, g3, hB0, hz0⟩ : W0.heap[w.heap.size]? = some (.cells (arr .i64 a) 23 (0, 0)) ∧ W0.heap[w.heap.size + 1]? = some (.cells (arr .i64 b) 23 (0, 0)) ∧ W0.heap[w.heap.size + 2]? = some (.cells (arr .i64 (List.replicate 64 0)) 23 (0, 0)) ∧ W0.heap[w.heap.size + 3]? = some (.cells (arr .i64 (List.replicate 64 0)) 23 (0, 0)) ∧ Below w.heap.size w W0 ∧ W0.heap.size = w.heap.size + 4 := by
    rw [← hW0]
    exact alloc4 w (.cells (arr .i64 a) 23) (.cells (arr .i64 b) 23) (.cells (arr .i64 (List.replicate 64 0)) 23) (.cells (arr .i64 (List.replicate 64 0)) 23)
  have e0 : eachT mulI a b 0 = List.replicate 64 0 := tell_zero _ _
  rw [← e0] at g3
  clear hW0 e0
  go_loopw [6] (fun s6 wr => ∃ (i : Nat), i ≤ 64 ∧ s6 = .int .i64 (i : Int) ∧ wr.heap[w.heap.size]? = some (.cells (arr .i64 a) 23 (0, 0)) ∧ wr.heap[w.heap.size + 1]? = some (.cells (arr .i64 b) 23 (0, 0)) ∧ wr.heap[w.heap.size + 2]? = some (.cells (arr .i64 (List.replicate 64 0)) 23 (0, 0)) ∧ wr.heap[w.heap.size + 3]? = some (.cells (arr .i64 (eachT mulI a b i)) 23 (0, 0)) ∧ Below w.heap.size w wr ∧ w.heap.size + 4 ≤ wr.heap.size) (fun s6 _ => 64 - (intOf s6).toNat)
  case atStart => exact ⟨0, by omega, rfl, g0, g1, g2, g3, hB0, by omega⟩
  case round =>
    clear g0 g1 g2 g3 hB0 hz0
    obtain ⟨i, hi, rfl, g0, g1, g2, g3, hB, hz⟩ := hrel
    by_cases hi64 : i < 64
    · have i1 : (i : Int) < 64 := by omega
      have k0 := row_cell g0 i (arr_get i (by rw [HA.out]; exact hi64))
      have k1 := row_cell g1 i (arr_get i (by rw [HB.out]; exact hi64))
      have lift : ∀ (g : Nat) (v : Value), g < w.heap.size + 3 → wr.cell? ⟨g, i, none⟩ = some v → ∀ p : Bel (w.heap.size + 3) wr.drew, p.w'.cell? ⟨g, i, none⟩ = some v := fun g v hg hc p => (p.h.cell (p := ⟨g, i, none⟩) hg).trans hc
      have q0 := lift _ _ (by omega) k0
      have q1 := lift _ _ (by omega) k1
      clear lift k0 k1
      have G0 := Lib.hid g0
      have G1 := Lib.hid g1
      have G2 := Lib.hid g2
      have G3 := Lib.hid g3
      clear g0 g1 g2 g3
      have c3 : wr.cell? ⟨w.heap.size + 3, i, none⟩ = some (.int .i64 0) := by
        rw [row_cell G3.out i (arr_get i (by simp; exact hi64))]
        unfold eachT
        rw [nth_tell _ _ _ _ hi64, if_neg (by omega)]
      have f3 : wr.frozen? ⟨w.heap.size + 3, i, none⟩ = false := frozen_of_row wr _ i _ _ G3.out
      have hset : (wr.drew.setCell ⟨w.heap.size + 3, i, none⟩ (.int .i64 (nth a i * nth b i))).heap[w.heap.size + 3]? = some (.cells (arr .i64 (eachT mulI a b (i + 1))) 23 (0, 0)) := by
        unfold eachT
        rw [← tell_set 64 _ i hi64]
        have := blk_set (W := wr.drew) G3.out i (nth a i * nth b i)
        exact this
      have HSet := Lib.hid hset
      clear hset
      obtain ⟨x0, x1, y0, y1⟩ := HY.out i hi64
      obtain ⟨m0, m1⟩ := prod_bd x0 x1 (show 0 ≤ nth b i by omega) y1 (by decide)
      go_wp2_with fail
      refine Tin.reg_begin (w.heap.size + 3) 10 (by rfl) (by kernel_rfl) ?_
      refine Tin.reg_quiets [0, 1, 2, 3, 4, 5, 6, 7, 8] _ 1 rfl (by simp only [Tin.pick, List.map_cons, List.map_nil, Array.getD_eq_getD_getElem?, List.getElem?_toArray, List.getElem?_cons_zero, List.getElem?_cons_succ, Option.getD_some]; rfl) (by kernel_rfl) (by kernel_rfl) ?_
      repeat (first | go_big_quiet_step (fail))
      refine wpQuiet_nil ?_
      refine Tin.reg_one 9 _ rfl (by kernel_rfl) ?_
      try simp only [List.getElem_toArray, List.getElem_cons_succ, List.getElem_cons_zero]
      go_wp2_with fail
      refine ⟨w.heap.size + 3, (show Below (w.heap.size + 3) wr.drew (wr.drew.setCell ⟨w.heap.size + 3, i, none⟩ (.int .i64 (nth a i * nth b i))) from bset (Below.refl _ _) _ _ _ (Nat.le_refl _)), Nat.le_refl _, ?_⟩
      refine Tin.reg_done (by kernel_rfl) ?_
      obtain ⟨w5, hw5⟩ : ∃ w5, w5 = (wr.setCell ⟨w.heap.size + 1 + 1 + 1, i, none⟩ (.int .i64 (nth a i * nth b i))).drew := ⟨_, rfl⟩
      rw [← hw5]
      have hB5 : Below w.heap.size w w5 := by rw [hw5]; exact bset hB.drew _ _ _ (by omega)
      have g0 := Lib.hid (show w5.heap[w.heap.size]? = some (.cells (arr .i64 a) 23 (0, 0)) by rw [hw5]; exact (heap_setCell_other wr.drew ⟨w.heap.size + 3, i, none⟩ w.heap.size (.int .i64 (nth a i * nth b i)) (by show w.heap.size ≠ w.heap.size + 3; omega)).trans G0.out)
      have g1 := Lib.hid (show w5.heap[w.heap.size + 1]? = some (.cells (arr .i64 b) 23 (0, 0)) by rw [hw5]; exact (heap_setCell_other wr.drew ⟨w.heap.size + 3, i, none⟩ (w.heap.size + 1) (.int .i64 (nth a i * nth b i)) (by show w.heap.size + 1 ≠ w.heap.size + 3; omega)).trans G1.out)
      have g2 := Lib.hid (show w5.heap[w.heap.size + 2]? = some (.cells (arr .i64 (List.replicate 64 0)) 23 (0, 0)) by rw [hw5]; exact (heap_setCell_other wr.drew ⟨w.heap.size + 3, i, none⟩ (w.heap.size + 2) (.int .i64 (nth a i * nth b i)) (by show w.heap.size + 2 ≠ w.heap.size + 3; omega)).trans G2.out)
      have g3 := Lib.hid (show w5.heap[w.heap.size + 3]? = some (.cells (arr .i64 (eachT mulI a b (i + 1))) 23 (0, 0)) by rw [hw5]; exact HSet.out)
      have hz5 : w.heap.size + 4 ≤ w5.heap.size := by rw [hw5]; show w.heap.size + 4 ≤ (wr.drew.setCell ⟨w.heap.size + 3, i, none⟩ (.int .i64 (nth a i * nth b i))).heap.size; simpa [World.setCell] using hz
      clear hw5 HSet
      clear G0 G1 G2 G3 q0 q1 c3 f3
      go_wp2_with fail
      go_roundw
      case rel => exact ⟨i + 1, by omega, by go_num, g0.out, g1.out, g2.out, g3.out, hB5, hz5⟩
      case measure => simp [intOf]; omega
    · obtain rfl : i = 64 := by omega
      have G2 := Lib.hid g2
      have e5 : eachT mulI a b 64 = eachL mulI a b := tell_all _ _
      rw [e5] at g3
      have G3 := Lib.hid g3
      clear g0 g1 g2 g3 e5
      go_wp2_with (first | ((with_reducible refine wpl_load_arr at27 ?_ (.tmp 5) rfl (w.heap.size + 3) rfl 23 (eachL_len mulI a b) G3.out ?_); rfl; simp only [Act.put, List.setIfInBounds_toArray, List.set_cons_succ, List.set_cons_zero]) | (with_reducible refine wpl_store_arr at27 rfl (.tmp 4) (.tmp 20) rfl (w.heap.size + 2) rfl rfl 23 (eachL_len mulI a b) _ (by simp) G2.out ?_; intro w6 hr6 hg6 hs6))
      exact bodyPost_ret (res_arr at27 rfl _ _ (w.heap.size + 2) 23 rfl (eachL_len mulI a b) hr6) rfl ⟨rfl, hB.grown hg6 hB.size (fun k hk => by cases hk; omega)⟩
end Go.Proofs.Ytaahphocoedmdaa
