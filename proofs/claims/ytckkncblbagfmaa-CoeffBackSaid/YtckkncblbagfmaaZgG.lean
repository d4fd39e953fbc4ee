/- The contracts of the references To and From. Conditions: a block has 64 numbers. -/
import Derived.Test.YtckkncblbagfmaaZgF
import Derived.Test.YtckkncblbagfmaaReg
namespace Go.Proofs.Ytckkncblbagfmaa
open Go.RowKit
open Go.Tin
set_option linter.unusedVariables false
set_option linter.unusedSimpArgs false


/-- A block of which so many numbers have been laid at their steps. -/
def toP (bs : List Int) (m : Nat) : List Int := full 64 fun j => if (zig j).toNat < m then nth bs (zig j).toNat else 0
theorem toP_len (bs : List Int) (m : Nat) : (toP bs m).length = 64 := by simp [toP]
theorem toP_end (bs : List Int) : toP bs 64 = toL bs := full_congr _ _ _ fun j hj => if_pos (by have := zig_bd j hj; omega)
theorem toP_zero (bs : List Int) : toP bs 0 = List.replicate 64 0 := by rw [← full_rep]; exact full_congr _ _ _ fun p _ => if_neg (by omega)
theorem toP_set (bs : List Int) (m : Nat) (hm : m < 64) : (toP bs m).set (unz m) (nth bs m) = toP bs (m + 1) := by
  have hu := unz_lt m hm
  have hz := zig_unz m hm
  apply List.ext_getElem?
  intro j
  rw [List.getElem?_set]
  by_cases hj : j < 64
  · have hzj := zig_bd j hj
    have huj := unz_zig j hj
    by_cases h : unz m = j
    · subst h
      rw [if_pos rfl]
      have h2 : (zig (unz m)).toNat = m := by omega
      simp only [toP, full_len, hj, if_true, full, List.getElem?_map, List.getElem?_range hj, Option.map_some, h2]
      simp [hu]
    · rw [if_neg h]
      simp only [toP, full, List.getElem?_map, List.getElem?_range hj, Option.map_some]
      congr 1
      by_cases h1 : (zig j).toNat < m
      · rw [if_pos h1, if_pos (by omega)]
      · rw [if_neg h1, if_neg (fun h2 => h (by rw [show m = (zig j).toNat from by omega]; exact huj))]
  · rw [List.getElem?_eq_none (by simp [toP]; omega), List.getElem?_eq_none (by simp [toP]; omega)]
    split <;> simp [toP]
    omega

set_option maxRecDepth 100000 in
set_option maxHeartbeats 2000000 in
theorem rfrom_any (bs : List Int) (hn : bs.length = 64) (w : World) : Calls Try.prog 27 #[.agg (arr .i64 bs)] w fun e w' => e = .returned (.agg (arr .i64 (fromL bs))) ∧ Below w.heap.size w w' := by
  have HN := Lib.hid hn
  clear hn
  go_enter Try.func27, Try.ntmps27
  go_wp2_with fail
  generalize hW0 : ((w.alloc _).alloc _).alloc _ = W0 at *
  have a0 : W0.heap[w.heap.size]? = some (.cells (arr .i64 bs) 33 (0, 0)) := by
    rw [← hW0, Below.heap_alloc _ _ _ (by simp; omega), Below.heap_alloc _ _ _ (by simp)]
    exact heap_alloc_new w _
  have r0 : W0.heap[w.heap.size + 1]? = some (.cells (arr .i64 (tell 64 (fun i => nth bs (unz i)) 0)) 33 (0, 0)) := by
    rw [← hW0, Below.heap_alloc _ _ _ (by simp), tell_zero, arr_rep]
    exact heap_alloc2_new w _ _
  have o0 : W0.heap[w.heap.size + 2]? = some (.cells (arr .i64 (tell 64 (fun i => nth bs (unz i)) 0)) 33 (0, 0)) := by
    rw [← hW0, tell_zero, arr_rep]
    have h := fun Z => heap_alloc_new ((w.alloc (Obj.cells (arr IntKind.i64 bs) 33)).alloc Z) Z
    simp only [World.size_alloc] at h
    exact h _
  have b0 : Below w.heap.size w W0 := by rw [← hW0]; exact ba (ba (ba (brefl w) _) _) _
  clear hW0
  go_loopw [4] (fun s4 wr => ∃ j : Nat, j ≤ 64 ∧ s4 = .int .i64 (j : Int) ∧ wr.heap[w.heap.size]? = some (.cells (arr .i64 bs) 33 (0, 0)) ∧ wr.heap[w.heap.size + 1]? = some (.cells (arr .i64 (tell 64 (fun i => nth bs (unz i)) 0)) 33 (0, 0)) ∧
      wr.heap[w.heap.size + 2]? = some (.cells (arr .i64 (tell 64 (fun i => nth bs (unz i)) j)) 33 (0, 0)) ∧ Below w.heap.size w wr) (fun s4 _ => 64 - (intOf s4).toNat)
  case atStart => exact ⟨0, by omega, rfl, a0, r0, o0, b0⟩
  case round =>
    clear a0 r0 o0 b0
    obtain ⟨j, hj, rfl, ha, hr, ho, hbr⟩ := hrel
    by_cases hj64 : j < 64
    · have hj1 : (j : Int) < 64 := by omega
      have hj0 : (0 : Int) ≤ (j : Int) := by omega
      have hu := unz_lt j hj64
      have hu0 : (0 : Int) ≤ (unz j : Int) := by omega
      have hu1 : (unz j : Int) < 64 := by omega
      have c1 := blk_cell ha (unz j) (by rw [HN.out]; omega)
      have c2 := blk_cell ho j (by rw [tell_len]; omega)
      have c3 := frozen_of_row wr _ j _ _ ho
      have hset : (wr.setCell ⟨w.heap.size + 2, j, none⟩ (.int .i64 (nth bs (unz j)))).heap[w.heap.size + 2]? = some (.cells (arr .i64 (tell 64 (fun i => nth bs (unz i)) (j + 1))) 33 (0, 0)) := by rw [blk_set ho, tell_set _ _ _ hj64]
      have hset' := Lib.hid hset
      have HA := Lib.hid ha
      have HR := Lib.hid hr
      clear hset ha hr ho
      go_wp2_with fail
      refine (rplace_any j hj64 _).mono ?_
      rintro e w' ⟨rfl, rfl⟩
      go_wp2_with fail
      go_roundw
      case rel => exact ⟨j + 1, by omega, by go_num, by rw [heap_setCell_other _ _ _ _ (by show w.heap.size ≠ w.heap.size + 2; omega)]; exact HA.out, by rw [heap_setCell_other _ _ _ _ (by show w.heap.size + 1 ≠ w.heap.size + 2; omega)]; exact HR.out, hset'.out, (hbr.setCell (by show w.heap.size ≤ w.heap.size + 2; omega) _)⟩
      case measure => simp [intOf]; omega
    · have hj1 : (64 : Int) ≤ (j : Int) := by omega
      obtain rfl : j = 64 := by omega
      rw [tell_all] at ho
      have ho' : wr.heap[w.heap.size + 2]? = some (.cells (arr .i64 (fromL bs)) 33 (0, 0)) := ho
      have HA := Lib.hid ha
      clear ha
      go_wp2_with (first | (with_reducible refine wpl_load_arr at27 rfl (.tmp 3) rfl (w.heap.size + 2) rfl 33 (fromL_len bs) ho' ?_) | (with_reducible refine wpl_store_arr at27 rfl (.tmp 2) (.tmp 15) rfl (w.heap.size + 1) rfl rfl 33 (fromL_len bs) _ (by rw [arr_size, tell_len]) hr ?_; intro w2 hr2 hg2 hs2))
      exact bodyPost_ret (res_arr at27 rfl _ _ (w.heap.size + 1) 33 rfl (fromL_len bs) hr2) rfl ⟨rfl, hbr.grown hg2 hbr.size (fun k hk => by cases hk; omega)⟩

set_option maxRecDepth 100000 in
set_option maxHeartbeats 2000000 in
theorem rto_any (bs : List Int) (hn : bs.length = 64) (w : World) : Calls Try.prog 23 #[.agg (arr .i64 bs)] w fun e w' => e = .returned (.agg (arr .i64 (toL bs))) ∧ Below w.heap.size w w' := by
  have HN := Lib.hid hn
  clear hn
  go_enter Try.func23, Try.ntmps23
  go_wp2_with fail
  generalize hW0 : ((w.alloc _).alloc _).alloc _ = W0 at *
  have a0 : W0.heap[w.heap.size]? = some (.cells (arr .i64 bs) 33 (0, 0)) := by
    rw [← hW0, Below.heap_alloc _ _ _ (by simp; omega), Below.heap_alloc _ _ _ (by simp)]
    exact heap_alloc_new w _
  have r0 : W0.heap[w.heap.size + 1]? = some (.cells (arr .i64 (toP bs 0)) 33 (0, 0)) := by
    rw [← hW0, Below.heap_alloc _ _ _ (by simp), toP_zero, arr_rep]
    exact heap_alloc2_new w _ _
  have o0 : W0.heap[w.heap.size + 2]? = some (.cells (arr .i64 (toP bs 0)) 33 (0, 0)) := by
    rw [← hW0, toP_zero, arr_rep]
    have h := fun Z => heap_alloc_new ((w.alloc (Obj.cells (arr IntKind.i64 bs) 33)).alloc Z) Z
    simp only [World.size_alloc] at h
    exact h _
  have b0 : Below w.heap.size w W0 := by rw [← hW0]; exact ba (ba (ba (brefl w) _) _) _
  clear hW0
  go_loopw [4] (fun s4 wr => ∃ j : Nat, j ≤ 64 ∧ s4 = .int .i64 (j : Int) ∧ wr.heap[w.heap.size]? = some (.cells (arr .i64 bs) 33 (0, 0)) ∧ wr.heap[w.heap.size + 1]? = some (.cells (arr .i64 (toP bs 0)) 33 (0, 0)) ∧
      wr.heap[w.heap.size + 2]? = some (.cells (arr .i64 (toP bs j)) 33 (0, 0)) ∧ Below w.heap.size w wr) (fun s4 _ => 64 - (intOf s4).toNat)
  case atStart => exact ⟨0, by omega, rfl, a0, r0, o0, b0⟩
  case round =>
    clear a0 r0 o0 b0
    obtain ⟨j, hj, rfl, ha, hr, ho, hbr⟩ := hrel
    by_cases hj64 : j < 64
    · have hj1 : (j : Int) < 64 := by omega
      have hj0 : (0 : Int) ≤ (j : Int) := by omega
      have hu := unz_lt j hj64
      have hu0 : (0 : Int) ≤ (unz j : Int) := by omega
      have hu1 : (unz j : Int) < 64 := by omega
      have c1 := blk_cell ha j (by rw [HN.out]; omega)
      have c2 := blk_cell ho (unz j) (by rw [toP_len]; omega)
      have c3 := frozen_of_row wr _ (unz j) _ _ ho
      have hset : (wr.setCell ⟨w.heap.size + 2, (unz j), none⟩ (.int .i64 (nth bs j))).heap[w.heap.size + 2]? = some (.cells (arr .i64 (toP bs (j + 1))) 33 (0, 0)) := by rw [blk_set ho, toP_set _ _ hj64]
      have hset' := Lib.hid hset
      have HA := Lib.hid ha
      have HR := Lib.hid hr
      clear hset ha hr ho
      go_wp2_with fail
      refine Tin.reg_begin (w.heap.size + 1) 7 (by rfl) (by kernel_rfl) ?_
      have k1 : ∀ p : Bel (w.heap.size + 1) wr.drew, p.w'.cell? ⟨w.heap.size, j, none⟩ = some (.int .i64 (nth bs j)) := fun p => (p.h.cell (p := ⟨w.heap.size, j, none⟩) (by show w.heap.size < _; omega)).trans c1
      refine Tin.reg_quiets [0, 2, 3, 4] _ 3 rfl (by simp only [Tin.pick, List.map_cons, List.map_nil, Array.getD_eq_getD_getElem?, List.getElem?_toArray, List.getElem?_cons_zero, List.getElem?_cons_succ, Option.getD_some]; rfl) (by kernel_rfl) (by kernel_rfl) ?_
      repeat (go_big_quiet_step (fail))
      refine wpQuiet_nil ?_
      clear k1
      refine Tin.reg_one 1 _ rfl (by kernel_rfl) ?_
      go_wp2_with (go_at_call 30; refine (rplace_any j hj64 _).mono ?_; rintro e w' ⟨rfl, rfl⟩)
      refine ⟨w.heap.size + 1, Below.refl _ _, Nat.le_refl _, ?_⟩
      refine Tin.reg_quiets [5] _ 1 rfl (by simp only [Tin.pick, List.map_cons, List.map_nil, Array.getD_eq_getD_getElem?, List.getElem?_toArray, List.getElem?_cons_zero, List.getElem?_cons_succ, Option.getD_some]; rfl) (by kernel_rfl) (by kernel_rfl) ?_
      repeat (go_big_quiet_step (fail))
      refine wpQuiet_nil ?_
      refine Tin.reg_one 6 _ rfl (by kernel_rfl) ?_
      go_wp2_with fail
      refine ⟨w.heap.size + 1, (dl ((Below.refl _ _).setCell (by show w.heap.size + 1 ≤ w.heap.size + 2; omega) _)).drew, Nat.le_refl _, ?_⟩
      refine Tin.reg_done (by kernel_rfl) ?_
      go_wp2_with fail
      go_roundw
      case rel => exact ⟨j + 1, by omega, by go_num, by rw [heap_drew, heap_setCell_other _ _ _ _ (by show w.heap.size ≠ w.heap.size + 2; omega)]; exact HA.out, by rw [heap_drew, heap_setCell_other _ _ _ _ (by show w.heap.size + 1 ≠ w.heap.size + 2; omega)]; exact HR.out, hset'.out, (hbr.setCell (by show w.heap.size ≤ w.heap.size + 2; omega) _).drew⟩
      case measure => simp [intOf]; omega
    · have hj1 : (64 : Int) ≤ (j : Int) := by omega
      obtain rfl : j = 64 := by omega
      rw [toP_end] at ho
      have ho' : wr.heap[w.heap.size + 2]? = some (.cells (arr .i64 (toL bs)) 33 (0, 0)) := ho
      have HA := Lib.hid ha
      clear ha
      go_wp2_with (first | (with_reducible refine wpl_load_arr at27 rfl (.tmp 3) rfl (w.heap.size + 2) rfl 33 (toL_len bs) ho' ?_) | (with_reducible refine wpl_store_arr at27 rfl (.tmp 2) (.tmp 15) rfl (w.heap.size + 1) rfl rfl 33 (toL_len bs) _ (by rw [arr_size, toP_len]) hr ?_; intro w2 hr2 hg2 hs2))
      exact bodyPost_ret (res_arr at27 rfl _ _ (w.heap.size + 1) 33 rfl (toL_len bs) hr2) rfl ⟨rfl, hbr.grown hg2 hbr.size (fun k hk => by cases hk; omega)⟩

theorem from_to (bs : List Int) (hn : bs.length = 64) : fromL (toL bs) = bs := by
  refine Eq.trans (full_congr 64 _ (nth bs) fun j hj => ?_) (full_nth bs 64 hn)
  unfold toL
  rw [nth_full _ _ _ (unz_lt j hj)]
  unfold toF
  rw [zig_unz j hj, Int.toNat_natCast]
theorem to_from (bs : List Int) (hn : bs.length = 64) : toL (fromL bs) = bs := by
  refine Eq.trans (full_congr 64 _ (nth bs) fun j hj => ?_) (full_nth bs 64 hn)
  have := zig_bd j hj
  unfold toF fromL
  rw [nth_full _ _ _ (by omega), unz_zig j hj]
theorem toL_unz (bs : List Int) (j : Nat) (hj : j < 64) : nth (toL bs) (unz j) = nth bs j := by
  unfold toL
  rw [nth_full _ _ _ (unz_lt j hj)]
  unfold toF
  rw [zig_unz j hj, Int.toNat_natCast]
end Go.Proofs.Ytckkncblbagfmaa
