/- The walk of the law ZigzagBack. -/
import Derived.Test.YtolohhhkfkggaaaK
import Derived.Outline
namespace Go.Proofs.Ytolohhhkfkggaaa
open Go.RowKit
open Go.Tin
set_option linter.unusedVariables false
set_option linter.unusedSimpArgs false

theorem from_to (bs : List Int) (hn : bs.length = 64) : fromL (toL bs) = bs := by
  refine Eq.trans (full_congr 64 _ (nth bs) fun j hj => ?_) (full_nth bs 64 hn)
  unfold toL
  rw [nth_full _ _ _ (unz_lt j hj)]
  unfold toF
  rw [zig_unz j hj, Int.toNat_natCast]
theorem to_from (bs : List Int) (hn : bs.length = 64) : toL (fromL bs) = bs := by
  refine Eq.trans (full_congr 64 _ (nth bs) fun j hj => ?_) (full_nth bs 64 hn)
  have := zig_bd j hj
  unfold toF fromL
  rw [nth_full _ _ _ (by omega), unz_zig j hj]
theorem toL_unz (bs : List Int) (j : Nat) (hj : j < 64) : nth (toL bs) (unz j) = nth bs j := by
  unfold toL
  rw [nth_full _ _ _ (unz_lt j hj)]
  unfold toF
  rw [zig_unz j hj, Int.toNat_natCast]

set_option maxRecDepth 100000 in
set_option maxHeartbeats 2000000 in
theorem walkBack (bs : List Int) (w : World) (hn : bs.length = 64) (_wf : ∀ z ∈ bs, (Lit.int .i64 z).wf = true) : Calls Try.prog 6 #[.agg (arr .i64 bs)] w fun e w' => e = .returned (.bool true) ∧ Below w.heap.size w w' := by
  have HN := Lib.hid hn
  clear hn _wf
  have TL := toL_len bs
  have FL := fromL_len bs
  have FT := Lib.hid (from_to bs HN.out)
  have TF := Lib.hid (to_from bs HN.out)
  go_enter Try.func6, Try.ntmps6
  go_wp2_with (with_reducible refine wpl_load_arr at27 rfl (.tmp 1) rfl w.heap.size rfl 27 HN.out (heap_alloc_new w _) ?_)
  refine (to_any bs HN.out _).mono ?_
  rintro e w1 ⟨rfl, hb1⟩
  go_wp2_with (with_reducible refine wpl_store_arr at27 rfl (.tmp 3) (.tmp 7) rfl w1.heap.size rfl rfl 27 TL _ (by simp) (heap_alloc_new w1 _) ?_; intro wa ha hga hsa)
  have hz := hb1.size
  simp only [World.size_alloc] at hz hb1 hsa
  have hB0 : (w.alloc (.cells (arr .i64 bs) 27)).heap[w.heap.size]? = some (.cells (arr .i64 bs) 27 (0, 0)) := heap_alloc_new w _
  have hB1 : w1.heap[w.heap.size]? = some (.cells (arr .i64 bs) 27 (0, 0)) := (hb1.block _ (by omega)).trans hB0
  have hbw : Below w.heap.size w w1 := (ba (brefl w) _).trans (hb1.mono (by omega))
  have hbx : Below w1.heap.size w1 wa := (ba (brefl w1) _).grown hga (by simp) (fun k hk => by cases hk; exact Nat.le_refl _)
  have hba : Below w.heap.size w wa := hbw.trans (hbx.mono (by omega))
  have hBa : wa.heap[w.heap.size]? = some (.cells (arr .i64 bs) 27 (0, 0)) := (hbx.block _ (by omega)).trans hB1
  generalize w1.heap.size = g at *
  have hgw : g < wa.heap.size := by omega
  clear hB0 hB1 hb1 hbx hga hbw hsa
  go_wp2_with fail
  go_loopw [4] (fun s4 wr => ∃ j : Nat, j ≤ 64 ∧ s4 = .int .i64 (j : Int) ∧ wr.heap[w.heap.size]? = some (.cells (arr .i64 bs) 27 (0, 0)) ∧ wr.heap[g]? = some (.cells (arr .i64 (toL bs)) 27 (0, 0)) ∧ Below w.heap.size w wr ∧ g < wr.heap.size) (fun s4 _ => 64 - (intOf s4).toNat)
  case atStart => exact ⟨0, by omega, rfl, hBa, ha, hba, hgw⟩
  case round =>
    clear hBa ha hba hgw
    obtain ⟨j, hj, rfl, hb, ha, hbr, hgr⟩ := hrel
    by_cases hj64 : j < 64
    · have hj1 : (j : Int) < 64 := by omega
      have hj0 : (0 : Int) ≤ (j : Int) := by omega
      have hu := unz_lt j hj64
      have hu0 : (0 : Int) ≤ (unz j : Int) := by omega
      have hu1 : (unz j : Int) < 64 := by omega
      have hd0 : decide ((unz j : Int) < 0) = false := by simp
      have hd1 : decide ((63 : Int) < (unz j : Int)) = false := by simp; omega
      have hlt : w.heap.size < wr.heap.size := by omega
      have c1 := blk_cell hb j (by rw [HN.out]; omega)
      have c2 := blk_cell ha (unz j) (by omega)
      rw [toL_unz bs j hj64] at c2
      have HB := Lib.hid hb
      have HA := Lib.hid ha
      have A1 := at_c (unz j : Int) (j : Int) (unz j) hu rfl (zig_unz j hj64)
      clear ha hb
      go_wp2_with fail
      refine (place_in j hj64 _).mono ?_
      rintro e w2 ⟨rfl, hb2⟩
      go_wp2_with fail
      refine Tin.reg_begin w2.heap.size 21 (by rfl) (by kernel_rfl) ?_
      refine Tin.reg_quiets [0, 1, 2, 3, 4, 5, 6, 7, 9] _ 12 rfl (by simp only [Tin.pick, List.map_cons, List.map_nil, Array.getD_eq_getD_getElem?, List.getElem?_toArray, List.getElem?_cons_zero, List.getElem?_cons_succ, Option.getD_some]; rfl) (by kernel_rfl) (by kernel_rfl) ?_
      repeat (first | go_big_quiet_step (fail))
      refine wpQuiet_nil ?_
      refine Tin.reg_one 8 _ rfl (by kernel_rfl) ?_
      go_wp2_with (go_at_call 7; refine (A1 _).mono ?_; rintro e w3 ⟨rfl, hb3⟩)
      refine ⟨w3.heap.size, hb3, hb3.size, ?_⟩
      have hb23 : Below wr.heap.size wr w3 := bt hb2.drew hb3
      have k1 : ∀ p : Bel w3.heap.size w3, p.w'.cell? ⟨w.heap.size, j, none⟩ = some (.int .i64 (nth bs j)) := fun p => ((p.h.mono hb23.size).cell (p := ⟨w.heap.size, j, none⟩) (by show w.heap.size < _; omega)).trans ((hb23.cell (p := ⟨w.heap.size, j, none⟩) hlt).trans c1)
      have k2 : ∀ p : Bel w3.heap.size w3, p.w'.cell? ⟨g, unz j, none⟩ = some (.int .i64 (nth bs j)) := fun p => ((p.h.mono hb23.size).cell (p := ⟨g, unz j, none⟩) hgr).trans ((hb23.cell (p := ⟨g, unz j, none⟩) hgr).trans c2)
      refine Tin.reg_quiets [10, 11, 12, 13, 14, 15, 16, 17, 18, 19, 20] _ 0 rfl (by simp only [Tin.pick, List.map_cons, List.map_nil, Array.getD_eq_getD_getElem?, List.getElem?_toArray, List.getElem?_cons_zero, List.getElem?_cons_succ, Option.getD_some]; rfl) (by kernel_rfl) (by kernel_rfl) ?_
      repeat (first | go_big_quiet_step (fail))
      refine wpQuiet_nil ?_
      clear k1 k2
      refine Tin.reg_done (by kernel_rfl) ?_
      go_wp2_with fail
      go_roundw
      case rel => exact ⟨j + 1, by omega, by go_num, (hb23.block _ hlt).trans HB.out, (hb23.block _ hgr).trans HA.out, hbr.trans (hb23.mono hbr.size), Nat.lt_of_lt_of_le hgr hb23.size⟩
      case measure => simp [intOf]; omega
    · have hj1 : (64 : Int) ≤ (j : Int) := by omega
      have he : j = 64 := by omega
      subst he
      have HA := Lib.hid ha
      have HB := Lib.hid hb
      clear ha hb
      go_wp2_with fail
      have hlt : w.heap.size < wr.heap.size := by omega
      have HBx : Hid (wr.drew.heap[w.heap.size]? = some (.cells (arr .i64 bs) 27 (0, 0))) := Lib.hid HB.out
      have HAx : Hid (wr.drew.heap[g]? = some (.cells (arr .i64 (toL bs)) 27 (0, 0))) := Lib.hid HA.out
      refine Tin.reg_begin wr.heap.size 15 (by rfl) (by kernel_rfl) ?_
      refine Tin.reg_quiets [0, 2] _ 13 rfl (by simp only [Tin.pick, List.map_cons, List.map_nil, Array.getD_eq_getD_getElem?, List.getElem?_toArray, List.getElem?_cons_zero, List.getElem?_cons_succ, Option.getD_some]; rfl) (by kernel_rfl) (by kernel_rfl) ?_
      repeat (first | (refine wpq_load_arr at27 rfl (.tmp 3) rfl g rfl 27 TL (fun W ⟨p, hp⟩ => by rw [hp]; exact (p.h.block _ hgr).trans HAx.out) ?_; simp only [Act.put, List.setIfInBounds_toArray, List.set_cons_succ, List.set_cons_zero]) | (refine wpq_load_arr at27 rfl (.tmp 1) rfl w.heap.size rfl 27 HN.out (fun W ⟨p, hp⟩ => by rw [hp]; exact (p.h.block _ hlt).trans HBx.out) ?_; simp only [Act.put, List.setIfInBounds_toArray, List.set_cons_succ, List.set_cons_zero]) | go_big_quiet_step (fail))
      refine wpQuiet_nil ?_
      refine Tin.reg_one 1 _ rfl (by kernel_rfl) ?_
      go_wp2_with (go_at_call 15; refine (from_any (toL bs) TL _).mono ?_; rw [FT.out]; rintro e w2 ⟨rfl, hb2⟩)
      refine ⟨w2.heap.size, hb2, hb2.size, ?_⟩
      have hz2 : wr.heap.size ≤ w2.heap.size := by simpa using hb2.size
      have hl2 : w.heap.size < w2.heap.size := by omega
      have HB2 : Hid (w2.heap[w.heap.size]? = some (.cells (arr .i64 bs) 27 (0, 0))) := Lib.hid ((hb2.block _ (by simpa using hlt)).trans HBx.out)
      refine Tin.reg_quiets [3, 4, 5, 8] _ 8 rfl (by simp only [Tin.pick, List.map_cons, List.map_nil, Array.getD_eq_getD_getElem?, List.getElem?_toArray, List.getElem?_cons_zero, List.getElem?_cons_succ, Option.getD_some]; rfl) (by kernel_rfl) (by kernel_rfl) ?_
      repeat (first | (refine wpq_eq_arr at27 noEq27 rfl (.tmp 36) (.tmp 37) 27 rfl rfl rfl HN.out HN.out true (by simp) ?_; simp only [Act.put, List.setIfInBounds_toArray, List.set_cons_succ, List.set_cons_zero]) | (refine wpq_load_arr at27 rfl (.tmp 1) rfl w.heap.size rfl 27 HN.out (fun W ⟨p, hp⟩ => by rw [hp]; exact (p.h.block _ hl2).trans HB2.out) ?_; simp only [Act.put, List.setIfInBounds_toArray, List.set_cons_succ, List.set_cons_zero]) | go_big_quiet_step (fail))
      refine wpQuiet_nil ?_
      refine Tin.reg_one 6 _ rfl (by kernel_rfl) ?_
      go_wp2_with (go_at_call 15; refine (from_any bs HN.out _).mono ?_; rintro e w3 ⟨rfl, hb3⟩)
      refine ⟨w3.heap.size, hb3, hb3.size, ?_⟩
      refine Tin.reg_one 7 _ rfl (by kernel_rfl) ?_
      go_wp2_with (go_at_call 14; refine (to_any (fromL bs) FL _).mono ?_; rw [TF.out]; rintro e w4 ⟨rfl, hb4⟩)
      refine ⟨w4.heap.size, hb4, hb4.size, ?_⟩
      refine Tin.reg_quiets [9, 10, 11] _ 3 rfl (by simp only [Tin.pick, List.map_cons, List.map_nil, Array.getD_eq_getD_getElem?, List.getElem?_toArray, List.getElem?_cons_zero, List.getElem?_cons_succ, Option.getD_some]; rfl) (by kernel_rfl) (by kernel_rfl) ?_
      repeat (first | (refine wpq_eq_arr at27 noEq27 rfl (.tmp 42) (.tmp 43) 27 rfl rfl rfl HN.out HN.out true (by simp) ?_; simp only [Act.put, List.setIfInBounds_toArray, List.set_cons_succ, List.set_cons_zero]) | go_big_quiet_step (fail))
      refine wpQuiet_nil ?_
      refine Tin.reg_one 12 _ rfl (by kernel_rfl) ?_
      go_wp2_with (go_at_call 9; refine (awake_any _).mono ?_; rintro e w6 ⟨rfl, hb6⟩)
      refine ⟨w6.heap.size, hb6, hb6.size, ?_⟩
      refine Tin.reg_quiets [13, 14] _ 0 rfl (by simp only [Tin.pick, List.map_cons, List.map_nil, Array.getD_eq_getD_getElem?, List.getElem?_toArray, List.getElem?_cons_zero, List.getElem?_cons_succ, Option.getD_some]; rfl) (by kernel_rfl) (by kernel_rfl) ?_
      repeat (first | go_big_quiet_step (fail))
      refine wpQuiet_nil ?_
      refine Tin.reg_done (by kernel_rfl) ?_
      go_wp2_with fail
      go_ret
      exact ⟨rfl, bt (bt (bt (bt hbr.drew hb2) hb3) hb4) hb6⟩
end Go.Proofs.Ytolohhhkfkggaaa
