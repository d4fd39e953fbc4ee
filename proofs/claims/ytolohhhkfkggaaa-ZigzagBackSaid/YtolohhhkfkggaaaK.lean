/- The walk of the law ZigzagTurns. -/
import Derived.Test.YtolohhhkfkggaaaH
import Derived.Test.YtolohhhkfkggaaaArq
import Derived.Outline
namespace Go.Proofs.Ytolohhhkfkggaaa
open Go.RowKit
open Go.Tin
set_option linter.unusedVariables false
set_option linter.unusedSimpArgs false

theorem noEq27 : Try.prog.eqGuardType Try.prog.depth 27 = false := by kernel_rfl
set_option maxRecDepth 100000 in
set_option maxHeartbeats 2000000 in
theorem walkTurns (bs : List Int) (w : World) (hn : bs.length = 64) (_wf : ∀ z ∈ bs, (Lit.int .i64 z).wf = true) : Calls Try.prog 5 #[.agg (arr .i64 bs)] w fun e w' => e = .returned (.bool true) ∧ Below w.heap.size w w' := by
  have HN := Lib.hid hn
  clear hn _wf
  have TL := toL_len bs
  have FL := fromL_len bs
  go_enter Try.func5, Try.ntmps5
  go_wp2_with (with_reducible refine wpl_load_arr at27 rfl (.tmp 1) rfl w.heap.size rfl 27 HN.out (heap_alloc_new w _) ?_)
  refine (rto_any bs HN.out _).mono ?_
  rintro e w1 ⟨rfl, hb1⟩
  go_wp2_with (with_reducible refine wpl_store_arr at27 rfl (.tmp 3) (.tmp 7) rfl w1.heap.size rfl rfl 27 TL _ (by simp) (heap_alloc_new w1 _) ?_; intro wa ha hga hsa)
  have hz := hb1.size
  simp only [World.size_alloc] at hz hb1 hsa
  have hB0 : (w.alloc (.cells (arr .i64 bs) 27)).heap[w.heap.size]? = some (.cells (arr .i64 bs) 27 (0, 0)) := heap_alloc_new w _
  have hB1 : w1.heap[w.heap.size]? = some (.cells (arr .i64 bs) 27 (0, 0)) := (hb1.block _ (by omega)).trans hB0
  have hbw : Below w.heap.size w w1 := (ba (brefl w) _).trans (hb1.mono (by omega))
  have hbx : Below w1.heap.size w1 wa := (ba (brefl w1) _).grown hga (by simp) (fun k hk => by cases hk; exact Nat.le_refl _)
  have hba : Below w.heap.size w wa := hbw.trans (hbx.mono (by omega))
  have hBa : wa.heap[w.heap.size]? = some (.cells (arr .i64 bs) 27 (0, 0)) := (hbx.block _ (by omega)).trans hB1
  generalize w1.heap.size = g at *
  clear hB0 hB1 hb1 hbx hga hbw
  go_wp2_with fail
  go_loop [4, 5] (fun s4 s5 => ∃ j : Nat, j ≤ 64 ∧ s5 = .int .i64 (j : Int) ∧ s4 = .int .i64 (lastP (toL bs) j)) (fun _ s5 => 64 - (intOf s5).toNat)
  case atStart => exact ⟨0, by omega, rfl, rfl⟩
  case round =>
    obtain ⟨j, hj, rfl, rfl⟩ := hrel
    by_cases hj64 : j < 64
    · have hj1 : (j : Int) < 64 := by omega
      have c1 := blk_cell ha j (by omega)
      have HA := Lib.hid ha
      have HB := Lib.hid hBa
      clear ha hBa
      by_cases hz : nth (toL bs) j = 0
      · have hzb : (nth (toL bs) j != 0) = false := by simp [hz]
        have hl : lastP (toL bs) (j + 1) = lastP (toL bs) j := by rw [lastP, if_neg (by simp [hz])]
        have HL := Lib.hid hl
        clear hl hz
        go_wp2_with fail
        go_round
        case rel => exact ⟨j + 1, by omega, by go_num, by rw [HL.out]⟩
        case measure => simp [intOf]; omega
      · have hzb : (nth (toL bs) j != 0) = true := by simp [hz]
        have hl : lastP (toL bs) (j + 1) = (j : Int) := by rw [lastP, if_pos (by simp [hz])]
        have HL := Lib.hid hl
        clear hl hz
        go_wp2_with fail
        go_round
        case rel => exact ⟨j + 1, by omega, by go_num, by rw [HL.out]⟩
        case measure => simp [intOf]; omega
    · have hj1 : (64 : Int) ≤ (j : Int) := by omega
      have he : j = 64 := by omega
      subst he
      have HA := Lib.hid ha
      have HB := Lib.hid hBa
      clear ha hBa
      go_wp2_with fail
      have hgs : g < wa.heap.size := by omega
      have hlt : w.heap.size < wa.heap.size := by omega
      have HBx : Hid (wa.drew.heap[w.heap.size]? = some (.cells (arr .i64 bs) 27 (0, 0))) := Lib.hid HB.out
      have HAx : Hid (wa.drew.heap[g]? = some (.cells (arr .i64 (toL bs)) 27 (0, 0))) := Lib.hid HA.out
      refine Tin.reg_begin wa.heap.size 21 (by rfl) (by kernel_rfl) ?_
      refine Tin.reg_quiets [0, 2] _ 19 rfl (by simp only [Tin.pick, List.map_cons, List.map_nil, Array.getD_eq_getD_getElem?, List.getElem?_toArray, List.getElem?_cons_zero, List.getElem?_cons_succ, Option.getD_some]; rfl) (by kernel_rfl) (by kernel_rfl) ?_
      repeat (first | (refine wpq_load_arr at27 rfl (.tmp 1) rfl w.heap.size rfl 27 HN.out (fun W ⟨p, hp⟩ => by rw [hp]; exact (p.h.block _ hlt).trans HBx.out) ?_) | (refine wpq_load_arr at27 rfl (.tmp 3) rfl g rfl 27 TL (fun W ⟨p, hp⟩ => by rw [hp]; exact (p.h.block _ hgs).trans HAx.out) ?_) | go_big_quiet_step (fail))
      refine wpQuiet_nil ?_
      refine Tin.reg_one 1 _ rfl (by kernel_rfl) ?_
      go_wp2_with (go_at_call 14; refine (to_any bs HN.out _).mono ?_; rintro e w2 ⟨rfl, hb2⟩)
      refine ⟨w2.heap.size, hb2, hb2.size, ?_⟩
      have hz2 : wa.heap.size ≤ w2.heap.size := by simpa using hb2.size
      have hl2 : w.heap.size < w2.heap.size := by omega
      have HB2 : Hid (w2.heap[w.heap.size]? = some (.cells (arr .i64 bs) 27 (0, 0))) := Lib.hid ((hb2.block _ (by simpa using hlt)).trans HBx.out)
      refine Tin.reg_quiets [3, 4, 5, 7] _ 14 rfl (by simp only [Tin.pick, List.map_cons, List.map_nil, Array.getD_eq_getD_getElem?, List.getElem?_toArray, List.getElem?_cons_zero, List.getElem?_cons_succ, Option.getD_some]; rfl) (by kernel_rfl) (by kernel_rfl) ?_
      repeat (first | (refine wpq_eq_arr at27 noEq27 rfl (.tmp 18) (.tmp 19) 27 rfl rfl rfl TL TL true (by simp) ?_; go_simp) | (refine wpq_load_arr at27 rfl (.tmp 1) rfl w.heap.size rfl 27 HN.out (fun W ⟨p, hp⟩ => by rw [hp]; exact (p.h.block _ hl2).trans HB2.out) ?_; go_simp) | go_big_quiet_step (fail))
      refine wpQuiet_nil ?_
      refine Tin.reg_one 6 _ rfl (by kernel_rfl) ?_
      go_wp2_with (go_at_call 15; refine (from_any bs HN.out _).mono ?_; rintro e w3 ⟨rfl, hb3⟩)
      refine ⟨w3.heap.size, hb3, hb3.size, ?_⟩
      refine Tin.reg_one 8 _ rfl (by kernel_rfl) ?_
      go_wp2_with (go_at_call 16; refine (rfrom_any bs HN.out _).mono ?_; rintro e w4 ⟨rfl, hb4⟩)
      refine ⟨w4.heap.size, hb4, hb4.size, ?_⟩
      have hz3 : w2.heap.size ≤ w3.heap.size := hb3.size
      have hz4 : w3.heap.size ≤ w4.heap.size := hb4.size
      have hl4 : w.heap.size < w4.heap.size := by omega
      have HB4 : Hid (w4.heap[w.heap.size]? = some (.cells (arr .i64 bs) 27 (0, 0))) := Lib.hid (((hb3.trans (hb4.mono hz3)).block _ hl2).trans HB2.out)
      refine Tin.reg_quiets [9, 10, 11, 12, 14] _ 7 rfl (by simp only [Tin.pick, List.map_cons, List.map_nil, Array.getD_eq_getD_getElem?, List.getElem?_toArray, List.getElem?_cons_zero, List.getElem?_cons_succ, Option.getD_some]; rfl) (by kernel_rfl) (by kernel_rfl) ?_
      repeat (first | (refine wpq_eq_arr at27 noEq27 rfl (.tmp 23) (.tmp 25) 27 rfl rfl rfl FL FL true (by simp) ?_; go_simp) | (refine wpq_load_arr at27 rfl (.tmp 1) rfl w.heap.size rfl 27 HN.out (fun W ⟨p, hp⟩ => by rw [hp]; exact (p.h.block _ hl4).trans HB4.out) ?_; go_simp) | go_big_quiet_step (fail))
      refine wpQuiet_nil ?_
      refine Tin.reg_one 13 _ rfl (by kernel_rfl) ?_
      go_wp2_with (go_at_call 17; refine (last_any bs HN.out _).mono ?_; rintro e w5 ⟨rfl, hb5⟩)
      refine ⟨w5.heap.size, hb5, hb5.size, ?_⟩
      refine Tin.reg_quiets [15, 16, 17] _ 3 rfl (by simp only [Tin.pick, List.map_cons, List.map_nil, Array.getD_eq_getD_getElem?, List.getElem?_toArray, List.getElem?_cons_zero, List.getElem?_cons_succ, Option.getD_some]; rfl) (by kernel_rfl) (by kernel_rfl) ?_
      repeat (first | go_big_quiet_step (fail))
      refine wpQuiet_nil ?_
      refine Tin.reg_one 18 _ rfl (by kernel_rfl) ?_
      go_wp2_with (go_at_call 9; refine (awake_any _).mono ?_; rintro e w6 ⟨rfl, hb6⟩)
      refine ⟨w6.heap.size, hb6, hb6.size, ?_⟩
      refine Tin.reg_quiets [19, 20] _ 0 rfl (by simp only [Tin.pick, List.map_cons, List.map_nil, Array.getD_eq_getD_getElem?, List.getElem?_toArray, List.getElem?_cons_zero, List.getElem?_cons_succ, Option.getD_some]; rfl) (by kernel_rfl) (by kernel_rfl) ?_
      repeat (first | go_big_quiet_step (fail))
      refine wpQuiet_nil ?_
      refine Tin.reg_done (by kernel_rfl) ?_
      go_wp2_with fail
      go_ret
      exact ⟨rfl, bt (bt (bt (bt (bt (hba.drew) hb2) hb3) hb4) hb5) hb6⟩
end Go.Proofs.Ytolohhhkfkggaaa
