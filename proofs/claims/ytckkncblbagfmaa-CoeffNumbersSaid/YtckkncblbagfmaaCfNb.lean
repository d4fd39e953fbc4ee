/- The walk of CoeffNumbers. -/
import Derived.Test.YtckkncblbagfmaaCfLa
namespace Go.Proofs.Ytckkncblbagfmaa
open Go.RowKit
open Go.Tin
set_option linter.unusedVariables false
set_option linter.unusedSimpArgs false


set_option maxRecDepth 100000 in
set_option maxHeartbeats 4000000 in
theorem numbers_any (v V N : Int) (w : World) (wv : (Lit.int .i64 v).wf = true) (wV : (Lit.int .i64 V).wf = true) (wN : (Lit.int .i64 N).wf = true) :
    Calls Try.prog 3 #[.int .i64 v, .agg #[.int .i64 V, .int .i64 N]] w fun e w' => e = .returned (.bool true) ∧ Below w.heap.size w w' := by
  have HX := Lib.hid (fun W => extra_any v W wv)
  have HS := Lib.hid (fun W => size_any v W wv)
  have HR := Lib.hid (fun W => rsize_any v W wv)
  have HY := Lib.hid (fun W h => rextra_any v W wv h)
  have HV := Lib.hid (fun W => value_any V N W wV wN)
  have HW := Lib.hid (fun W => rvalue_any V N W wV wN)
  clear wv wV wN
  have RP := Lib.hid (heap_alloc_new w (.cells #[.int .i64 V, .int .i64 N] 23))
  have HBP := Lib.hid (ba (brefl w) (.cells #[.int .i64 V, .int .i64 N] 23))
  have hgp : w.heap.size < (w.alloc (.cells #[.int .i64 V, .int .i64 N] 23)).heap.size := by simp
  generalize vaN V N = z at *
  generalize hvb : vaB V N = zb at *
  clear hvb
  by_cases hs : 0 ≤ sz v
  · have hB : exB v = true := by unfold exB; exact decide_eq_true hs
    have HYs := Lib.hid (fun W => HY.out W hs)
    rw [hB] at HX
    clear hB HY
    generalize sz v = s at *
    generalize exV v = xV at *
    generalize exN v = xN at *
    go_enter Try.func3, Try.ntmps3
    go_wp2_with fail
    refine (HX.out _).mono ?_
    rintro e w1 ⟨rfl, hb1⟩
    have RX := Lib.hid (heap_alloc_new w1 (.cells #[.int .i64 xV, .int .i64 xN] 23))
    have hgx : w1.heap.size < (w1.alloc (.cells #[.int .i64 xV, .int .i64 xN] 23)).heap.size := by simp
    have hb2 := bt hb1 (ba (brefl w1) (.cells #[.int .i64 xV, .int .i64 xN] 23))
    have RP2 := Lib.hid ((hb2.block _ hgp).trans RP.out)
    have HB2 := Lib.hid (bt HBP.out hb2)
    obtain ⟨q, hq⟩ : ∃ q, q = w1.heap.size := ⟨_, rfl⟩
    rw [← hq] at RX hgx
    go_wp2_with fail
    rw [← hq]
    clear hb1 hb2 hq RP HBP hgp
    generalize w1.alloc (.cells #[.int .i64 xV, .int .i64 xN] 23) = w2 at *
    refine (HR.out _).mono ?_
    rintro e w' ⟨rfl, rfl⟩
    go_wp2_with fail
    have RXd := Lib.hid (show w2.drew.heap[q]? = some (.cells #[.int .i64 xV, .int .i64 xN] 23 (0, 0)) from RX.out)
    refine Tin.reg_begin w2.heap.size 28 (by rfl) (by kernel_rfl) ?_
    refine Tin.reg_quiets [0, 2] _ 26 rfl (by simp only [Tin.pick, List.map_cons, List.map_nil, Array.getD_eq_getD_getElem?, List.getElem?_toArray, List.getElem?_cons_zero, List.getElem?_cons_succ, Option.getD_some]; rfl) (by kernel_rfl) (by kernel_rfl) ?_
    repeat (first | go_big_quiet_step (fail))
    refine wpQuiet_nil ?_
    refine Tin.reg_one 1 _ rfl (by kernel_rfl) ?_
    try simp only [List.getElem_toArray, List.getElem_cons_succ, List.getElem_cons_zero]
    go_wp2_with fail
    refine Calls.mono (HS.out _) ?_
    rintro e w' ⟨rfl, rfl⟩
    go_wp2_with fail
    refine ⟨w2.heap.size, Below.refl _ _, Nat.le_refl _, ?_⟩
    refine Tin.reg_quiets [3, 4, 5, 6, 7, 8, 9, 10, 11, 12, 13, 14] _ 13 rfl (by simp only [Tin.pick, List.map_cons, List.map_nil, Array.getD_eq_getD_getElem?, List.getElem?_toArray, List.getElem?_cons_zero, List.getElem?_cons_succ, Option.getD_some]; rfl) (by kernel_rfl) (by kernel_rfl) ?_
    repeat (first | ((with_reducible refine wpq_load_row rt23 ?_ (.tmp 5) rfl q rfl 23 #[.int .i64 xV, .int .i64 xN] ?_ (fun w' h => by obtain ⟨p, rfl⟩ := h; exact (p.h.block _ hgx).trans RXd.out) ?_); rfl; rfl; simp only [Act.put, List.setIfInBounds_toArray, List.set_cons_succ, List.set_cons_zero]) | go_big_quiet_step (fail))
    refine wpQuiet_nil ?_
    refine Tin.reg_one 15 _ rfl (by kernel_rfl) ?_
    try simp only [List.getElem_toArray, List.getElem_cons_succ, List.getElem_cons_zero]
    go_wp2_with fail
    refine Calls.mono (HYs.out _) ?_
    rintro e w3 ⟨rfl, hb3⟩
    go_wp2_with fail
    refine ⟨w3.heap.size, hb3, hb3.size, ?_⟩
    refine Tin.reg_quiets [16, 17, 18, 19, 20, 21, 22, 23, 24, 25, 26, 27] _ 0 rfl (by simp only [Tin.pick, List.map_cons, List.map_nil, Array.getD_eq_getD_getElem?, List.getElem?_toArray, List.getElem?_cons_zero, List.getElem?_cons_succ, Option.getD_some]; rfl) (by kernel_rfl) (by kernel_rfl) ?_
    repeat (first | ((with_reducible refine wpq_neq pairE ?_ (.tmp 32) (.tmp 34) 23 rfl rfl rfl (pair_q _ _ _ _) ?_); rfl; simp only [Act.put, List.setIfInBounds_toArray, List.set_cons_succ, List.set_cons_zero]) | go_big_quiet_step (fail))
    refine wpQuiet_nil ?_
    refine Tin.reg_done (by kernel_rfl) ?_
    have hb3' := ud hb3
    have RP3 := Lib.hid ((hb3'.block _ (row_lt RP2.out)).trans RP2.out)
    have HB3 := Lib.hid (bt HB2.out hb3')
    clear hb3' RP2 HB2
    go_wp2_with ((with_reducible refine wpl_load_row rt23 ?_ (.tmp 3) rfl w.heap.size rfl 23 #[.int .i64 V, .int .i64 N] ?_ RP3.out ?_); rfl; rfl; simp only [Act.put, List.setIfInBounds_toArray, List.set_cons_succ, List.set_cons_zero])
    refine (HV.out _).mono ?_
    rintro e w4 ⟨rfl, hb4⟩
    have RP4 := Lib.hid ((hb4.block _ (row_lt RP3.out)).trans RP3.out)
    have HB4 := Lib.hid (bt HB3.out hb4)
    clear hb4 RP3 HB3
    go_wp2_with ((with_reducible refine wpl_load_row rt23 ?_ (.tmp 3) rfl w.heap.size rfl 23 #[.int .i64 V, .int .i64 N] ?_ RP4.out ?_); rfl; rfl; simp only [Act.put, List.setIfInBounds_toArray, List.set_cons_succ, List.set_cons_zero])
    refine (HW.out _).mono ?_
    rintro e w5 ⟨rfl, hb5⟩
    have HB5 := Lib.hid (bt HB4.out hb5)
    clear hb5 HB4
    go_wp2_with fail
    refine (awake_any w5).mono ?_
    rintro e w6 ⟨rfl, hb6⟩
    have HB6 := Lib.hid (bt HB5.out hb6)
    clear hb6 HB5
    go_wp2_with fail
    go_ret
    exact ⟨rfl, HB6.out⟩
  · have hB : exB v = false := by unfold exB; exact decide_eq_false hs
    have hs' : sz v < 0 := by omega
    have hV : exV v = 0 ∧ exN v = 0 := by unfold exV exN; rw [if_pos hs', if_pos hs']; exact ⟨rfl, rfl⟩
    rw [hB, hV.1, hV.2] at HX
    have ds : decide (0 ≤ sz v) = false := decide_eq_false hs
    clear hB HY hs hV
    generalize sz v = s at *
    go_enter Try.func3, Try.ntmps3
    go_wp2_with fail
    refine (HX.out _).mono ?_
    rintro e w1 ⟨rfl, hb1⟩
    have RX := Lib.hid (heap_alloc_new w1 (.cells #[.int .i64 0, .int .i64 0] 23))
    have hgx : w1.heap.size < (w1.alloc (.cells #[.int .i64 0, .int .i64 0] 23)).heap.size := by simp
    have hb2 := bt hb1 (ba (brefl w1) (.cells #[.int .i64 0, .int .i64 0] 23))
    have RP2 := Lib.hid ((hb2.block _ hgp).trans RP.out)
    have HB2 := Lib.hid (bt HBP.out hb2)
    obtain ⟨q, hq⟩ : ∃ q, q = w1.heap.size := ⟨_, rfl⟩
    rw [← hq] at RX hgx
    go_wp2_with fail
    rw [← hq]
    clear hb1 hb2 hq RP HBP hgp
    generalize w1.alloc (.cells #[.int .i64 0, .int .i64 0] 23) = w2 at *
    refine (HR.out _).mono ?_
    rintro e w' ⟨rfl, rfl⟩
    go_wp2_with fail
    have RXd := Lib.hid (show w2.drew.heap[q]? = some (.cells #[.int .i64 0, .int .i64 0] 23 (0, 0)) from RX.out)
    refine Tin.reg_begin w2.heap.size 28 (by rfl) (by kernel_rfl) ?_
    refine Tin.reg_quiets [0, 2] _ 26 rfl (by simp only [Tin.pick, List.map_cons, List.map_nil, Array.getD_eq_getD_getElem?, List.getElem?_toArray, List.getElem?_cons_zero, List.getElem?_cons_succ, Option.getD_some]; rfl) (by kernel_rfl) (by kernel_rfl) ?_
    repeat (first | go_big_quiet_step (fail))
    refine wpQuiet_nil ?_
    refine Tin.reg_one 1 _ rfl (by kernel_rfl) ?_
    try simp only [List.getElem_toArray, List.getElem_cons_succ, List.getElem_cons_zero]
    go_wp2_with fail
    refine Calls.mono (HS.out _) ?_
    rintro e w' ⟨rfl, rfl⟩
    go_wp2_with fail
    refine ⟨w2.heap.size, Below.refl _ _, Nat.le_refl _, ?_⟩
    refine Tin.reg_quiets [3, 4, 5, 6, 7, 8, 9, 10, 11, 12, 13, 14] _ 13 rfl (by simp only [Tin.pick, List.map_cons, List.map_nil, Array.getD_eq_getD_getElem?, List.getElem?_toArray, List.getElem?_cons_zero, List.getElem?_cons_succ, Option.getD_some]; rfl) (by kernel_rfl) (by kernel_rfl) ?_
    repeat (first | go_big_quiet_step (fail))
    refine wpQuiet_nil ?_
    refine Tin.reg_one 15 _ rfl (by kernel_rfl) ?_
    try simp only [List.getElem_toArray, List.getElem_cons_succ, List.getElem_cons_zero]
    go_wp2_with fail
    refine ⟨w2.heap.size, Below.refl _ _, Nat.le_refl _, ?_⟩
    refine Tin.reg_quiets [16, 17, 18, 19, 20, 21, 22, 23, 24, 25, 26, 27] _ 0 rfl (by simp only [Tin.pick, List.map_cons, List.map_nil, Array.getD_eq_getD_getElem?, List.getElem?_toArray, List.getElem?_cons_zero, List.getElem?_cons_succ, Option.getD_some]; rfl) (by kernel_rfl) (by kernel_rfl) ?_
    repeat (first | ((with_reducible refine wpq_load_row rt23 ?_ (.tmp 5) rfl q rfl 23 #[.int .i64 0, .int .i64 0] ?_ (fun w' h => by obtain ⟨p, rfl⟩ := h; exact (p.h.block _ hgx).trans RXd.out) ?_); rfl; rfl; simp only [Act.put, List.setIfInBounds_toArray, List.set_cons_succ, List.set_cons_zero]) | ((with_reducible refine wpq_neq pairE ?_ (.tmp 42) (.tmp 43) 23 rfl rfl rfl (pair_q _ _ _ _) ?_); rfl; simp only [Act.put, List.setIfInBounds_toArray, List.set_cons_succ, List.set_cons_zero]) | go_big_quiet_step (fail))
    refine wpQuiet_nil ?_
    refine Tin.reg_done (by kernel_rfl) ?_
    have hb3' : Below w2.heap.size w2 w2.drew := below_drew (brefl w2)
    have RP3 := Lib.hid ((hb3'.block _ (row_lt RP2.out)).trans RP2.out)
    have HB3 := Lib.hid (bt HB2.out hb3')
    clear hb3' RP2 HB2
    go_wp2_with ((with_reducible refine wpl_load_row rt23 ?_ (.tmp 3) rfl w.heap.size rfl 23 #[.int .i64 V, .int .i64 N] ?_ RP3.out ?_); rfl; rfl; simp only [Act.put, List.setIfInBounds_toArray, List.set_cons_succ, List.set_cons_zero])
    refine (HV.out _).mono ?_
    rintro e w4 ⟨rfl, hb4⟩
    have RP4 := Lib.hid ((hb4.block _ (row_lt RP3.out)).trans RP3.out)
    have HB4 := Lib.hid (bt HB3.out hb4)
    clear hb4 RP3 HB3
    go_wp2_with ((with_reducible refine wpl_load_row rt23 ?_ (.tmp 3) rfl w.heap.size rfl 23 #[.int .i64 V, .int .i64 N] ?_ RP4.out ?_); rfl; rfl; simp only [Act.put, List.setIfInBounds_toArray, List.set_cons_succ, List.set_cons_zero])
    refine (HW.out _).mono ?_
    rintro e w5 ⟨rfl, hb5⟩
    have HB5 := Lib.hid (bt HB4.out hb5)
    clear hb5 HB4
    go_wp2_with fail
    refine (awake_any w5).mono ?_
    rintro e w6 ⟨rfl, hb6⟩
    have HB6 := Lib.hid (bt HB5.out hb6)
    clear hb6 HB5
    go_wp2_with fail
    go_ret
    exact ⟨rfl, HB6.out⟩
end Go.Proofs.Ytckkncblbagfmaa
