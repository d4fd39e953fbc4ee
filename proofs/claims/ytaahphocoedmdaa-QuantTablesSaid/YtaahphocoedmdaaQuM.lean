/- The walk of QuantTables. -/
import Derived.Test.YtaahphocoedmdaaQuK
import Derived.Test.YtaahphocoedmdaaRwq
namespace Go.Proofs.Ytaahphocoedmdaa
open Go.RowKit
open Go.Tin
set_option linter.unusedVariables false
set_option linter.unusedSimpArgs false


theorem eqB : Try.prog.eqGuardType Try.prog.depth 23 = false := by kernel_rfl
theorem bldz (w : World) : (execOp (fun _ => undef) { dst := some 51, op := .build 23 #[], type := 23, pos := "", after := #[], guard := none }).run Try.prog w = .ok (.value (.agg (arr .i64 zer))) w := by kernel_rfl

set_option maxRecDepth 100000 in
set_option maxHeartbeats 8000000 in
theorem tables_0 (q : List Int) (hq : q.length = 64) (n : Int) (w : World)  :
    Calls Try.prog 3 #[.agg (arr .i64 q), .int .i64 0, .int .i64 n] w fun e w' => e = .returned (.bool true) ∧ Below w.heap.size w w' := by
  have HQ := Lib.hid hq
  have HW := Lib.hid (fun W => rwithin_any q hq 1 255 W)
  have HM := Lib.hid (fun W => may_any q hq W)
  have HBs := Lib.hid (fun W => base_any 0 W)
  have HSc := Lib.hid (fun W => scaled_any q hq n W)
  have HRs := Lib.hid (fun W h => rscaled_any q hq n W h)
  have HLb := Lib.hid (bsL_len 0)
  have HLs := Lib.hid (scL_len q n)
  have hcase : (inL q 1 255 = true ∧ decide (n < 1) = false ∧ decide (100 < n) = false ∧ scL q n = eachL (fun x _ => scaleI (byI n) x) q q ∧ scE q n = 0 ∧ scB q n = true) ∨ ((inL q 1 255 = false ∨ (inL q 1 255 = true ∧ decide (n < 1) = true) ∨ (inL q 1 255 = true ∧ decide (n < 1) = false ∧ decide (100 < n) = true)) ∧ scL q n = zer ∧ scE q n = 1) := by
    cases h1 : inL q 1 255
    · exact .inr ⟨.inl rfl, by simp [scL, scB, h1], by simp [scE, scB, h1]⟩
    · by_cases h2 : n < 1
      · have h3 : scB q n = false := by unfold scB; rw [h1]; simp; omega
        exact .inr ⟨.inr (.inl ⟨rfl, by simpa using h2⟩), by simp [scL, h3], by simp [scE, h3]⟩
      · by_cases h4 : 100 < n
        · have h3 : scB q n = false := by unfold scB; rw [h1]; simp; omega
          exact .inr ⟨.inr (.inr ⟨rfl, by simpa using h2, by simpa using h4⟩), by simp [scL, h3], by simp [scE, h3]⟩
        · have h3 : scB q n = true := by unfold scB; rw [h1]; simp; omega
          exact .inl ⟨rfl, by simpa using h2, by simpa using h4, by simp [scL, h3], by simp [scE, h3], h3⟩
  clear hq
  rw [show bsB 0 = true from rfl] at HBs
  have HBV := Lib.hid (show bsL 0 = fromL (baseK 0) from rfl)
  go_enter Try.func3, Try.ntmps3
  obtain ⟨g0, hB, hz⟩ := alloc1 w (.cells (arr .i64 q) 23)
  replace g0 := Lib.hid g0
  go_wp2_with ((with_reducible refine wpl_load_row rtB ?_ (.tmp 3) ?_ (w.heap.size) ?_ 23 (arr .i64 q) ?_ ?_ ?_); rfl; rfl; rfl; simp [HQ.out]; exact g0.out; simp only [Act.put, List.setIfInBounds_toArray, List.set_cons_succ, List.set_cons_zero])
  generalize hW0 : w.alloc _ = W0
  replace g0 := Lib.hid (show W0.heap[w.heap.size]? = some (.cells (arr .i64 q) 23 (0, 0)) by rw [← hW0]; exact g0.out)
  replace hB : Below w.heap.size w W0 := by rw [← hW0]; exact hB
  replace hz : W0.heap.size = w.heap.size + 1 := by rw [← hW0]; exact hz
  clear hW0
  refine (HW.out W0).mono ?_
  rintro e w1 ⟨rfl, hb1⟩
  replace g0 := Lib.hid ((hb1.block _ (show w.heap.size < _ by omega)).trans g0.out)
  have z1 := hb1.size
  replace hB := bt hB hb1
  clear hb1
  go_wp2_with fail
  refine (HBs.out w1).mono ?_
  rintro e w2 ⟨rfl, hb2⟩
  replace g0 := Lib.hid ((hb2.block _ (show w.heap.size < _ by omega)).trans g0.out)
  have z2 := hb2.size
  replace hB := bt hB hb2
  clear hb2
  generalize bsL 0 = bv at *
  generalize scL q n = sv at *
  generalize scE q n = er at *
  go_wp2_with (first | (((with_reducible refine wpl_store_row rtB ?_ (.tmp 8) (.tmp 17) ?_ (w2.heap.size) ?_ (arr .i64 bv) ?_ arr_one 23 ?_ _ ?_ (heap_alloc_new _ _) ?_); rfl; rfl; rfl; rfl; simp [HLb.out]; simp [zer_len]; intro w3 hr3 hg3 hs3; (try simp only [Act.put])); have hb3 : Below w2.heap.size w2 w3 := (ba (brefl w2) _).grown hg3 (by simp) (fun k hk => by cases hk; exact Nat.le_refl _); have R3 := Lib.hid hr3; have z3 : w2.heap.size < w3.heap.size := (by rw [hs3]; simp); have h0 := Lib.hid ((hb3.block _ (show w.heap.size < _ by omega)).trans g0.out); clear hr3 hg3 hs3) | ((with_reducible refine wpl_load_row rtB ?_ (.tmp 3) ?_ (w.heap.size) ?_ 23 (arr .i64 q) ?_ ?_ ?_); rfl; rfl; rfl; simp [HQ.out]; exact h0.out; simp only [Act.put, List.setIfInBounds_toArray, List.set_cons_succ, List.set_cons_zero]))
  refine (HSc.out w3).mono ?_
  rintro e w4 ⟨rfl, hb4⟩
  replace h0 := Lib.hid ((hb4.block _ (show w.heap.size < _ by omega)).trans h0.out)
  replace R3 := Lib.hid ((hb4.block _ z3).trans R3.out)
  have z4 := hb4.size
  replace hB := bt (bt hB hb3) hb4
  clear hb3 hb4 g0
  generalize w2.heap.size = gB at *
  go_wp2_with (first | (((with_reducible refine wpl_store_row rtB ?_ (.tmp 10) (.tmp 23) ?_ (w4.heap.size) ?_ (arr .i64 sv) ?_ arr_one 23 ?_ _ ?_ (heap_alloc_new _ _) ?_); rfl; rfl; rfl; rfl; simp [HLs.out]; simp [zer_len]; intro w5 hr5 hg5 hs5; (try simp only [Act.put])); have hb5 : Below w4.heap.size w4 w5 := (ba (brefl w4) _).grown hg5 (by simp) (fun k hk => by cases hk; exact Nat.le_refl _); have R5 := Lib.hid hr5; have z5 : w4.heap.size < w5.heap.size := (by rw [hs5]; simp); have k0 := Lib.hid ((hb5.block _ (show w.heap.size < _ by omega)).trans h0.out); have k3 := Lib.hid ((hb5.block _ (show gB < _ by omega)).trans R3.out); clear hr5 hg5 hs5) | ((with_reducible refine wpl_load_row rtB ?_ (.tmp 3) ?_ (w.heap.size) ?_ 23 (arr .i64 q) ?_ ?_ ?_); rfl; rfl; rfl; simp [HQ.out]; exact k0.out; simp only [Act.put, List.setIfInBounds_toArray, List.set_cons_succ, List.set_cons_zero]))
  replace hB := bt hB hb5
  clear hb5 h0 R3
  generalize w4.heap.size = gS at *
  refine (HM.out w5).mono ?_
  rintro e w6 ⟨rfl, hb6⟩
  replace k0 := Lib.hid ((hb6.block _ (show w.heap.size < _ by omega)).trans k0.out)
  replace k3 := Lib.hid ((hb6.block _ (show gB < _ by omega)).trans k3.out)
  replace R5 := Lib.hid ((hb6.block _ z5).trans R5.out)
  have z6 := hb6.size
  replace hB := bt hB hb6
  clear hb6
  have x0 : w.heap.size < w6.heap.size := by omega
  have x3 : gB < w6.heap.size := by omega
  have x5 : gS < w6.heap.size := by omega
  clear z1 z2 z3 z4 z5 z6 hz
  go_wp2_with fail
  refine Tin.reg_begin w6.heap.size 16 (by rfl) (by kernel_rfl) ?_
  refine Tin.reg_quiets [0, 1, 2, 3] _ 12 rfl (by simp only [Tin.pick, List.map_cons, List.map_nil, Array.getD_eq_getD_getElem?, List.getElem?_toArray, List.getElem?_cons_zero, List.getElem?_cons_succ, Option.getD_some]; rfl) (by kernel_rfl) (by kernel_rfl) ?_
  repeat (first | (refine wpq_load_arr at27 rfl (.tmp 8) rfl gB rfl 23 HLb.out (fun W ⟨p, hp⟩ => by rw [hp]; exact (p.h.block _ x3).trans k3.out) ?_; go_simp) | go_big_quiet_step (fail))
  refine wpQuiet_nil ?_
  refine Tin.reg_one 4 _ rfl (by kernel_rfl) ?_
  try simp only [List.getElem_toArray, List.getElem_cons_succ, List.getElem_cons_zero]
  go_wp2_with fail
  refine Calls.mono (rbase_0 _) ?_
  rintro e w7 ⟨rfl, hb7⟩
  go_wp2_with fail
  refine ⟨w7.heap.size, hb7, hb7.size, ?_⟩
  replace k0 := Lib.hid ((hb7.block _ x0).trans k0.out)
  replace R5 := Lib.hid ((hb7.block _ x5).trans R5.out)
  have y0 := Nat.lt_of_lt_of_le x0 hb7.size
  have y5 := Nat.lt_of_lt_of_le x5 hb7.size
  replace hB := bt hB.drew hb7
  clear hb7 x0 x3 x5
  refine Tin.reg_quiets [5, 6, 7, 8, 9, 10, 11, 12, 13, 14, 15] _ 0 rfl (by simp only [Tin.pick, List.map_cons, List.map_nil, Array.getD_eq_getD_getElem?, List.getElem?_toArray, List.getElem?_cons_zero, List.getElem?_cons_succ, Option.getD_some]; rfl) (by kernel_rfl) (by kernel_rfl) ?_
  repeat (first | (refine wpq_ne_arr (l := bv) (l' := (fromL (baseK 0))) at27 eqB rfl (.tmp 41) (.tmp 43) 23 rfl rfl rfl HLb.out (fromL_len _) false (by rw [HBV.out]; simp) ?_; go_simp) | go_big_quiet_step (fail))
  refine wpQuiet_nil ?_
  refine Tin.reg_done (by kernel_rfl) ?_
  rcases hcase with ⟨c1, c2, c3, rfl, rfl, c6⟩ | ⟨hc, rfl, rfl⟩
  · have C6 := Lib.hid c6
    clear c6
    go_wp2_with fail
    refine Tin.reg_begin w7.heap.size 13 (by rfl) (by kernel_rfl) ?_
    refine Tin.reg_quiets [0, 1, 2] _ 10 rfl (by simp only [Tin.pick, List.map_cons, List.map_nil, Array.getD_eq_getD_getElem?, List.getElem?_toArray, List.getElem?_cons_zero, List.getElem?_cons_succ, Option.getD_some]; rfl) (by kernel_rfl) (by kernel_rfl) ?_
    repeat (first | (refine wpq_load_arr at27 rfl (.tmp 10) rfl gS rfl 23 HLs.out (fun W ⟨p, hp⟩ => by rw [hp]; exact (p.h.block _ y5).trans R5.out) ?_; go_simp) | (refine wpq_load_arr at27 rfl (.tmp 3) rfl w.heap.size rfl 23 HQ.out (fun W ⟨p, hp⟩ => by rw [hp]; exact (p.h.block _ y0).trans k0.out) ?_; go_simp) | go_big_quiet_step (fail))
    refine wpQuiet_nil ?_
    refine Tin.reg_one 3 _ rfl (by kernel_rfl) ?_
    try simp only [List.getElem_toArray, List.getElem_cons_succ, List.getElem_cons_zero]
    go_wp2_with fail
    refine Calls.mono (HRs.out _ C6.out) ?_
    rintro e w8 ⟨rfl, hb8⟩
    go_wp2_with fail
    refine ⟨w8.heap.size, hb8, hb8.size, ?_⟩
    replace hB := bt hB.drew hb8
    refine Tin.reg_quiets [4, 5, 6, 7, 8, 9] _ 3 rfl (by simp only [Tin.pick, List.map_cons, List.map_nil, Array.getD_eq_getD_getElem?, List.getElem?_toArray, List.getElem?_cons_zero, List.getElem?_cons_succ, Option.getD_some]; rfl) (by kernel_rfl) (by kernel_rfl) ?_
    repeat (first | (refine wpq_eq_arr (l := (eachL (fun x _ => scaleI (byI n) x) q q)) (l' := (eachL (fun x _ => scaleI (byI n) x) q q)) at27 eqB rfl (.tmp 75) (.tmp 78) 23 rfl rfl rfl HLs.out HLs.out true (by simp) ?_; go_simp) | go_big_quiet_step (fail))
    refine wpQuiet_nil ?_
    refine Tin.reg_one 10 _ rfl (by kernel_rfl) ?_
    try simp only [List.getElem_toArray, List.getElem_cons_succ, List.getElem_cons_zero]
    go_wp2_with fail
    refine Calls.mono (awake_any _) ?_
    rintro e w9 ⟨rfl, hb9⟩
    go_wp2_with fail
    refine ⟨w9.heap.size, hb9, hb9.size, ?_⟩
    refine Tin.reg_quiets [11, 12] _ 0 rfl (by simp only [Tin.pick, List.map_cons, List.map_nil, Array.getD_eq_getD_getElem?, List.getElem?_toArray, List.getElem?_cons_zero, List.getElem?_cons_succ, Option.getD_some]; rfl) (by kernel_rfl) (by kernel_rfl) ?_
    repeat (first | go_big_quiet_step (fail))
    refine wpQuiet_nil ?_
    refine Tin.reg_done (by kernel_rfl) ?_
    go_wp2_with fail
    go_ret
    exact ⟨rfl, bt hB hb9⟩
  · rcases hc with c1 | ⟨c1, c2⟩ | ⟨c1, c2, c3⟩
    all_goals
      go_wp2_with (first | ((with_reducible refine wpl_load_row rtB ?_ (.tmp 10) ?_ (gS) ?_ 23 (arr .i64 zer) ?_ ?_ ?_); rfl; rfl; rfl; simp [zer_len]; exact R5.out; simp only [Act.put, List.setIfInBounds_toArray, List.set_cons_succ, List.set_cons_zero]) | ((with_reducible refine wpl_eq_arr (l := zer) (l' := zer) at27 eqB ?_ (.tmp 65) (.tmp 66) 23 ?_ ?_ ?_ zer_len zer_len true (by simp) ?_); rfl; rfl; rfl; rfl; simp only [Act.put, List.setIfInBounds_toArray, List.set_cons_succ, List.set_cons_zero]))
      refine (awake_any _).mono ?_
      rintro e w9 ⟨rfl, hb9⟩
      go_wp2_with fail
      go_ret
      exact ⟨rfl, bt hB hb9⟩


set_option maxRecDepth 100000 in
set_option maxHeartbeats 8000000 in
theorem tables_1 (q : List Int) (hq : q.length = 64) (n : Int) (w : World)  :
    Calls Try.prog 3 #[.agg (arr .i64 q), .int .i64 1, .int .i64 n] w fun e w' => e = .returned (.bool true) ∧ Below w.heap.size w w' := by
  have HQ := Lib.hid hq
  have HW := Lib.hid (fun W => rwithin_any q hq 1 255 W)
  have HM := Lib.hid (fun W => may_any q hq W)
  have HBs := Lib.hid (fun W => base_any 1 W)
  have HSc := Lib.hid (fun W => scaled_any q hq n W)
  have HRs := Lib.hid (fun W h => rscaled_any q hq n W h)
  have HLb := Lib.hid (bsL_len 1)
  have HLs := Lib.hid (scL_len q n)
  have hcase : (inL q 1 255 = true ∧ decide (n < 1) = false ∧ decide (100 < n) = false ∧ scL q n = eachL (fun x _ => scaleI (byI n) x) q q ∧ scE q n = 0 ∧ scB q n = true) ∨ ((inL q 1 255 = false ∨ (inL q 1 255 = true ∧ decide (n < 1) = true) ∨ (inL q 1 255 = true ∧ decide (n < 1) = false ∧ decide (100 < n) = true)) ∧ scL q n = zer ∧ scE q n = 1) := by
    cases h1 : inL q 1 255
    · exact .inr ⟨.inl rfl, by simp [scL, scB, h1], by simp [scE, scB, h1]⟩
    · by_cases h2 : n < 1
      · have h3 : scB q n = false := by unfold scB; rw [h1]; simp; omega
        exact .inr ⟨.inr (.inl ⟨rfl, by simpa using h2⟩), by simp [scL, h3], by simp [scE, h3]⟩
      · by_cases h4 : 100 < n
        · have h3 : scB q n = false := by unfold scB; rw [h1]; simp; omega
          exact .inr ⟨.inr (.inr ⟨rfl, by simpa using h2, by simpa using h4⟩), by simp [scL, h3], by simp [scE, h3]⟩
        · have h3 : scB q n = true := by unfold scB; rw [h1]; simp; omega
          exact .inl ⟨rfl, by simpa using h2, by simpa using h4, by simp [scL, h3], by simp [scE, h3], h3⟩
  clear hq
  rw [show bsB 1 = true from rfl] at HBs
  have HBV := Lib.hid (show bsL 1 = fromL (baseK 1) from rfl)
  go_enter Try.func3, Try.ntmps3
  obtain ⟨g0, hB, hz⟩ := alloc1 w (.cells (arr .i64 q) 23)
  replace g0 := Lib.hid g0
  go_wp2_with ((with_reducible refine wpl_load_row rtB ?_ (.tmp 3) ?_ (w.heap.size) ?_ 23 (arr .i64 q) ?_ ?_ ?_); rfl; rfl; rfl; simp [HQ.out]; exact g0.out; simp only [Act.put, List.setIfInBounds_toArray, List.set_cons_succ, List.set_cons_zero])
  generalize hW0 : w.alloc _ = W0
  replace g0 := Lib.hid (show W0.heap[w.heap.size]? = some (.cells (arr .i64 q) 23 (0, 0)) by rw [← hW0]; exact g0.out)
  replace hB : Below w.heap.size w W0 := by rw [← hW0]; exact hB
  replace hz : W0.heap.size = w.heap.size + 1 := by rw [← hW0]; exact hz
  clear hW0
  refine (HW.out W0).mono ?_
  rintro e w1 ⟨rfl, hb1⟩
  replace g0 := Lib.hid ((hb1.block _ (show w.heap.size < _ by omega)).trans g0.out)
  have z1 := hb1.size
  replace hB := bt hB hb1
  clear hb1
  go_wp2_with fail
  refine (HBs.out w1).mono ?_
  rintro e w2 ⟨rfl, hb2⟩
  replace g0 := Lib.hid ((hb2.block _ (show w.heap.size < _ by omega)).trans g0.out)
  have z2 := hb2.size
  replace hB := bt hB hb2
  clear hb2
  generalize bsL 1 = bv at *
  generalize scL q n = sv at *
  generalize scE q n = er at *
  go_wp2_with (first | (((with_reducible refine wpl_store_row rtB ?_ (.tmp 8) (.tmp 17) ?_ (w2.heap.size) ?_ (arr .i64 bv) ?_ arr_one 23 ?_ _ ?_ (heap_alloc_new _ _) ?_); rfl; rfl; rfl; rfl; simp [HLb.out]; simp [zer_len]; intro w3 hr3 hg3 hs3; (try simp only [Act.put])); have hb3 : Below w2.heap.size w2 w3 := (ba (brefl w2) _).grown hg3 (by simp) (fun k hk => by cases hk; exact Nat.le_refl _); have R3 := Lib.hid hr3; have z3 : w2.heap.size < w3.heap.size := (by rw [hs3]; simp); have h0 := Lib.hid ((hb3.block _ (show w.heap.size < _ by omega)).trans g0.out); clear hr3 hg3 hs3) | ((with_reducible refine wpl_load_row rtB ?_ (.tmp 3) ?_ (w.heap.size) ?_ 23 (arr .i64 q) ?_ ?_ ?_); rfl; rfl; rfl; simp [HQ.out]; exact h0.out; simp only [Act.put, List.setIfInBounds_toArray, List.set_cons_succ, List.set_cons_zero]))
  refine (HSc.out w3).mono ?_
  rintro e w4 ⟨rfl, hb4⟩
  replace h0 := Lib.hid ((hb4.block _ (show w.heap.size < _ by omega)).trans h0.out)
  replace R3 := Lib.hid ((hb4.block _ z3).trans R3.out)
  have z4 := hb4.size
  replace hB := bt (bt hB hb3) hb4
  clear hb3 hb4 g0
  generalize w2.heap.size = gB at *
  go_wp2_with (first | (((with_reducible refine wpl_store_row rtB ?_ (.tmp 10) (.tmp 23) ?_ (w4.heap.size) ?_ (arr .i64 sv) ?_ arr_one 23 ?_ _ ?_ (heap_alloc_new _ _) ?_); rfl; rfl; rfl; rfl; simp [HLs.out]; simp [zer_len]; intro w5 hr5 hg5 hs5; (try simp only [Act.put])); have hb5 : Below w4.heap.size w4 w5 := (ba (brefl w4) _).grown hg5 (by simp) (fun k hk => by cases hk; exact Nat.le_refl _); have R5 := Lib.hid hr5; have z5 : w4.heap.size < w5.heap.size := (by rw [hs5]; simp); have k0 := Lib.hid ((hb5.block _ (show w.heap.size < _ by omega)).trans h0.out); have k3 := Lib.hid ((hb5.block _ (show gB < _ by omega)).trans R3.out); clear hr5 hg5 hs5) | ((with_reducible refine wpl_load_row rtB ?_ (.tmp 3) ?_ (w.heap.size) ?_ 23 (arr .i64 q) ?_ ?_ ?_); rfl; rfl; rfl; simp [HQ.out]; exact k0.out; simp only [Act.put, List.setIfInBounds_toArray, List.set_cons_succ, List.set_cons_zero]))
  replace hB := bt hB hb5
  clear hb5 h0 R3
  generalize w4.heap.size = gS at *
  refine (HM.out w5).mono ?_
  rintro e w6 ⟨rfl, hb6⟩
  replace k0 := Lib.hid ((hb6.block _ (show w.heap.size < _ by omega)).trans k0.out)
  replace k3 := Lib.hid ((hb6.block _ (show gB < _ by omega)).trans k3.out)
  replace R5 := Lib.hid ((hb6.block _ z5).trans R5.out)
  have z6 := hb6.size
  replace hB := bt hB hb6
  clear hb6
  have x0 : w.heap.size < w6.heap.size := by omega
  have x3 : gB < w6.heap.size := by omega
  have x5 : gS < w6.heap.size := by omega
  clear z1 z2 z3 z4 z5 z6 hz
  go_wp2_with fail
  refine Tin.reg_begin w6.heap.size 16 (by rfl) (by kernel_rfl) ?_
  refine Tin.reg_quiets [0, 1, 2, 3] _ 12 rfl (by simp only [Tin.pick, List.map_cons, List.map_nil, Array.getD_eq_getD_getElem?, List.getElem?_toArray, List.getElem?_cons_zero, List.getElem?_cons_succ, Option.getD_some]; rfl) (by kernel_rfl) (by kernel_rfl) ?_
  repeat (first | (refine wpq_load_arr at27 rfl (.tmp 8) rfl gB rfl 23 HLb.out (fun W ⟨p, hp⟩ => by rw [hp]; exact (p.h.block _ x3).trans k3.out) ?_; go_simp) | go_big_quiet_step (fail))
  refine wpQuiet_nil ?_
  refine Tin.reg_one 4 _ rfl (by kernel_rfl) ?_
  try simp only [List.getElem_toArray, List.getElem_cons_succ, List.getElem_cons_zero]
  go_wp2_with fail
  refine Calls.mono (rbase_1 _) ?_
  rintro e w7 ⟨rfl, hb7⟩
  go_wp2_with fail
  refine ⟨w7.heap.size, hb7, hb7.size, ?_⟩
  replace k0 := Lib.hid ((hb7.block _ x0).trans k0.out)
  replace R5 := Lib.hid ((hb7.block _ x5).trans R5.out)
  have y0 := Nat.lt_of_lt_of_le x0 hb7.size
  have y5 := Nat.lt_of_lt_of_le x5 hb7.size
  replace hB := bt hB.drew hb7
  clear hb7 x0 x3 x5
  refine Tin.reg_quiets [5, 6, 7, 8, 9, 10, 11, 12, 13, 14, 15] _ 0 rfl (by simp only [Tin.pick, List.map_cons, List.map_nil, Array.getD_eq_getD_getElem?, List.getElem?_toArray, List.getElem?_cons_zero, List.getElem?_cons_succ, Option.getD_some]; rfl) (by kernel_rfl) (by kernel_rfl) ?_
  repeat (first | (refine wpq_ne_arr (l := bv) (l' := (fromL (baseK 1))) at27 eqB rfl (.tmp 41) (.tmp 43) 23 rfl rfl rfl HLb.out (fromL_len _) false (by rw [HBV.out]; simp) ?_; go_simp) | go_big_quiet_step (fail))
  refine wpQuiet_nil ?_
  refine Tin.reg_done (by kernel_rfl) ?_
  rcases hcase with ⟨c1, c2, c3, rfl, rfl, c6⟩ | ⟨hc, rfl, rfl⟩
  · have C6 := Lib.hid c6
    clear c6
    go_wp2_with fail
    refine Tin.reg_begin w7.heap.size 13 (by rfl) (by kernel_rfl) ?_
    refine Tin.reg_quiets [0, 1, 2] _ 10 rfl (by simp only [Tin.pick, List.map_cons, List.map_nil, Array.getD_eq_getD_getElem?, List.getElem?_toArray, List.getElem?_cons_zero, List.getElem?_cons_succ, Option.getD_some]; rfl) (by kernel_rfl) (by kernel_rfl) ?_
    repeat (first | (refine wpq_load_arr at27 rfl (.tmp 10) rfl gS rfl 23 HLs.out (fun W ⟨p, hp⟩ => by rw [hp]; exact (p.h.block _ y5).trans R5.out) ?_; go_simp) | (refine wpq_load_arr at27 rfl (.tmp 3) rfl w.heap.size rfl 23 HQ.out (fun W ⟨p, hp⟩ => by rw [hp]; exact (p.h.block _ y0).trans k0.out) ?_; go_simp) | go_big_quiet_step (fail))
    refine wpQuiet_nil ?_
    refine Tin.reg_one 3 _ rfl (by kernel_rfl) ?_
    try simp only [List.getElem_toArray, List.getElem_cons_succ, List.getElem_cons_zero]
    go_wp2_with fail
    refine Calls.mono (HRs.out _ C6.out) ?_
    rintro e w8 ⟨rfl, hb8⟩
    go_wp2_with fail
    refine ⟨w8.heap.size, hb8, hb8.size, ?_⟩
    replace hB := bt hB.drew hb8
    refine Tin.reg_quiets [4, 5, 6, 7, 8, 9] _ 3 rfl (by simp only [Tin.pick, List.map_cons, List.map_nil, Array.getD_eq_getD_getElem?, List.getElem?_toArray, List.getElem?_cons_zero, List.getElem?_cons_succ, Option.getD_some]; rfl) (by kernel_rfl) (by kernel_rfl) ?_
    repeat (first | (refine wpq_eq_arr (l := (eachL (fun x _ => scaleI (byI n) x) q q)) (l' := (eachL (fun x _ => scaleI (byI n) x) q q)) at27 eqB rfl (.tmp 75) (.tmp 78) 23 rfl rfl rfl HLs.out HLs.out true (by simp) ?_; go_simp) | go_big_quiet_step (fail))
    refine wpQuiet_nil ?_
    refine Tin.reg_one 10 _ rfl (by kernel_rfl) ?_
    try simp only [List.getElem_toArray, List.getElem_cons_succ, List.getElem_cons_zero]
    go_wp2_with fail
    refine Calls.mono (awake_any _) ?_
    rintro e w9 ⟨rfl, hb9⟩
    go_wp2_with fail
    refine ⟨w9.heap.size, hb9, hb9.size, ?_⟩
    refine Tin.reg_quiets [11, 12] _ 0 rfl (by simp only [Tin.pick, List.map_cons, List.map_nil, Array.getD_eq_getD_getElem?, List.getElem?_toArray, List.getElem?_cons_zero, List.getElem?_cons_succ, Option.getD_some]; rfl) (by kernel_rfl) (by kernel_rfl) ?_
    repeat (first | go_big_quiet_step (fail))
    refine wpQuiet_nil ?_
    refine Tin.reg_done (by kernel_rfl) ?_
    go_wp2_with fail
    go_ret
    exact ⟨rfl, bt hB hb9⟩
  · rcases hc with c1 | ⟨c1, c2⟩ | ⟨c1, c2, c3⟩
    all_goals
      go_wp2_with (first | ((with_reducible refine wpl_load_row rtB ?_ (.tmp 10) ?_ (gS) ?_ 23 (arr .i64 zer) ?_ ?_ ?_); rfl; rfl; rfl; simp [zer_len]; exact R5.out; simp only [Act.put, List.setIfInBounds_toArray, List.set_cons_succ, List.set_cons_zero]) | ((with_reducible refine wpl_eq_arr (l := zer) (l' := zer) at27 eqB ?_ (.tmp 65) (.tmp 66) 23 ?_ ?_ ?_ zer_len zer_len true (by simp) ?_); rfl; rfl; rfl; rfl; simp only [Act.put, List.setIfInBounds_toArray, List.set_cons_succ, List.set_cons_zero]))
      refine (awake_any _).mono ?_
      rintro e w9 ⟨rfl, hb9⟩
      go_wp2_with fail
      go_ret
      exact ⟨rfl, bt hB hb9⟩


set_option maxRecDepth 100000 in
set_option maxHeartbeats 8000000 in
theorem tables_2 (q : List Int) (hq : q.length = 64) (n k : Int) (w : World) (hk : bsB k = false) (k0' : (k == 0) = false) (k1' : (k == 1) = false) :
    Calls Try.prog 3 #[.agg (arr .i64 q), .int .i64 k, .int .i64 n] w fun e w' => e = .returned (.bool true) ∧ Below w.heap.size w w' := by
  have HQ := Lib.hid hq
  have HW := Lib.hid (fun W => rwithin_any q hq 1 255 W)
  have HM := Lib.hid (fun W => may_any q hq W)
  have HBs := Lib.hid (fun W => base_any k W)
  have HSc := Lib.hid (fun W => scaled_any q hq n W)
  have HRs := Lib.hid (fun W h => rscaled_any q hq n W h)
  have HLb := Lib.hid (bsL_len k)
  have HLs := Lib.hid (scL_len q n)
  have hcase : (inL q 1 255 = true ∧ decide (n < 1) = false ∧ decide (100 < n) = false ∧ scL q n = eachL (fun x _ => scaleI (byI n) x) q q ∧ scE q n = 0 ∧ scB q n = true) ∨ ((inL q 1 255 = false ∨ (inL q 1 255 = true ∧ decide (n < 1) = true) ∨ (inL q 1 255 = true ∧ decide (n < 1) = false ∧ decide (100 < n) = true)) ∧ scL q n = zer ∧ scE q n = 1) := by
    cases h1 : inL q 1 255
    · exact .inr ⟨.inl rfl, by simp [scL, scB, h1], by simp [scE, scB, h1]⟩
    · by_cases h2 : n < 1
      · have h3 : scB q n = false := by unfold scB; rw [h1]; simp; omega
        exact .inr ⟨.inr (.inl ⟨rfl, by simpa using h2⟩), by simp [scL, h3], by simp [scE, h3]⟩
      · by_cases h4 : 100 < n
        · have h3 : scB q n = false := by unfold scB; rw [h1]; simp; omega
          exact .inr ⟨.inr (.inr ⟨rfl, by simpa using h2, by simpa using h4⟩), by simp [scL, h3], by simp [scE, h3]⟩
        · have h3 : scB q n = true := by unfold scB; rw [h1]; simp; omega
          exact .inl ⟨rfl, by simpa using h2, by simpa using h4, by simp [scL, h3], by simp [scE, h3], h3⟩
  clear hq
  rw [hk] at HBs
  have HBV := Lib.hid (show bsL k = zer from by unfold bsL;  rw [if_neg (by rw [hk];  decide)])
  go_enter Try.func3, Try.ntmps3
  obtain ⟨g0, hB, hz⟩ := alloc1 w (.cells (arr .i64 q) 23)
  replace g0 := Lib.hid g0
  go_wp2_with ((with_reducible refine wpl_load_row rtB ?_ (.tmp 3) ?_ (w.heap.size) ?_ 23 (arr .i64 q) ?_ ?_ ?_); rfl; rfl; rfl; simp [HQ.out]; exact g0.out; simp only [Act.put, List.setIfInBounds_toArray, List.set_cons_succ, List.set_cons_zero])
  generalize hW0 : w.alloc _ = W0
  replace g0 := Lib.hid (show W0.heap[w.heap.size]? = some (.cells (arr .i64 q) 23 (0, 0)) by rw [← hW0]; exact g0.out)
  replace hB : Below w.heap.size w W0 := by rw [← hW0]; exact hB
  replace hz : W0.heap.size = w.heap.size + 1 := by rw [← hW0]; exact hz
  clear hW0
  refine (HW.out W0).mono ?_
  rintro e w1 ⟨rfl, hb1⟩
  replace g0 := Lib.hid ((hb1.block _ (show w.heap.size < _ by omega)).trans g0.out)
  have z1 := hb1.size
  replace hB := bt hB hb1
  clear hb1
  go_wp2_with fail
  refine (HBs.out w1).mono ?_
  rintro e w2 ⟨rfl, hb2⟩
  replace g0 := Lib.hid ((hb2.block _ (show w.heap.size < _ by omega)).trans g0.out)
  have z2 := hb2.size
  replace hB := bt hB hb2
  clear hb2
  generalize bsL k = bv at *
  generalize scL q n = sv at *
  generalize scE q n = er at *
  go_wp2_with (first | (((with_reducible refine wpl_store_row rtB ?_ (.tmp 8) (.tmp 17) ?_ (w2.heap.size) ?_ (arr .i64 bv) ?_ arr_one 23 ?_ _ ?_ (heap_alloc_new _ _) ?_); rfl; rfl; rfl; rfl; simp [HLb.out]; simp [zer_len]; intro w3 hr3 hg3 hs3; (try simp only [Act.put])); have hb3 : Below w2.heap.size w2 w3 := (ba (brefl w2) _).grown hg3 (by simp) (fun k hk => by cases hk; exact Nat.le_refl _); have R3 := Lib.hid hr3; have z3 : w2.heap.size < w3.heap.size := (by rw [hs3]; simp); have h0 := Lib.hid ((hb3.block _ (show w.heap.size < _ by omega)).trans g0.out); clear hr3 hg3 hs3) | ((with_reducible refine wpl_load_row rtB ?_ (.tmp 3) ?_ (w.heap.size) ?_ 23 (arr .i64 q) ?_ ?_ ?_); rfl; rfl; rfl; simp [HQ.out]; exact h0.out; simp only [Act.put, List.setIfInBounds_toArray, List.set_cons_succ, List.set_cons_zero]))
  refine (HSc.out w3).mono ?_
  rintro e w4 ⟨rfl, hb4⟩
  replace h0 := Lib.hid ((hb4.block _ (show w.heap.size < _ by omega)).trans h0.out)
  replace R3 := Lib.hid ((hb4.block _ z3).trans R3.out)
  have z4 := hb4.size
  replace hB := bt (bt hB hb3) hb4
  clear hb3 hb4 g0
  generalize w2.heap.size = gB at *
  go_wp2_with (first | (((with_reducible refine wpl_store_row rtB ?_ (.tmp 10) (.tmp 23) ?_ (w4.heap.size) ?_ (arr .i64 sv) ?_ arr_one 23 ?_ _ ?_ (heap_alloc_new _ _) ?_); rfl; rfl; rfl; rfl; simp [HLs.out]; simp [zer_len]; intro w5 hr5 hg5 hs5; (try simp only [Act.put])); have hb5 : Below w4.heap.size w4 w5 := (ba (brefl w4) _).grown hg5 (by simp) (fun k hk => by cases hk; exact Nat.le_refl _); have R5 := Lib.hid hr5; have z5 : w4.heap.size < w5.heap.size := (by rw [hs5]; simp); have k0 := Lib.hid ((hb5.block _ (show w.heap.size < _ by omega)).trans h0.out); have k3 := Lib.hid ((hb5.block _ (show gB < _ by omega)).trans R3.out); clear hr5 hg5 hs5) | ((with_reducible refine wpl_load_row rtB ?_ (.tmp 3) ?_ (w.heap.size) ?_ 23 (arr .i64 q) ?_ ?_ ?_); rfl; rfl; rfl; simp [HQ.out]; exact k0.out; simp only [Act.put, List.setIfInBounds_toArray, List.set_cons_succ, List.set_cons_zero]))
  replace hB := bt hB hb5
  clear hb5 h0 R3
  generalize w4.heap.size = gS at *
  refine (HM.out w5).mono ?_
  rintro e w6 ⟨rfl, hb6⟩
  replace k0 := Lib.hid ((hb6.block _ (show w.heap.size < _ by omega)).trans k0.out)
  replace k3 := Lib.hid ((hb6.block _ (show gB < _ by omega)).trans k3.out)
  replace R5 := Lib.hid ((hb6.block _ z5).trans R5.out)
  have z6 := hb6.size
  replace hB := bt hB hb6
  clear hb6
  have x0 : w.heap.size < w6.heap.size := by omega
  have x3 : gB < w6.heap.size := by omega
  have x5 : gS < w6.heap.size := by omega
  clear z1 z2 z3 z4 z5 z6 hz
  go_wp2_with fail
  refine Tin.reg_begin w6.heap.size 16 (by rfl) (by kernel_rfl) ?_
  refine Tin.reg_quiets [0, 1, 2, 3] _ 12 rfl (by simp only [Tin.pick, List.map_cons, List.map_nil, Array.getD_eq_getD_getElem?, List.getElem?_toArray, List.getElem?_cons_zero, List.getElem?_cons_succ, Option.getD_some]; rfl) (by kernel_rfl) (by kernel_rfl) ?_
  repeat (first | go_big_quiet_step (fail))
  refine wpQuiet_nil ?_
  refine Tin.reg_one 4 _ rfl (by kernel_rfl) ?_
  try simp only [List.getElem_toArray, List.getElem_cons_succ, List.getElem_cons_zero]
  go_wp2_with fail
  refine ⟨w6.heap.size, Below.refl _ _, Nat.le_refl _, ?_⟩
  refine Tin.reg_quiets [5, 6, 7, 8, 9, 10, 11, 12, 13, 14, 15] _ 0 rfl (by simp only [Tin.pick, List.map_cons, List.map_nil, Array.getD_eq_getD_getElem?, List.getElem?_toArray, List.getElem?_cons_zero, List.getElem?_cons_succ, Option.getD_some]; rfl) (by kernel_rfl) (by kernel_rfl) ?_
  repeat (first | (refine wpq_load_arr at27 rfl (.tmp 8) rfl gB rfl 23 HLb.out (fun W ⟨p, hp⟩ => by rw [hp]; exact (p.h.block _ x3).trans k3.out) ?_; go_simp) | (refine wpq_value (.agg (arr .i64 zer)) rfl (fun W _ => bldz W) ?_; go_simp) | (refine wpq_ne_arr (l := bv) (l' := zer) at27 eqB rfl (.tmp 50) (.tmp 51) 23 rfl rfl rfl HLb.out zer_len false (by rw [HBV.out]; simp) ?_; go_simp) | go_big_quiet_step (fail))
  refine wpQuiet_nil ?_
  obtain ⟨w7, hw7⟩ : ∃ w7, w7 = w6.drew := ⟨_, rfl⟩
  rw [← hw7]
  have y0 : w.heap.size < w7.heap.size := by rw [hw7]; exact x0
  have y5 : gS < w7.heap.size := by rw [hw7]; exact x5
  replace hB : Below w.heap.size w w7 := by rw [hw7]; exact hB.drew
  replace k0 := Lib.hid (show w7.heap[w.heap.size]? = some (.cells (arr .i64 q) 23 (0, 0)) by rw [hw7]; exact k0.out)
  replace R5 := Lib.hid (show w7.heap[gS]? = some (.cells (arr .i64 sv) 23 (0, 0)) by rw [hw7]; exact R5.out)
  clear hw7
  refine Tin.reg_done (by kernel_rfl) ?_
  rcases hcase with ⟨c1, c2, c3, rfl, rfl, c6⟩ | ⟨hc, rfl, rfl⟩
  · have C6 := Lib.hid c6
    clear c6
    go_wp2_with fail
    refine Tin.reg_begin w7.heap.size 13 (by rfl) (by kernel_rfl) ?_
    refine Tin.reg_quiets [0, 1, 2] _ 10 rfl (by simp only [Tin.pick, List.map_cons, List.map_nil, Array.getD_eq_getD_getElem?, List.getElem?_toArray, List.getElem?_cons_zero, List.getElem?_cons_succ, Option.getD_some]; rfl) (by kernel_rfl) (by kernel_rfl) ?_
    repeat (first | (refine wpq_load_arr at27 rfl (.tmp 10) rfl gS rfl 23 HLs.out (fun W ⟨p, hp⟩ => by rw [hp]; exact (p.h.block _ y5).trans R5.out) ?_; go_simp) | (refine wpq_load_arr at27 rfl (.tmp 3) rfl w.heap.size rfl 23 HQ.out (fun W ⟨p, hp⟩ => by rw [hp]; exact (p.h.block _ y0).trans k0.out) ?_; go_simp) | go_big_quiet_step (fail))
    refine wpQuiet_nil ?_
    refine Tin.reg_one 3 _ rfl (by kernel_rfl) ?_
    try simp only [List.getElem_toArray, List.getElem_cons_succ, List.getElem_cons_zero]
    go_wp2_with fail
    refine Calls.mono (HRs.out _ C6.out) ?_
    rintro e w8 ⟨rfl, hb8⟩
    go_wp2_with fail
    refine ⟨w8.heap.size, hb8, hb8.size, ?_⟩
    replace hB := bt hB.drew hb8
    refine Tin.reg_quiets [4, 5, 6, 7, 8, 9] _ 3 rfl (by simp only [Tin.pick, List.map_cons, List.map_nil, Array.getD_eq_getD_getElem?, List.getElem?_toArray, List.getElem?_cons_zero, List.getElem?_cons_succ, Option.getD_some]; rfl) (by kernel_rfl) (by kernel_rfl) ?_
    repeat (first | (refine wpq_eq_arr (l := (eachL (fun x _ => scaleI (byI n) x) q q)) (l' := (eachL (fun x _ => scaleI (byI n) x) q q)) at27 eqB rfl (.tmp 75) (.tmp 78) 23 rfl rfl rfl HLs.out HLs.out true (by simp) ?_; go_simp) | go_big_quiet_step (fail))
    refine wpQuiet_nil ?_
    refine Tin.reg_one 10 _ rfl (by kernel_rfl) ?_
    try simp only [List.getElem_toArray, List.getElem_cons_succ, List.getElem_cons_zero]
    go_wp2_with fail
    refine Calls.mono (awake_any _) ?_
    rintro e w9 ⟨rfl, hb9⟩
    go_wp2_with fail
    refine ⟨w9.heap.size, hb9, hb9.size, ?_⟩
    refine Tin.reg_quiets [11, 12] _ 0 rfl (by simp only [Tin.pick, List.map_cons, List.map_nil, Array.getD_eq_getD_getElem?, List.getElem?_toArray, List.getElem?_cons_zero, List.getElem?_cons_succ, Option.getD_some]; rfl) (by kernel_rfl) (by kernel_rfl) ?_
    repeat (first | go_big_quiet_step (fail))
    refine wpQuiet_nil ?_
    refine Tin.reg_done (by kernel_rfl) ?_
    go_wp2_with fail
    go_ret
    exact ⟨rfl, bt hB hb9⟩
  · rcases hc with c1 | ⟨c1, c2⟩ | ⟨c1, c2, c3⟩
    all_goals
      go_wp2_with (first | ((with_reducible refine wpl_load_row rtB ?_ (.tmp 10) ?_ (gS) ?_ 23 (arr .i64 zer) ?_ ?_ ?_); rfl; rfl; rfl; simp [zer_len]; exact R5.out; simp only [Act.put, List.setIfInBounds_toArray, List.set_cons_succ, List.set_cons_zero]) | ((with_reducible refine wpl_eq_arr (l := zer) (l' := zer) at27 eqB ?_ (.tmp 65) (.tmp 66) 23 ?_ ?_ ?_ zer_len zer_len true (by simp) ?_); rfl; rfl; rfl; rfl; simp only [Act.put, List.setIfInBounds_toArray, List.set_cons_succ, List.set_cons_zero]))
      refine (awake_any _).mono ?_
      rintro e w9 ⟨rfl, hb9⟩
      go_wp2_with fail
      go_ret
      exact ⟨rfl, bt hB hb9⟩


theorem tables_any (q : List Int) (k n : Int) (w : World) (hq : q.length = 64) (_wq : ∀ z ∈ q, (Lit.int .i64 z).wf = true) (_wk : (Lit.int .i64 k).wf = true) (_wn : (Lit.int .i64 n).wf = true) :
    Calls Try.prog 3 #[.agg (arr .i64 q), .int .i64 k, .int .i64 n] w fun e w' => e = .returned (.bool true) ∧ Below w.heap.size w w' := by
  by_cases h0 : k = 0
  · subst h0
    exact tables_0 q hq n w
  by_cases h1 : k = 1
  · subst h1
    exact tables_1 q hq n w
  · exact tables_2 q hq n k w (by unfold bsB; simp [h0, h1]) (by simpa using h0) (by simpa using h1)
end Go.Proofs.Ytaahphocoedmdaa
