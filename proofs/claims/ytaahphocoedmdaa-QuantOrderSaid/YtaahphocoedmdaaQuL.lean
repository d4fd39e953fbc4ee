/- The walk of QuantDoes. -/
import Derived.Test.YtaahphocoedmdaaQuK
import Derived.Test.YtaahphocoedmdaaRwq
namespace Go.Proofs.Ytaahphocoedmdaa
open Go.RowKit
open Go.Tin
set_option linter.unusedVariables false
set_option linter.unusedSimpArgs false


theorem eqB : Try.prog.eqGuardType Try.prog.depth 23 = false := by kernel_rfl
theorem doneB_parts (a b : List Int) : doneB a b = (inL b 1 255 && inL a (-1048576) 1048576) := rfl

set_option maxRecDepth 100000 in
set_option maxHeartbeats 4000000 in
theorem does_any (a b : List Int) (w : World) (ha : a.length = 64) (_wa : ∀ z ∈ a, (Lit.int .i64 z).wf = true) (hb : b.length = 64) (_wb : ∀ z ∈ b, (Lit.int .i64 z).wf = true) :
    Calls Try.prog 5 #[.agg (arr .i64 a), .agg (arr .i64 b)] w fun e w' => e = .returned (.bool true) ∧ Below w.heap.size w w' := by
  have HA := Lib.hid ha
  have HB := Lib.hid hb
  have HDv := Lib.hid (fun W => divide_any a b ha hb W)
  have HMu := Lib.hid (fun W => multiply_any a b ha hb W)
  have HWb := Lib.hid (fun W => rwithin_any b hb 1 255 W)
  have HWa := Lib.hid (fun W => rwithin_any a ha (-1048576) 1048576 W)
  have HLd := Lib.hid (doL_len nearI a b)
  have HLm := Lib.hid (doL_len mulI a b)
  have HRd := Lib.hid (fun W h => rdivide_any a b ha hb W h)
  have HRm := Lib.hid (fun W h => rmultiply_any a b ha hb W h)
  have hcase : (inL b 1 255 = true ∧ inL a (-1048576) 1048576 = true ∧ doL nearI a b = eachL nearI a b ∧ doL mulI a b = eachL mulI a b ∧ doE a b = 0 ∧ doneB a b = true) ∨ ((inL b 1 255 = false ∨ (inL b 1 255 = true ∧ inL a (-1048576) 1048576 = false)) ∧ doL nearI a b = zer ∧ doL mulI a b = zer ∧ doE a b = 1) := by
    have hd := doneB_parts a b
    cases h1 : inL b 1 255 <;> cases h2 : inL a (-1048576) 1048576 <;> rw [h1, h2] at hd <;> simp [hd, doL, doE]
  clear ha hb _wa _wb
  go_enter Try.func5, Try.ntmps5
  obtain ⟨g0, g1, hB, hz⟩ := alloc2 w (.cells (arr .i64 a) 23) (.cells (arr .i64 b) 23)
  replace g0 := Lib.hid g0
  replace g1 := Lib.hid g1
  go_wp2_with (first | ((with_reducible refine wpl_load_row rtB ?_ (.tmp 2) ?_ (w.heap.size) ?_ 23 (arr .i64 a) ?_ ?_ ?_); rfl; rfl; rfl; simp [HA.out]; exact g0.out; simp only [Act.put, List.setIfInBounds_toArray, List.set_cons_succ, List.set_cons_zero]) | ((with_reducible refine wpl_load_row rtB ?_ (.tmp 3) ?_ (w.heap.size + 1) ?_ 23 (arr .i64 b) ?_ ?_ ?_); rfl; rfl; rfl; simp [HB.out]; exact g1.out; simp only [Act.put, List.setIfInBounds_toArray, List.set_cons_succ, List.set_cons_zero]))
  generalize hW0 : (w.alloc _).alloc _ = W0
  replace g0 := Lib.hid (show W0.heap[w.heap.size]? = some (.cells (arr .i64 a) 23 (0, 0)) by rw [← hW0]; exact g0.out)
  replace g1 := Lib.hid (show W0.heap[w.heap.size + 1]? = some (.cells (arr .i64 b) 23 (0, 0)) by rw [← hW0]; exact g1.out)
  replace hB : Below w.heap.size w W0 := by rw [← hW0]; exact hB
  replace hz : W0.heap.size = w.heap.size + 2 := by rw [← hW0]; exact hz
  clear hW0
  refine (HDv.out W0).mono ?_
  rintro e w1 ⟨rfl, hb1⟩
  replace g0 := Lib.hid ((hb1.block _ (show w.heap.size < _ by omega)).trans g0.out)
  replace g1 := Lib.hid ((hb1.block _ (show w.heap.size + 1 < _ by omega)).trans g1.out)
  have z1 := hb1.size
  replace hB := bt hB hb1
  clear hb1
  generalize doE a b = er at *
  generalize doL nearI a b = dv at *
  generalize doL mulI a b = mu at *
  go_wp2_with (first | (((with_reducible refine wpl_store_row rtB ?_ (.tmp 5) (.tmp 13) ?_ (w1.heap.size) ?_ (arr .i64 dv) ?_ arr_one 23 ?_ _ ?_ (heap_alloc_new _ _) ?_); rfl; rfl; rfl; rfl; simp [HLd.out]; simp [zer_len]; intro w2 hr2 hg2 hs2; (try simp only [Act.put])); have hb2 : Below w1.heap.size w1 w2 := (ba (brefl w1) _).grown hg2 (by simp) (fun k hk => by cases hk; exact Nat.le_refl _); have R2 := Lib.hid hr2; have z2 : w1.heap.size < w2.heap.size := (by rw [hs2]; simp); have h0 := Lib.hid ((hb2.block _ (show w.heap.size < _ by omega)).trans g0.out); have h1 := Lib.hid ((hb2.block _ (show w.heap.size + 1 < _ by omega)).trans g1.out); clear hr2 hg2 hs2) | ((with_reducible refine wpl_load_row rtB ?_ (.tmp 2) ?_ (w.heap.size) ?_ 23 (arr .i64 a) ?_ ?_ ?_); rfl; rfl; rfl; simp [HA.out]; exact h0.out; simp only [Act.put, List.setIfInBounds_toArray, List.set_cons_succ, List.set_cons_zero]) | ((with_reducible refine wpl_load_row rtB ?_ (.tmp 3) ?_ (w.heap.size + 1) ?_ 23 (arr .i64 b) ?_ ?_ ?_); rfl; rfl; rfl; simp [HB.out]; exact h1.out; simp only [Act.put, List.setIfInBounds_toArray, List.set_cons_succ, List.set_cons_zero]))
  have hB2 := bt hB hb2
  refine (HMu.out w2).mono ?_
  rintro e w3 ⟨rfl, hb3⟩
  replace h0 := Lib.hid ((hb3.block _ (show w.heap.size < _ by omega)).trans h0.out)
  replace h1 := Lib.hid ((hb3.block _ (show w.heap.size + 1 < _ by omega)).trans h1.out)
  replace R2 := Lib.hid ((hb3.block _ z2).trans R2.out)
  have z3 := hb3.size
  replace hB := bt hB2 hb3
  clear hb3 hb2 hB2 g0 g1
  generalize w1.heap.size = g2 at *
  go_wp2_with (first | (((with_reducible refine wpl_store_row rtB ?_ (.tmp 7) (.tmp 19) ?_ (w3.heap.size) ?_ (arr .i64 mu) ?_ arr_one 23 ?_ _ ?_ (heap_alloc_new _ _) ?_); rfl; rfl; rfl; rfl; simp [HLm.out]; simp [zer_len]; intro w4 hr4 hg4 hs4; (try simp only [Act.put])); have hb4 : Below w3.heap.size w3 w4 := (ba (brefl w3) _).grown hg4 (by simp) (fun k hk => by cases hk; exact Nat.le_refl _); have R4 := Lib.hid hr4; have z4 : w3.heap.size < w4.heap.size := (by rw [hs4]; simp); have k0 := Lib.hid ((hb4.block _ (show w.heap.size < _ by omega)).trans h0.out); have k1 := Lib.hid ((hb4.block _ (show w.heap.size + 1 < _ by omega)).trans h1.out); have k2 := Lib.hid ((hb4.block _ (show g2 < _ by omega)).trans R2.out); clear hr4 hg4 hs4) | ((with_reducible refine wpl_load_row rtB ?_ (.tmp 3) ?_ (w.heap.size + 1) ?_ 23 (arr .i64 b) ?_ ?_ ?_); rfl; rfl; rfl; simp [HB.out]; exact k1.out; simp only [Act.put, List.setIfInBounds_toArray, List.set_cons_succ, List.set_cons_zero]))
  replace hB := bt hB hb4
  clear hb4 h0 h1 R2
  generalize w3.heap.size = g3 at *
  refine (HWb.out w4).mono ?_
  rintro e w5 ⟨rfl, hb5⟩
  replace k0 := Lib.hid ((hb5.block _ (show w.heap.size < _ by omega)).trans k0.out)
  replace k1 := Lib.hid ((hb5.block _ (show w.heap.size + 1 < _ by omega)).trans k1.out)
  replace k2 := Lib.hid ((hb5.block _ (show g2 < _ by omega)).trans k2.out)
  replace R4 := Lib.hid ((hb5.block _ z4).trans R4.out)
  have z5 := hb5.size
  replace hB := bt hB hb5
  clear hb5
  rcases hcase with ⟨c1, c2, rfl, rfl, rfl, c3⟩ | ⟨hc, rfl, rfl, rfl⟩
  · rw [c1]
    clear c1
    go_wp2_with ((with_reducible refine wpl_load_row rtB ?_ (.tmp 2) ?_ (w.heap.size) ?_ 23 (arr .i64 a) ?_ ?_ ?_); rfl; rfl; rfl; simp [HA.out]; exact k0.out; simp only [Act.put, List.setIfInBounds_toArray, List.set_cons_succ, List.set_cons_zero])
    refine (HWa.out _).mono ?_
    rw [c2]
    rintro e w6 ⟨rfl, hb6⟩
    replace k0 := Lib.hid ((hb6.block _ (show w.heap.size < _ by omega)).trans k0.out)
    replace k1 := Lib.hid ((hb6.block _ (show w.heap.size + 1 < _ by omega)).trans k1.out)
    replace k2 := Lib.hid ((hb6.block _ (show g2 < _ by omega)).trans k2.out)
    replace R4 := Lib.hid ((hb6.block _ (show g3 < _ by omega)).trans R4.out)
    have z6 := hb6.size
    replace hB := bt hB hb6
    clear hb6 c2
    have x0 : w.heap.size < w6.heap.size := by omega
    have x1 : w.heap.size + 1 < w6.heap.size := by omega
    have x2 : g2 < w6.heap.size := by omega
    have x3 : g3 < w6.heap.size := by omega
    go_wp2_with fail
    refine Tin.reg_begin w6.heap.size 24 (by rfl) (by kernel_rfl) ?_
    refine Tin.reg_quiets [0, 1, 2] _ 21 rfl (by simp only [Tin.pick, List.map_cons, List.map_nil, Array.getD_eq_getD_getElem?, List.getElem?_toArray, List.getElem?_cons_zero, List.getElem?_cons_succ, Option.getD_some]; rfl) (by kernel_rfl) (by kernel_rfl) ?_
    repeat (first | (refine wpq_load_arr at27 rfl (.tmp 5) rfl g2 rfl 23 HLd.out (fun W ⟨p, hp⟩ => by rw [hp]; exact (p.h.block _ x2).trans k2.out) ?_; go_simp) | (refine wpq_load_arr at27 rfl (.tmp 2) rfl w.heap.size rfl 23 HA.out (fun W ⟨p, hp⟩ => by rw [hp]; exact (p.h.block _ x0).trans k0.out) ?_; go_simp) | (refine wpq_load_arr at27 rfl (.tmp 3) rfl (w.heap.size + 1) rfl 23 HB.out (fun W ⟨p, hp⟩ => by rw [hp]; exact (p.h.block _ x1).trans k1.out) ?_; go_simp) | go_big_quiet_step (fail))
    refine wpQuiet_nil ?_
    refine Tin.reg_one 3 _ rfl (by kernel_rfl) ?_
    try simp only [List.getElem_toArray, List.getElem_cons_succ, List.getElem_cons_zero]
    go_wp2_with fail
    refine Calls.mono (HRd.out _ c3) ?_
    rintro e w7 ⟨rfl, hb7⟩
    go_wp2_with fail
    refine ⟨w7.heap.size, hb7, hb7.size, ?_⟩
    replace k0 := Lib.hid ((hb7.block _ x0).trans k0.out)
    replace k1 := Lib.hid ((hb7.block _ x1).trans k1.out)
    replace R4 := Lib.hid ((hb7.block _ x3).trans R4.out)
    have y0 := Nat.lt_of_lt_of_le x0 hb7.size
    have y1 := Nat.lt_of_lt_of_le x1 hb7.size
    have y3 := Nat.lt_of_lt_of_le x3 hb7.size
    replace hB := bt hB.drew hb7
    refine Tin.reg_quiets [4, 5, 6, 7, 8] _ 15 rfl (by simp only [Tin.pick, List.map_cons, List.map_nil, Array.getD_eq_getD_getElem?, List.getElem?_toArray, List.getElem?_cons_zero, List.getElem?_cons_succ, Option.getD_some]; rfl) (by kernel_rfl) (by kernel_rfl) ?_
    repeat (first | (refine wpq_eq_arr (l := (eachL nearI a b)) (l' := (eachL nearI a b)) at27 eqB rfl (.tmp 48) (.tmp 51) 23 rfl rfl rfl HLd.out HLd.out true (by simp) ?_; go_simp) | (refine wpq_load_arr at27 rfl (.tmp 7) rfl g3 rfl 23 HLm.out (fun W ⟨p, hp⟩ => by rw [hp]; exact (p.h.block _ y3).trans R4.out) ?_; go_simp) | (refine wpq_load_arr at27 rfl (.tmp 2) rfl w.heap.size rfl 23 HA.out (fun W ⟨p, hp⟩ => by rw [hp]; exact (p.h.block _ y0).trans k0.out) ?_; go_simp) | (refine wpq_load_arr at27 rfl (.tmp 3) rfl (w.heap.size + 1) rfl 23 HB.out (fun W ⟨p, hp⟩ => by rw [hp]; exact (p.h.block _ y1).trans k1.out) ?_; go_simp) | go_big_quiet_step (fail))
    refine wpQuiet_nil ?_
    refine Tin.reg_one 9 _ rfl (by kernel_rfl) ?_
    try simp only [List.getElem_toArray, List.getElem_cons_succ, List.getElem_cons_zero]
    go_wp2_with fail
    refine Calls.mono (HRm.out _ c3) ?_
    rintro e w8 ⟨rfl, hb8⟩
    go_wp2_with fail
    refine ⟨w8.heap.size, hb8, hb8.size, ?_⟩
    replace hB := bt hB hb8
    refine Tin.reg_quiets [10, 11, 12, 13, 14, 15, 16, 17, 18, 19, 20] _ 3 rfl (by simp only [Tin.pick, List.map_cons, List.map_nil, Array.getD_eq_getD_getElem?, List.getElem?_toArray, List.getElem?_cons_zero, List.getElem?_cons_succ, Option.getD_some]; rfl) (by kernel_rfl) (by kernel_rfl) ?_
    repeat (first | (refine wpq_eq_arr (l := (eachL mulI a b)) (l' := (eachL mulI a b)) at27 eqB rfl (.tmp 54) (.tmp 57) 23 rfl rfl rfl HLm.out HLm.out true (by simp) ?_; go_simp) | go_big_quiet_step (fail))
    refine wpQuiet_nil ?_
    refine Tin.reg_one 21 _ rfl (by kernel_rfl) ?_
    try simp only [List.getElem_toArray, List.getElem_cons_succ, List.getElem_cons_zero]
    go_wp2_with fail
    refine Calls.mono (awake_any _) ?_
    rintro e w9 ⟨rfl, hb9⟩
    go_wp2_with fail
    refine ⟨w9.heap.size, hb9, hb9.size, ?_⟩
    refine Tin.reg_quiets [22, 23] _ 0 rfl (by simp only [Tin.pick, List.map_cons, List.map_nil, Array.getD_eq_getD_getElem?, List.getElem?_toArray, List.getElem?_cons_zero, List.getElem?_cons_succ, Option.getD_some]; rfl) (by kernel_rfl) (by kernel_rfl) ?_
    repeat (first | go_big_quiet_step (fail))
    refine wpQuiet_nil ?_
    refine Tin.reg_done (by kernel_rfl) ?_
    go_wp2_with fail
    go_ret
    exact ⟨rfl, bt hB hb9⟩
  · rcases hc with c1 | ⟨c1, c2⟩
    · rw [c1]
      clear c1
      go_wp2_with (first | ((with_reducible refine wpl_load_row rtB ?_ (.tmp 5) ?_ (g2) ?_ 23 (arr .i64 zer) ?_ ?_ ?_); rfl; rfl; rfl; simp [zer_len]; exact k2.out; simp only [Act.put, List.setIfInBounds_toArray, List.set_cons_succ, List.set_cons_zero]) | ((with_reducible refine wpl_load_row rtB ?_ (.tmp 7) ?_ (g3) ?_ 23 (arr .i64 zer) ?_ ?_ ?_); rfl; rfl; rfl; simp [zer_len]; exact R4.out; simp only [Act.put, List.setIfInBounds_toArray, List.set_cons_succ, List.set_cons_zero]) | ((with_reducible refine wpl_eq_arr (l := zer) (l' := zer) at27 eqB ?_ (.tmp 29) (.tmp 30) 23 ?_ ?_ ?_ zer_len zer_len true (by simp) ?_); rfl; rfl; rfl; rfl; simp only [Act.put, List.setIfInBounds_toArray, List.set_cons_succ, List.set_cons_zero]) | ((with_reducible refine wpl_eq_arr (l := zer) (l' := zer) at27 eqB ?_ (.tmp 33) (.tmp 34) 23 ?_ ?_ ?_ zer_len zer_len true (by simp) ?_); rfl; rfl; rfl; rfl; simp only [Act.put, List.setIfInBounds_toArray, List.set_cons_succ, List.set_cons_zero]))
      refine (awake_any _).mono ?_
      rintro e w6 ⟨rfl, hb6⟩
      go_wp2_with fail
      go_ret
      exact ⟨rfl, bt hB hb6⟩
    · rw [c1]
      clear c1
      go_wp2_with ((with_reducible refine wpl_load_row rtB ?_ (.tmp 2) ?_ (w.heap.size) ?_ 23 (arr .i64 a) ?_ ?_ ?_); rfl; rfl; rfl; simp [HA.out]; exact k0.out; simp only [Act.put, List.setIfInBounds_toArray, List.set_cons_succ, List.set_cons_zero])
      refine (HWa.out _).mono ?_
      rw [c2]
      rintro e w6 ⟨rfl, hb6⟩
      replace k2 := Lib.hid ((hb6.block _ (show g2 < _ by omega)).trans k2.out)
      replace R4 := Lib.hid ((hb6.block _ (show g3 < _ by omega)).trans R4.out)
      replace hB := bt hB hb6
      clear hb6 c2
      go_wp2_with (first | ((with_reducible refine wpl_load_row rtB ?_ (.tmp 5) ?_ (g2) ?_ 23 (arr .i64 zer) ?_ ?_ ?_); rfl; rfl; rfl; simp [zer_len]; exact k2.out; simp only [Act.put, List.setIfInBounds_toArray, List.set_cons_succ, List.set_cons_zero]) | ((with_reducible refine wpl_load_row rtB ?_ (.tmp 7) ?_ (g3) ?_ 23 (arr .i64 zer) ?_ ?_ ?_); rfl; rfl; rfl; simp [zer_len]; exact R4.out; simp only [Act.put, List.setIfInBounds_toArray, List.set_cons_succ, List.set_cons_zero]) | ((with_reducible refine wpl_eq_arr (l := zer) (l' := zer) at27 eqB ?_ (.tmp 29) (.tmp 30) 23 ?_ ?_ ?_ zer_len zer_len true (by simp) ?_); rfl; rfl; rfl; rfl; simp only [Act.put, List.setIfInBounds_toArray, List.set_cons_succ, List.set_cons_zero]) | ((with_reducible refine wpl_eq_arr (l := zer) (l' := zer) at27 eqB ?_ (.tmp 33) (.tmp 34) 23 ?_ ?_ ?_ zer_len zer_len true (by simp) ?_); rfl; rfl; rfl; rfl; simp only [Act.put, List.setIfInBounds_toArray, List.set_cons_succ, List.set_cons_zero]))
      refine (awake_any _).mono ?_
      rintro e w7 ⟨rfl, hb7⟩
      go_wp2_with fail
      go_ret
      exact ⟨rfl, bt hB hb7⟩
end Go.Proofs.Ytaahphocoedmdaa
