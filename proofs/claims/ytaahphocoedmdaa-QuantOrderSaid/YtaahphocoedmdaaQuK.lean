/- The walk of awake: the chapter's examples. -/
import Derived.Test.YtaahphocoedmdaaQuJ
namespace Go.Proofs.Ytaahphocoedmdaa
open Go.RowKit
open Go.Tin
set_option linter.unusedVariables false
set_option linter.unusedSimpArgs false


def exL : List Int := [8, -8, 7, 24] ++ List.replicate 60 0
theorem exL_len : exL.length = 64 := by kernel_rfl
theorem bldx (w : World) : (Instr.build 23 #[(0, .int .i64 8), (1, .int .i64 (-8)), (2, .int .i64 7), (3, .int .i64 24)]).run Try.prog w = .ok (.agg (arr .i64 exL)) w := by kernel_rfl
theorem ex0 : doE exL (flatL 16) = 0 := by kernel_rfl
theorem ex1 : nth (doL nearI exL (flatL 16)) 0 = 1 ∧ nth (doL nearI exL (flatL 16)) 1 = -1 ∧ nth (doL nearI exL (flatL 16)) 2 = 0 ∧ nth (doL nearI exL (flatL 16)) 3 = 2 := ⟨by kernel_rfl, by kernel_rfl, by kernel_rfl, by kernel_rfl⟩
theorem ex2 : nth (bsL 0) 0 = 16 ∧ nth (bsL 0) 8 = 12 ∧ nth (bsL 0) 63 = 99 := ⟨by kernel_rfl, by kernel_rfl, by kernel_rfl⟩
theorem ex3 : nth (scL (flatL 16) 50) 5 = 16 ∧ nth (scL (flatL 16) 25) 5 = 32 ∧ nth (scL (flatL 16) 100) 5 = 1 ∧ nth (scL (flatL 16) 1) 5 = 255 := ⟨by kernel_rfl, by kernel_rfl, by kernel_rfl, by kernel_rfl⟩

set_option maxRecDepth 100000 in
set_option maxHeartbeats 4000000 in
theorem awake_any (w : World) : Calls Try.prog 12 #[] w fun e w' => e = .returned (.bool true) ∧ Below w.heap.size w w' := by
  have HB0 := Lib.hid (fun W => base_any 0 W)
  have HB2 := Lib.hid (fun W => base_any 2 W)
  rw [show bsB 0 = true from rfl] at HB0
  rw [show bsB 2 = false from rfl, show bsL 2 = zer from rfl] at HB2
  have HD := Lib.hid (fun W => divide_any exL (flatL 16) exL_len (flatL_len 16) W)
  rw [ex0] at HD
  have HF := Lib.hid (fun W => flat_any 16 W)
  have HE1 := Lib.hid ex1
  have HE2 := Lib.hid ex2
  have HLd := Lib.hid (doL_len nearI exL (flatL 16))
  have HLb := Lib.hid (bsL_len 0)
  generalize doL nearI exL (flatL 16) = dv at *
  generalize flatL 16 = fl at HD HF
  generalize bsL 0 = bv at *
  have HBL := Lib.hid bldx
  generalize exL = xl at *
  go_enter Try.func12, Try.ntmps12
  go_wp2_with fail
  refine (HB0.out w).mono ?_
  rintro e w1 ⟨rfl, hB⟩
  go_wp2_with (((with_reducible refine wpl_store_row rtB ?_ (.tmp 1) (.tmp 9) ?_ (w1.heap.size) ?_ (arr .i64 bv) ?_ arr_one 23 ?_ _ ?_ (heap_alloc_new _ _) ?_); rfl; rfl; rfl; rfl; simp [HLb.out]; simp [zer_len]; intro w2 hr2 hg2 hs2; (try simp only [Act.put])); have R1 := Lib.hid hr2; have hb2 : Below w1.heap.size w1 w2 := (ba (brefl w1) _).grown hg2 (by simp) (fun k hk => by cases hk; exact Nat.le_refl _); have z2 : w1.heap.size < w2.heap.size := (by rw [hs2]; simp); clear hr2 hg2 hs2)
  refine (HB2.out w2).mono ?_
  rintro e w3 ⟨rfl, hb3⟩
  have hB2 := bt hB hb2
  have hb23 : Below w2.heap.size w2 w3 := hb3
  generalize w1.heap.size = g1 at *
  replace R1 := Lib.hid ((hb3.block _ z2).trans R1.out)
  have z3 := Nat.lt_of_lt_of_le z2 hb3.size
  replace hB := bt hB2 hb3
  clear hB2 hb23 hb2 hb3
  go_wp2_with (first | (((with_reducible refine wpl_store_row rtB ?_ (.tmp 3) (.tmp 13) ?_ (w3.heap.size) ?_ (arr .i64 zer) ?_ arr_one 23 ?_ _ ?_ (heap_alloc_new _ _) ?_); rfl; rfl; rfl; rfl; simp [zer_len]; simp [zer_len]; intro w4 hr4 hg4 hs4; (try simp only [Act.put])); have hb4 : Below w3.heap.size w3 w4 := (ba (brefl w3) _).grown hg4 (by simp) (fun k hk => by cases hk; exact Nat.le_refl _); clear hr4 hg4 hs4) | ((with_reducible refine wpl_build ?_ 23 #[(0, .const (.int .i64 8)), (1, .const (.int .i64 (-8))), (2, .const (.int .i64 7)), (3, .const (.int .i64 24))] ?_ (.agg (arr .i64 xl)) ?_ ?_); rfl; rfl; simp only [List.map_toArray, List.map_cons, List.map_nil, Act.eval]; exact HBL.out _; simp only [Act.put, List.setIfInBounds_toArray, List.set_cons_succ, List.set_cons_zero]))
  refine (HF.out w4).mono ?_
  rintro e w5 ⟨rfl, hb5⟩
  replace R1 := Lib.hid (((bt hb4 hb5).block _ z3).trans R1.out)
  have z5 := Nat.lt_of_lt_of_le z3 (bt hb4 hb5).size
  replace hB := bt hB (bt hb4 hb5)
  clear hb4 hb5 z2 z3
  go_wp2_with fail
  refine (HD.out w5).mono ?_
  rintro e w6 ⟨rfl, hb6⟩
  replace R1 := Lib.hid ((hb6.block _ z5).trans R1.out)
  have z6 := Nat.lt_of_lt_of_le z5 hb6.size
  replace hB := bt hB hb6
  clear hb6 z5
  go_wp2_with (((with_reducible refine wpl_store_row rtB ?_ (.tmp 5) (.tmp 19) ?_ (w6.heap.size) ?_ (arr .i64 dv) ?_ arr_one 23 ?_ _ ?_ (heap_alloc_new _ _) ?_); rfl; rfl; rfl; rfl; simp [HLd.out]; simp [zer_len]; intro w7 hr7 hg7 hs7; (try simp only [Act.put])); have hb7 : Below w6.heap.size w6 w7 := (ba (brefl w6) _).grown hg7 (by simp) (fun k hk => by cases hk; exact Nat.le_refl _); have z7 : w6.heap.size < w7.heap.size := (by rw [hs7]; simp); have hB7 := bt hB hb7; have r7 := (hb7.block _ z6).trans R1.out; have c0 := row_cell r7 0 (arr_get 0 (by rw [HLb.out]; decide)); have c8 := row_cell r7 8 (arr_get 8 (by rw [HLb.out]; decide)); have c63 := row_cell r7 63 (arr_get 63 (by rw [HLb.out]; decide)); have R7 := Lib.hid hr7; (rw [HE2.out.1] at c0); (rw [HE2.out.2.1] at c8); (rw [HE2.out.2.2] at c63); clear hr7 hg7 hs7 r7 hb7)
  generalize w6.heap.size = g3 at *
  generalize w3.heap.size = g2 at *
  refine (scaledn_any 50 w7).mono ?_
  rw [ex3.1]
  rintro e w8 ⟨rfl, hb⟩
  replace R7 := Lib.hid ((hb.block _ z7).trans R7.out)
  replace hB7 := bt hB7 hb
  replace z7 := Nat.lt_of_lt_of_le z7 hb.size
  clear hb
  go_wp2_with fail
  refine (scaledn_any 25 w8).mono ?_
  rw [ex3.2.1]
  rintro e w9 ⟨rfl, hb⟩
  replace R7 := Lib.hid ((hb.block _ z7).trans R7.out)
  replace hB7 := bt hB7 hb
  replace z7 := Nat.lt_of_lt_of_le z7 hb.size
  clear hb
  go_wp2_with fail
  refine (scaledn_any 100 w9).mono ?_
  rw [ex3.2.2.1]
  rintro e w10 ⟨rfl, hb⟩
  replace R7 := Lib.hid ((hb.block _ z7).trans R7.out)
  replace hB7 := bt hB7 hb
  replace z7 := Nat.lt_of_lt_of_le z7 hb.size
  clear hb
  go_wp2_with fail
  refine (scaledn_any 1 w10).mono ?_
  rw [ex3.2.2.2]
  rintro e w11 ⟨rfl, hb⟩
  replace R7 := Lib.hid ((hb.block _ z7).trans R7.out)
  replace hB7 := bt hB7 hb
  replace z7 := Nat.lt_of_lt_of_le z7 hb.size
  clear hb
  have d0 := row_cell R7.out 0 (arr_get 0 (by rw [HLd.out]; decide))
  have d1 := row_cell R7.out 1 (arr_get 1 (by rw [HLd.out]; decide))
  have d2 := row_cell R7.out 2 (arr_get 2 (by rw [HLd.out]; decide))
  have d3 := row_cell R7.out 3 (arr_get 3 (by rw [HLd.out]; decide))
  rw [HE1.out.1] at d0
  rw [HE1.out.2.1] at d1
  rw [HE1.out.2.2.1] at d2
  rw [HE1.out.2.2.2] at d3
  go_wp2_with fail
  go_ret
  exact ⟨rfl, hB7⟩
end Go.Proofs.Ytaahphocoedmdaa
