/- The contracts of bases and Base. -/
import Derived.Test.YtaahphocoedmdaaQuH
namespace Go.Proofs.Ytaahphocoedmdaa
open Go.RowKit
open Go.Tin
set_option linter.unusedVariables false
set_option linter.unusedSimpArgs false


def base0 : List Int := [16, 11, 12, 14, 12, 10, 16, 14, 13, 14, 18, 17, 16, 19, 24, 40, 26, 24, 22, 22, 24, 49, 35, 37, 29, 40, 58, 51, 61, 60, 57, 51, 56, 55, 64, 72, 92, 78, 64, 68, 87, 69, 55, 56, 80, 109, 81, 87, 95, 98, 103, 104, 103, 62, 77, 113, 121, 112, 100, 120, 92, 101, 103, 99]
def base1 : List Int := [17, 18, 18, 24, 21, 24, 47, 26, 26, 47, 99, 66, 56, 66, 99, 99, 99, 99, 99, 99, 99, 99, 99, 99, 99, 99, 99, 99, 99, 99, 99, 99, 99, 99, 99, 99, 99, 99, 99, 99, 99, 99, 99, 99, 99, 99, 99, 99, 99, 99, 99, 99, 99, 99, 99, 99, 99, 99, 99, 99, 99, 99, 99, 99]
def baseL : List Int := base0 ++ base1
theorem bld0 (w : World) : (Instr.build 23 #[(0, .int .i64 16), (1, .int .i64 11), (2, .int .i64 12), (3, .int .i64 14), (4, .int .i64 12), (5, .int .i64 10), (6, .int .i64 16), (7, .int .i64 14), (8, .int .i64 13), (9, .int .i64 14), (10, .int .i64 18), (11, .int .i64 17), (12, .int .i64 16), (13, .int .i64 19), (14, .int .i64 24), (15, .int .i64 40), (16, .int .i64 26), (17, .int .i64 24), (18, .int .i64 22), (19, .int .i64 22), (20, .int .i64 24), (21, .int .i64 49), (22, .int .i64 35), (23, .int .i64 37), (24, .int .i64 29), (25, .int .i64 40), (26, .int .i64 58), (27, .int .i64 51), (28, .int .i64 61), (29, .int .i64 60), (30, .int .i64 57), (31, .int .i64 51), (32, .int .i64 56), (33, .int .i64 55), (34, .int .i64 64), (35, .int .i64 72), (36, .int .i64 92), (37, .int .i64 78), (38, .int .i64 64), (39, .int .i64 68), (40, .int .i64 87), (41, .int .i64 69), (42, .int .i64 55), (43, .int .i64 56), (44, .int .i64 80), (45, .int .i64 109), (46, .int .i64 81), (47, .int .i64 87), (48, .int .i64 95), (49, .int .i64 98), (50, .int .i64 103), (51, .int .i64 104), (52, .int .i64 103), (53, .int .i64 62), (54, .int .i64 77), (55, .int .i64 113), (56, .int .i64 121), (57, .int .i64 112), (58, .int .i64 100), (59, .int .i64 120), (60, .int .i64 92), (61, .int .i64 101), (62, .int .i64 103), (63, .int .i64 99)]).run Try.prog w = .ok (.agg (arr .i64 base0)) w := by kernel_rfl
theorem bld1 (w : World) : (Instr.build 23 #[(0, .int .i64 17), (1, .int .i64 18), (2, .int .i64 18), (3, .int .i64 24), (4, .int .i64 21), (5, .int .i64 24), (6, .int .i64 47), (7, .int .i64 26), (8, .int .i64 26), (9, .int .i64 47), (10, .int .i64 99), (11, .int .i64 66), (12, .int .i64 56), (13, .int .i64 66), (14, .int .i64 99), (15, .int .i64 99), (16, .int .i64 99), (17, .int .i64 99), (18, .int .i64 99), (19, .int .i64 99), (20, .int .i64 99), (21, .int .i64 99), (22, .int .i64 99), (23, .int .i64 99), (24, .int .i64 99), (25, .int .i64 99), (26, .int .i64 99), (27, .int .i64 99), (28, .int .i64 99), (29, .int .i64 99), (30, .int .i64 99), (31, .int .i64 99), (32, .int .i64 99), (33, .int .i64 99), (34, .int .i64 99), (35, .int .i64 99), (36, .int .i64 99), (37, .int .i64 99), (38, .int .i64 99), (39, .int .i64 99), (40, .int .i64 99), (41, .int .i64 99), (42, .int .i64 99), (43, .int .i64 99), (44, .int .i64 99), (45, .int .i64 99), (46, .int .i64 99), (47, .int .i64 99), (48, .int .i64 99), (49, .int .i64 99), (50, .int .i64 99), (51, .int .i64 99), (52, .int .i64 99), (53, .int .i64 99), (54, .int .i64 99), (55, .int .i64 99), (56, .int .i64 99), (57, .int .i64 99), (58, .int .i64 99), (59, .int .i64 99), (60, .int .i64 99), (61, .int .i64 99), (62, .int .i64 99), (63, .int .i64 99)]).run Try.prog w = .ok (.agg (arr .i64 base1)) w := by kernel_rfl
theorem bld2 (w : World) : (Instr.build 38 #[(0, .agg (arr .i64 base0)), (1, .agg (arr .i64 base1))]).run Try.prog w = .ok (.agg (arr .i64 baseL)) w := by kernel_rfl
theorem rtBB : RT Try.prog 38 128 := RT.of Try.underlying38 rfl (by kernel_rfl)
theorem baseL_len : baseL.length = 128 := by kernel_rfl
def zer2 : List Int := List.replicate 128 0
theorem zeroBB (w : World) : (zeroValue 38).run Try.prog w = .ok (.agg (arr .i64 zer2)) w := by kernel_rfl
theorem zer2_len : zer2.length = 128 := by kernel_rfl

set_option maxRecDepth 10000000 in
set_option maxHeartbeats 4000000 in
theorem bases_any (w : World) : Calls Try.prog 18 #[] w fun e w' => e = .returned (.agg (arr .i64 baseL)) ∧ Below w.heap.size w w' := by
  have G0 := Lib.hid (heap_alloc_new w (.cells (arr .i64 zer2) 38))
  have hB := ba (brefl w) (.cells (arr .i64 zer2) 38)
  have hzv := zeroBB
  go_enter Try.func18, Try.ntmps18
  go_wp2_with (first | ((with_reducible refine wpl_build ?_ 23 #[(0, .const (.int .i64 16)), (1, .const (.int .i64 11)), (2, .const (.int .i64 12)), (3, .const (.int .i64 14)), (4, .const (.int .i64 12)), (5, .const (.int .i64 10)), (6, .const (.int .i64 16)), (7, .const (.int .i64 14)), (8, .const (.int .i64 13)), (9, .const (.int .i64 14)), (10, .const (.int .i64 18)), (11, .const (.int .i64 17)), (12, .const (.int .i64 16)), (13, .const (.int .i64 19)), (14, .const (.int .i64 24)), (15, .const (.int .i64 40)), (16, .const (.int .i64 26)), (17, .const (.int .i64 24)), (18, .const (.int .i64 22)), (19, .const (.int .i64 22)), (20, .const (.int .i64 24)), (21, .const (.int .i64 49)), (22, .const (.int .i64 35)), (23, .const (.int .i64 37)), (24, .const (.int .i64 29)), (25, .const (.int .i64 40)), (26, .const (.int .i64 58)), (27, .const (.int .i64 51)), (28, .const (.int .i64 61)), (29, .const (.int .i64 60)), (30, .const (.int .i64 57)), (31, .const (.int .i64 51)), (32, .const (.int .i64 56)), (33, .const (.int .i64 55)), (34, .const (.int .i64 64)), (35, .const (.int .i64 72)), (36, .const (.int .i64 92)), (37, .const (.int .i64 78)), (38, .const (.int .i64 64)), (39, .const (.int .i64 68)), (40, .const (.int .i64 87)), (41, .const (.int .i64 69)), (42, .const (.int .i64 55)), (43, .const (.int .i64 56)), (44, .const (.int .i64 80)), (45, .const (.int .i64 109)), (46, .const (.int .i64 81)), (47, .const (.int .i64 87)), (48, .const (.int .i64 95)), (49, .const (.int .i64 98)), (50, .const (.int .i64 103)), (51, .const (.int .i64 104)), (52, .const (.int .i64 103)), (53, .const (.int .i64 62)), (54, .const (.int .i64 77)), (55, .const (.int .i64 113)), (56, .const (.int .i64 121)), (57, .const (.int .i64 112)), (58, .const (.int .i64 100)), (59, .const (.int .i64 120)), (60, .const (.int .i64 92)), (61, .const (.int .i64 101)), (62, .const (.int .i64 103)), (63, .const (.int .i64 99))] ?_ (.agg (arr .i64 base0)) ?_ ?_); rfl; rfl; simp only [List.map_toArray, List.map_cons, List.map_nil, Act.eval]; exact bld0 _; simp only [Act.put, List.setIfInBounds_toArray, List.set_cons_succ, List.set_cons_zero]) | ((with_reducible refine wpl_build ?_ 23 #[(0, .const (.int .i64 17)), (1, .const (.int .i64 18)), (2, .const (.int .i64 18)), (3, .const (.int .i64 24)), (4, .const (.int .i64 21)), (5, .const (.int .i64 24)), (6, .const (.int .i64 47)), (7, .const (.int .i64 26)), (8, .const (.int .i64 26)), (9, .const (.int .i64 47)), (10, .const (.int .i64 99)), (11, .const (.int .i64 66)), (12, .const (.int .i64 56)), (13, .const (.int .i64 66)), (14, .const (.int .i64 99)), (15, .const (.int .i64 99)), (16, .const (.int .i64 99)), (17, .const (.int .i64 99)), (18, .const (.int .i64 99)), (19, .const (.int .i64 99)), (20, .const (.int .i64 99)), (21, .const (.int .i64 99)), (22, .const (.int .i64 99)), (23, .const (.int .i64 99)), (24, .const (.int .i64 99)), (25, .const (.int .i64 99)), (26, .const (.int .i64 99)), (27, .const (.int .i64 99)), (28, .const (.int .i64 99)), (29, .const (.int .i64 99)), (30, .const (.int .i64 99)), (31, .const (.int .i64 99)), (32, .const (.int .i64 99)), (33, .const (.int .i64 99)), (34, .const (.int .i64 99)), (35, .const (.int .i64 99)), (36, .const (.int .i64 99)), (37, .const (.int .i64 99)), (38, .const (.int .i64 99)), (39, .const (.int .i64 99)), (40, .const (.int .i64 99)), (41, .const (.int .i64 99)), (42, .const (.int .i64 99)), (43, .const (.int .i64 99)), (44, .const (.int .i64 99)), (45, .const (.int .i64 99)), (46, .const (.int .i64 99)), (47, .const (.int .i64 99)), (48, .const (.int .i64 99)), (49, .const (.int .i64 99)), (50, .const (.int .i64 99)), (51, .const (.int .i64 99)), (52, .const (.int .i64 99)), (53, .const (.int .i64 99)), (54, .const (.int .i64 99)), (55, .const (.int .i64 99)), (56, .const (.int .i64 99)), (57, .const (.int .i64 99)), (58, .const (.int .i64 99)), (59, .const (.int .i64 99)), (60, .const (.int .i64 99)), (61, .const (.int .i64 99)), (62, .const (.int .i64 99)), (63, .const (.int .i64 99))] ?_ (.agg (arr .i64 base1)) ?_ ?_); rfl; rfl; simp only [List.map_toArray, List.map_cons, List.map_nil, Act.eval]; exact bld1 _; simp only [Act.put, List.setIfInBounds_toArray, List.set_cons_succ, List.set_cons_zero]) | ((with_reducible refine wpl_build ?_ 38 #[(0, .tmp 1), (1, .tmp 2)] ?_ (.agg (arr .i64 baseL)) ?_ ?_); rfl; rfl; (simp only [List.map_toArray, List.map_cons, List.map_nil, Act.eval]); exact bld2 _; simp only [Act.put, List.setIfInBounds_toArray, List.set_cons_succ, List.set_cons_zero]) | ((with_reducible refine wpl_store_row rtBB ?_ (.tmp 0) (.tmp 3) ?_ w.heap.size ?_ (arr .i64 baseL) ?_ arr_one 38 ?_ _ ?_ G0.out ?_); rfl; rfl; rfl; rfl; simp [baseL_len]; simp [zer2_len]; intro w6 hr6 hg6 hs6; simp only [Act.put]))
  exact bodyPost_ret (res_row rtBB rfl _ _ w.heap.size 38 (arr .i64 baseL) rfl (by simp [baseL_len]) hr6) rfl ⟨rfl, hB.grown hg6 (by simp) (fun k hk => by cases hk; exact Nat.le_refl _)⟩

/-- The base tables. -/
def baseK (k : Nat) : List Int := if k = 0 then base0 else base1
theorem baseK_len (k : Nat) : (baseK k).length = 64 := by unfold baseK; split <;> kernel_rfl
def bsB (n : Int) : Bool := decide (n = 0) || decide (n = 1)
def bsL (n : Int) : List Int := if bsB n = true then fromL (baseK n.toNat) else zer
theorem bsL_len (n : Int) : (bsL n).length = 64 := by unfold bsL; split; exact fromL_len _; exact zer_len
theorem baseL_at (k j : Nat) (hk : k < 2) (hj : j < 64) : nth baseL (64 * k + j) = nth (baseK k) j := by
  rcases (by omega : k = 0 ∨ k = 1) with rfl | rfl
  · unfold baseK baseL nth
    rw [if_pos rfl]
    simp only [List.getD_eq_getElem?_getD]
    rw [List.getElem?_append_left (by rw [show base0.length = 64 from by kernel_rfl]; omega)]
    simp
  · unfold baseK baseL nth
    rw [if_neg (by decide)]
    simp only [List.getD_eq_getElem?_getD]
    rw [List.getElem?_append_right (by rw [show base0.length = 64 from by kernel_rfl]; omega)]
    rw [show base0.length = 64 from by kernel_rfl]
    congr 2
    omega
theorem mid_arr {w : World} {g k : Nat} {ty : TypeId} (hg : w.heap[g]? = some (.cells (arr .i64 baseL) ty (0, 0))) (hk : k < 2) : w.rangeAt g (64 * k) ((baseK k).map (Value.int .i64)) := by
  intro j v hj
  rw [List.getElem?_map] at hj
  obtain ⟨x, hx, rfl⟩ := Option.map_eq_some_iff.1 hj
  have hjl : j < (baseK k).length := (List.getElem?_eq_some_iff.1 hx).1
  rw [baseK_len] at hjl
  rw [row_cell hg (64 * k + j) (arr_get _ (by rw [baseL_len]; omega)), baseL_at k j hk hjl]
  unfold nth
  rw [List.getD_eq_getElem?_getD, hx]
  rfl
set_option maxRecDepth 100000 in
set_option maxHeartbeats 4000000 in
theorem base_no (n : Int) (w : World) (hno : bsB n = false) : Calls Try.prog 8 #[.int .i64 n] w fun e w' => e = .returned (.tuple #[.agg (arr .i64 zer), .bool false]) ∧ Below w.heap.size w w' := by
  have hn : n < 0 ∨ 2 ≤ n := by unfold bsB at hno; simp at hno; omega
  have hzv := zeroBB
  clear hno
  have G0 := Lib.hid (heap_alloc_new w (.cells (arr .i64 zer) 23))
  have hB := ba (brefl w) (.cells (arr .i64 zer) 23)
  go_enter Try.func8, Try.ntmps8
  go_wp2_with fail
  generalize hW0 : w.alloc _ = W0
  replace G0 := Lib.hid (show W0.heap[w.heap.size]? = some (.cells (arr .i64 zer) 23 (0, 0)) by rw [← hW0]; exact G0.out)
  replace hB : Below w.heap.size w W0 := by rw [← hW0]; exact hB
  have hz : W0.heap.size = w.heap.size + 1 := by rw [← hW0]; simp
  clear hW0
  refine (bases_any W0).mono ?_
  rintro e w1 ⟨rfl, hb1⟩
  have g0 := (hb1.block _ (show w.heap.size < _ by omega)).trans G0.out
  have hz1 := hb1.size
  replace hB := bt hB hb1
  clear G0 hb1
  have hb2 := ba (brefl w1) (.cells (arr .i64 zer2) 38)
  have H0 := Lib.hid ((hb2.block _ (show w.heap.size < w1.heap.size by omega)).trans g0)
  clear g0
  by_cases h1 : n < 0
  · have d1 : decide (n < 0) = true := by simpa using h1
    clear hn
    go_wp2_with (first | ((with_reducible refine wpl_store_row rtBB ?_ (.tmp 4) (.tmp 5) ?_ w1.heap.size ?_ (arr .i64 baseL) ?_ arr_one 38 ?_ _ ?_ (heap_alloc_new _ _) ?_); rfl; rfl; rfl; rfl; simp [baseL_len]; simp [zer2_len]; intro w6 hr6 hg6 hs6; (simp only [Act.put]); have K0 := Lib.hid ((hg6.block w.heap.size (by simp; omega) (by simp; omega)).trans H0.out); have hB6 := (bt hB hb2).grown hg6 (by simp; omega) (fun k hk => by cases hk; omega); have hz6 := hg6.size; clear hr6 hg6 hs6) | ((with_reducible refine wpl_store_row rtB ?_ (.tmp 2) (.tmp 12) ?_ (w.heap.size) ?_ (arr .i64 zer) ?_ arr_one 23 ?_ _ ?_ K0.out ?_); rfl; rfl; rfl; rfl; simp [zer_len]; simp [zer_len]; intro w7 hr7 hg7 hs7; (try simp only [Act.put])))
    exact bodyPost_ret (res_arr_tmp at27 rfl _ _ w.heap.size 23 rfl (.bool false) rfl zer_len hr7) rfl ⟨rfl, hB6.grown hg7 hB6.size (fun k hk => by cases hk; omega)⟩
  · have d1 : decide (n < 0) = false := by simpa using h1
    have d2 : decide (2 ≤ n) = true := by simp; omega
    clear hn
    go_wp2_with (first | ((with_reducible refine wpl_store_row rtBB ?_ (.tmp 4) (.tmp 5) ?_ w1.heap.size ?_ (arr .i64 baseL) ?_ arr_one 38 ?_ _ ?_ (heap_alloc_new _ _) ?_); rfl; rfl; rfl; rfl; simp [baseL_len]; simp [zer2_len]; intro w6 hr6 hg6 hs6; (simp only [Act.put]); have K0 := Lib.hid ((hg6.block w.heap.size (by simp; omega) (by simp; omega)).trans H0.out); have hB6 := (bt hB hb2).grown hg6 (by simp; omega) (fun k hk => by cases hk; omega); have hz6 := hg6.size; clear hr6 hg6 hs6) | ((with_reducible refine wpl_store_row rtB ?_ (.tmp 2) (.tmp 12) ?_ (w.heap.size) ?_ (arr .i64 zer) ?_ arr_one 23 ?_ _ ?_ K0.out ?_); rfl; rfl; rfl; rfl; simp [zer_len]; simp [zer_len]; intro w7 hr7 hg7 hs7; (try simp only [Act.put])))
    exact bodyPost_ret (res_arr_tmp at27 rfl _ _ w.heap.size 23 rfl (.bool false) rfl zer_len hr7) rfl ⟨rfl, hB6.grown hg7 hB6.size (fun k hk => by cases hk; omega)⟩

set_option maxRecDepth 100000 in
set_option maxHeartbeats 4000000 in
theorem base_yes0 (w : World) : Calls Try.prog 8 #[.int .i64 0] w fun e w' => e = .returned (.tuple #[.agg (arr .i64 (fromL (baseK 0))), .bool true]) ∧ Below w.heap.size w w' := by
  have hzv := zeroBB
  have G0 := Lib.hid (heap_alloc_new w (.cells (arr .i64 zer) 23))
  have hB := ba (brefl w) (.cells (arr .i64 zer) 23)
  have HF := Lib.hid (fun W => from_any (baseK 0) (baseK_len 0) W)
  have HL := Lib.hid (fromL_len (baseK 0))
  have HBL := Lib.hid (baseK_len 0)
  have HM := Lib.hid (fun (W : World) (g : Nat) (ty : TypeId) (hg : W.heap[g]? = some (.cells (arr .i64 baseL) ty (0, 0))) => mid_arr hg (show 0 < 2 by decide))
  generalize baseK 0 = bk at *
  generalize fromL bk = r at *
  go_enter Try.func8, Try.ntmps8
  go_wp2_with fail
  generalize hW0 : w.alloc _ = W0
  replace G0 := Lib.hid (show W0.heap[w.heap.size]? = some (.cells (arr .i64 zer) 23 (0, 0)) by rw [← hW0]; exact G0.out)
  replace hB : Below w.heap.size w W0 := by rw [← hW0]; exact hB
  have hz : W0.heap.size = w.heap.size + 1 := by rw [← hW0]; simp
  clear hW0
  refine (bases_any W0).mono ?_
  rintro e w1 ⟨rfl, hb1⟩
  have g0 := (hb1.block _ (show w.heap.size < _ by omega)).trans G0.out
  have hz1 := hb1.size
  replace hB := bt hB hb1
  clear G0 hb1
  have hb2 := ba (brefl w1) (.cells (arr .i64 zer2) 38)
  have H0 := Lib.hid ((hb2.block _ (show w.heap.size < w1.heap.size by omega)).trans g0)
  clear g0
  go_wp2_with (first | ((with_reducible refine wpl_store_row rtBB ?_ (.tmp 4) (.tmp 5) ?_ w1.heap.size ?_ (arr .i64 baseL) ?_ arr_one 38 ?_ _ ?_ (heap_alloc_new _ _) ?_); rfl; rfl; rfl; rfl; simp [baseL_len]; simp [zer2_len]; intro w6 hr6 hg6 hs6; (simp only [Act.put]); have K0 := Lib.hid ((hg6.block w.heap.size (by simp; omega) (by simp; omega)).trans H0.out); have hB6 := (bt hB hb2).grown hg6 (by simp; omega) (fun k hk => by cases hk; omega); have hz6 := hg6.size; have HR6 := Lib.hid hr6; clear hr6 hg6 hs6) | ((with_reducible refine wpList_load_mid ?_ 23 (.tmp 14) ?_ w1.heap.size 0 ?_ (bk.map (Value.int .i64)) _ ?_ Try.underlying23 ?_ ?_ ?_); rfl; rfl; rfl; exact HM.out _ _ _ HR6.out; rfl; (rw [rtB.it, List.length_map, HBL.out]); simp only [Act.put, List.setIfInBounds_toArray, List.set_cons_succ, List.set_cons_zero]))
  refine (HF.out w6).mono ?_
  rintro e w7 ⟨rfl, hb7⟩
  have k7 := Lib.hid ((hb7.block _ (show w.heap.size < w6.heap.size by rw [World.size_alloc] at hz6; omega)).trans K0.out)
  have hB7 := bt hB6 hb7
  clear hb7 HR6 K0
  go_wp2_with ((with_reducible refine wpl_store_row rtB ?_ (.tmp 2) (.tmp 16) ?_ (w.heap.size) ?_ (arr .i64 r) ?_ arr_one 23 ?_ _ ?_ k7.out ?_); rfl; rfl; rfl; rfl; simp [HL.out]; simp [zer_len]; intro w8 hr8 hg8 hs8; (try simp only [Act.put]))
  exact bodyPost_ret (res_arr_tmp at27 rfl _ _ w.heap.size 23 rfl (.bool true) rfl HL.out hr8) rfl ⟨rfl, hB7.grown hg8 hB7.size (fun k hk => by cases hk; omega)⟩

set_option maxRecDepth 100000 in
set_option maxHeartbeats 4000000 in
theorem base_yes1 (w : World) : Calls Try.prog 8 #[.int .i64 1] w fun e w' => e = .returned (.tuple #[.agg (arr .i64 (fromL (baseK 1))), .bool true]) ∧ Below w.heap.size w w' := by
  have hzv := zeroBB
  have G0 := Lib.hid (heap_alloc_new w (.cells (arr .i64 zer) 23))
  have hB := ba (brefl w) (.cells (arr .i64 zer) 23)
  have HF := Lib.hid (fun W => from_any (baseK 1) (baseK_len 1) W)
  have HL := Lib.hid (fromL_len (baseK 1))
  have HBL := Lib.hid (baseK_len 1)
  have HM := Lib.hid (fun (W : World) (g : Nat) (ty : TypeId) (hg : W.heap[g]? = some (.cells (arr .i64 baseL) ty (0, 0))) => mid_arr hg (show 1 < 2 by decide))
  generalize baseK 1 = bk at *
  generalize fromL bk = r at *
  go_enter Try.func8, Try.ntmps8
  go_wp2_with fail
  generalize hW0 : w.alloc _ = W0
  replace G0 := Lib.hid (show W0.heap[w.heap.size]? = some (.cells (arr .i64 zer) 23 (0, 0)) by rw [← hW0]; exact G0.out)
  replace hB : Below w.heap.size w W0 := by rw [← hW0]; exact hB
  have hz : W0.heap.size = w.heap.size + 1 := by rw [← hW0]; simp
  clear hW0
  refine (bases_any W0).mono ?_
  rintro e w1 ⟨rfl, hb1⟩
  have g0 := (hb1.block _ (show w.heap.size < _ by omega)).trans G0.out
  have hz1 := hb1.size
  replace hB := bt hB hb1
  clear G0 hb1
  have hb2 := ba (brefl w1) (.cells (arr .i64 zer2) 38)
  have H0 := Lib.hid ((hb2.block _ (show w.heap.size < w1.heap.size by omega)).trans g0)
  clear g0
  go_wp2_with (first | ((with_reducible refine wpl_store_row rtBB ?_ (.tmp 4) (.tmp 5) ?_ w1.heap.size ?_ (arr .i64 baseL) ?_ arr_one 38 ?_ _ ?_ (heap_alloc_new _ _) ?_); rfl; rfl; rfl; rfl; simp [baseL_len]; simp [zer2_len]; intro w6 hr6 hg6 hs6; (simp only [Act.put]); have K0 := Lib.hid ((hg6.block w.heap.size (by simp; omega) (by simp; omega)).trans H0.out); have hB6 := (bt hB hb2).grown hg6 (by simp; omega) (fun k hk => by cases hk; omega); have hz6 := hg6.size; have HR6 := Lib.hid hr6; clear hr6 hg6 hs6) | ((with_reducible refine wpList_load_mid ?_ 23 (.tmp 14) ?_ w1.heap.size 64 ?_ (bk.map (Value.int .i64)) _ ?_ Try.underlying23 ?_ ?_ ?_); rfl; rfl; rfl; exact HM.out _ _ _ HR6.out; rfl; (rw [rtB.it, List.length_map, HBL.out]); simp only [Act.put, List.setIfInBounds_toArray, List.set_cons_succ, List.set_cons_zero]))
  refine (HF.out w6).mono ?_
  rintro e w7 ⟨rfl, hb7⟩
  have k7 := Lib.hid ((hb7.block _ (show w.heap.size < w6.heap.size by rw [World.size_alloc] at hz6; omega)).trans K0.out)
  have hB7 := bt hB6 hb7
  clear hb7 HR6 K0
  go_wp2_with ((with_reducible refine wpl_store_row rtB ?_ (.tmp 2) (.tmp 16) ?_ (w.heap.size) ?_ (arr .i64 r) ?_ arr_one 23 ?_ _ ?_ k7.out ?_); rfl; rfl; rfl; rfl; simp [HL.out]; simp [zer_len]; intro w8 hr8 hg8 hs8; (try simp only [Act.put]))
  exact bodyPost_ret (res_arr_tmp at27 rfl _ _ w.heap.size 23 rfl (.bool true) rfl HL.out hr8) rfl ⟨rfl, hB7.grown hg8 hB7.size (fun k hk => by cases hk; omega)⟩


theorem base_any (n : Int) (w : World) : Calls Try.prog 8 #[.int .i64 n] w fun e w' => e = .returned (.tuple #[.agg (arr .i64 (bsL n)), .bool (bsB n)]) ∧ Below w.heap.size w w' := by
  by_cases h : bsB n = true
  · have e : bsL n = fromL (baseK n.toNat) := by unfold bsL; rw [if_pos h]
    rw [e, h]
    unfold bsB at h
    simp at h
    rcases h with rfl | rfl
    · exact base_yes0 w
    · exact base_yes1 w
  · have e : bsL n = zer := by unfold bsL; rw [if_neg h]
    rw [e, show bsB n = false by simpa using h]
    exact base_no n w (by simpa using h)
end Go.Proofs.Ytaahphocoedmdaa
