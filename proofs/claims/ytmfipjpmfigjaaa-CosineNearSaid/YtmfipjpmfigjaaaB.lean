/- The contracts of fac, where the numbers are from 0 to 7. -/
import Derived.Test.YtmfipjpmfigjaaaA
namespace Go.Proofs.Ytmfipjpmfigjaaa
open Go.RowKit
open Go.Tin
set_option linter.unusedVariables false
set_option linter.unusedSimpArgs false

theorem idx0 (W : World) : (Instr.index 36 (.agg #[.int .i64 23170, .int .i64 32138, .int .i64 30274, .int .i64 27246, .int .i64 23170, .int .i64 18205, .int .i64 12540, .int .i64 6393, .int .i64 0]) (.int .i64 0)).run Try.prog W = .ok (.int .i64 23170) W := idx_run at36 (l := cosL) rfl .i64 0 (by decide) W

set_option maxRecDepth 100000 in
set_option maxHeartbeats 8000000 in
theorem fac0 (x : Nat) (hx : x ≤ 7) (w : World) : Calls Try.prog 7 #[.int .i64 0, .int .i64 (x : Int)] w fun e w' => e = .returned (.int .i64 (facN 0 x)) ∧ Below w.heap.size w w' := by
  rcases (by omega : x = 0 ∨ x = 1 ∨ x = 2 ∨ x = 3 ∨ x = 4 ∨ x = 5 ∨ x = 6 ∨ x = 7) with rfl | rfl | rfl | rfl | rfl | rfl | rfl | rfl
  · go_enter Try.func7, Try.ntmps7
    go_wp2_with fail
    refine Calls.mono (cosines_any _) ?_
    rintro e w1 ⟨rfl, hb1⟩
    have hix := idx0 w1
    go_wp2_with fail
    go_ret
    exact ⟨ret_int (by decide), hb1⟩
  · go_enter Try.func7, Try.ntmps7
    go_wp2_with fail
    refine Calls.mono (cosines_any _) ?_
    rintro e w1 ⟨rfl, hb1⟩
    have hix := idx0 w1
    go_wp2_with fail
    go_ret
    exact ⟨ret_int (by decide), hb1⟩
  · go_enter Try.func7, Try.ntmps7
    go_wp2_with fail
    refine Calls.mono (cosines_any _) ?_
    rintro e w1 ⟨rfl, hb1⟩
    have hix := idx0 w1
    go_wp2_with fail
    go_ret
    exact ⟨ret_int (by decide), hb1⟩
  · go_enter Try.func7, Try.ntmps7
    go_wp2_with fail
    refine Calls.mono (cosines_any _) ?_
    rintro e w1 ⟨rfl, hb1⟩
    have hix := idx0 w1
    go_wp2_with fail
    go_ret
    exact ⟨ret_int (by decide), hb1⟩
  · go_enter Try.func7, Try.ntmps7
    go_wp2_with fail
    refine Calls.mono (cosines_any _) ?_
    rintro e w1 ⟨rfl, hb1⟩
    have hix := idx0 w1
    go_wp2_with fail
    go_ret
    exact ⟨ret_int (by decide), hb1⟩
  · go_enter Try.func7, Try.ntmps7
    go_wp2_with fail
    refine Calls.mono (cosines_any _) ?_
    rintro e w1 ⟨rfl, hb1⟩
    have hix := idx0 w1
    go_wp2_with fail
    go_ret
    exact ⟨ret_int (by decide), hb1⟩
  · go_enter Try.func7, Try.ntmps7
    go_wp2_with fail
    refine Calls.mono (cosines_any _) ?_
    rintro e w1 ⟨rfl, hb1⟩
    have hix := idx0 w1
    go_wp2_with fail
    go_ret
    exact ⟨ret_int (by decide), hb1⟩
  · go_enter Try.func7, Try.ntmps7
    go_wp2_with fail
    refine Calls.mono (cosines_any _) ?_
    rintro e w1 ⟨rfl, hb1⟩
    have hix := idx0 w1
    go_wp2_with fail
    go_ret
    exact ⟨ret_int (by decide), hb1⟩

set_option maxRecDepth 100000 in
set_option maxHeartbeats 8000000 in
theorem fac1 (x : Nat) (hx : x ≤ 7) (w : World) : Calls Try.prog 7 #[.int .i64 1, .int .i64 (x : Int)] w fun e w' => e = .returned (.int .i64 (facN 1 x)) ∧ Below w.heap.size w w' := by
  rcases (by omega : x = 0 ∨ x = 1 ∨ x = 2 ∨ x = 3 ∨ x = 4 ∨ x = 5 ∨ x = 6 ∨ x = 7) with rfl | rfl | rfl | rfl | rfl | rfl | rfl | rfl
  · go_enter Try.func7, Try.ntmps7
    go_wp2_with fail
    refine Calls.mono (turned_any 1 (by decide) _) ?_
    rintro e w1 ⟨rfl, hb1⟩
    go_wp2_with fail
    go_ret
    exact ⟨ret_int (by decide), hb1⟩
  · go_enter Try.func7, Try.ntmps7
    go_wp2_with fail
    refine Calls.mono (turned_any 3 (by decide) _) ?_
    rintro e w1 ⟨rfl, hb1⟩
    go_wp2_with fail
    go_ret
    exact ⟨ret_int (by decide), hb1⟩
  · go_enter Try.func7, Try.ntmps7
    go_wp2_with fail
    refine Calls.mono (turned_any 5 (by decide) _) ?_
    rintro e w1 ⟨rfl, hb1⟩
    go_wp2_with fail
    go_ret
    exact ⟨ret_int (by decide), hb1⟩
  · go_enter Try.func7, Try.ntmps7
    go_wp2_with fail
    refine Calls.mono (turned_any 7 (by decide) _) ?_
    rintro e w1 ⟨rfl, hb1⟩
    go_wp2_with fail
    go_ret
    exact ⟨ret_int (by decide), hb1⟩
  · go_enter Try.func7, Try.ntmps7
    go_wp2_with fail
    refine Calls.mono (turned_any 9 (by decide) _) ?_
    rintro e w1 ⟨rfl, hb1⟩
    go_wp2_with fail
    go_ret
    exact ⟨ret_int (by decide), hb1⟩
  · go_enter Try.func7, Try.ntmps7
    go_wp2_with fail
    refine Calls.mono (turned_any 11 (by decide) _) ?_
    rintro e w1 ⟨rfl, hb1⟩
    go_wp2_with fail
    go_ret
    exact ⟨ret_int (by decide), hb1⟩
  · go_enter Try.func7, Try.ntmps7
    go_wp2_with fail
    refine Calls.mono (turned_any 13 (by decide) _) ?_
    rintro e w1 ⟨rfl, hb1⟩
    go_wp2_with fail
    go_ret
    exact ⟨ret_int (by decide), hb1⟩
  · go_enter Try.func7, Try.ntmps7
    go_wp2_with fail
    refine Calls.mono (turned_any 15 (by decide) _) ?_
    rintro e w1 ⟨rfl, hb1⟩
    go_wp2_with fail
    go_ret
    exact ⟨ret_int (by decide), hb1⟩

set_option maxRecDepth 100000 in
set_option maxHeartbeats 8000000 in
theorem fac2 (x : Nat) (hx : x ≤ 7) (w : World) : Calls Try.prog 7 #[.int .i64 2, .int .i64 (x : Int)] w fun e w' => e = .returned (.int .i64 (facN 2 x)) ∧ Below w.heap.size w w' := by
  rcases (by omega : x = 0 ∨ x = 1 ∨ x = 2 ∨ x = 3 ∨ x = 4 ∨ x = 5 ∨ x = 6 ∨ x = 7) with rfl | rfl | rfl | rfl | rfl | rfl | rfl | rfl
  · go_enter Try.func7, Try.ntmps7
    go_wp2_with fail
    refine Calls.mono (turned_any 2 (by decide) _) ?_
    rintro e w1 ⟨rfl, hb1⟩
    go_wp2_with fail
    go_ret
    exact ⟨ret_int (by decide), hb1⟩
  · go_enter Try.func7, Try.ntmps7
    go_wp2_with fail
    refine Calls.mono (turned_any 6 (by decide) _) ?_
    rintro e w1 ⟨rfl, hb1⟩
    go_wp2_with fail
    go_ret
    exact ⟨ret_int (by decide), hb1⟩
  · go_enter Try.func7, Try.ntmps7
    go_wp2_with fail
    refine Calls.mono (turned_any 10 (by decide) _) ?_
    rintro e w1 ⟨rfl, hb1⟩
    go_wp2_with fail
    go_ret
    exact ⟨ret_int (by decide), hb1⟩
  · go_enter Try.func7, Try.ntmps7
    go_wp2_with fail
    refine Calls.mono (turned_any 14 (by decide) _) ?_
    rintro e w1 ⟨rfl, hb1⟩
    go_wp2_with fail
    go_ret
    exact ⟨ret_int (by decide), hb1⟩
  · go_enter Try.func7, Try.ntmps7
    go_wp2_with fail
    refine Calls.mono (turned_any 18 (by decide) _) ?_
    rintro e w1 ⟨rfl, hb1⟩
    go_wp2_with fail
    go_ret
    exact ⟨ret_int (by decide), hb1⟩
  · go_enter Try.func7, Try.ntmps7
    go_wp2_with fail
    refine Calls.mono (turned_any 22 (by decide) _) ?_
    rintro e w1 ⟨rfl, hb1⟩
    go_wp2_with fail
    go_ret
    exact ⟨ret_int (by decide), hb1⟩
  · go_enter Try.func7, Try.ntmps7
    go_wp2_with fail
    refine Calls.mono (turned_any 26 (by decide) _) ?_
    rintro e w1 ⟨rfl, hb1⟩
    go_wp2_with fail
    go_ret
    exact ⟨ret_int (by decide), hb1⟩
  · go_enter Try.func7, Try.ntmps7
    go_wp2_with fail
    refine Calls.mono (turned_any 30 (by decide) _) ?_
    rintro e w1 ⟨rfl, hb1⟩
    go_wp2_with fail
    go_ret
    exact ⟨ret_int (by decide), hb1⟩

set_option maxRecDepth 100000 in
set_option maxHeartbeats 8000000 in
theorem fac3 (x : Nat) (hx : x ≤ 7) (w : World) : Calls Try.prog 7 #[.int .i64 3, .int .i64 (x : Int)] w fun e w' => e = .returned (.int .i64 (facN 3 x)) ∧ Below w.heap.size w w' := by
  rcases (by omega : x = 0 ∨ x = 1 ∨ x = 2 ∨ x = 3 ∨ x = 4 ∨ x = 5 ∨ x = 6 ∨ x = 7) with rfl | rfl | rfl | rfl | rfl | rfl | rfl | rfl
  · go_enter Try.func7, Try.ntmps7
    go_wp2_with fail
    refine Calls.mono (turned_any 3 (by decide) _) ?_
    rintro e w1 ⟨rfl, hb1⟩
    go_wp2_with fail
    go_ret
    exact ⟨ret_int (by decide), hb1⟩
  · go_enter Try.func7, Try.ntmps7
    go_wp2_with fail
    refine Calls.mono (turned_any 9 (by decide) _) ?_
    rintro e w1 ⟨rfl, hb1⟩
    go_wp2_with fail
    go_ret
    exact ⟨ret_int (by decide), hb1⟩
  · go_enter Try.func7, Try.ntmps7
    go_wp2_with fail
    refine Calls.mono (turned_any 15 (by decide) _) ?_
    rintro e w1 ⟨rfl, hb1⟩
    go_wp2_with fail
    go_ret
    exact ⟨ret_int (by decide), hb1⟩
  · go_enter Try.func7, Try.ntmps7
    go_wp2_with fail
    refine Calls.mono (turned_any 21 (by decide) _) ?_
    rintro e w1 ⟨rfl, hb1⟩
    go_wp2_with fail
    go_ret
    exact ⟨ret_int (by decide), hb1⟩
  · go_enter Try.func7, Try.ntmps7
    go_wp2_with fail
    refine Calls.mono (turned_any 27 (by decide) _) ?_
    rintro e w1 ⟨rfl, hb1⟩
    go_wp2_with fail
    go_ret
    exact ⟨ret_int (by decide), hb1⟩
  · go_enter Try.func7, Try.ntmps7
    go_wp2_with fail
    refine Calls.mono (turned_any 33 (by decide) _) ?_
    rintro e w1 ⟨rfl, hb1⟩
    go_wp2_with fail
    go_ret
    exact ⟨ret_int (by decide), hb1⟩
  · go_enter Try.func7, Try.ntmps7
    go_wp2_with fail
    refine Calls.mono (turned_any 39 (by decide) _) ?_
    rintro e w1 ⟨rfl, hb1⟩
    go_wp2_with fail
    go_ret
    exact ⟨ret_int (by decide), hb1⟩
  · go_enter Try.func7, Try.ntmps7
    go_wp2_with fail
    refine Calls.mono (turned_any 45 (by decide) _) ?_
    rintro e w1 ⟨rfl, hb1⟩
    go_wp2_with fail
    go_ret
    exact ⟨ret_int (by decide), hb1⟩

set_option maxRecDepth 100000 in
set_option maxHeartbeats 8000000 in
theorem fac4 (x : Nat) (hx : x ≤ 7) (w : World) : Calls Try.prog 7 #[.int .i64 4, .int .i64 (x : Int)] w fun e w' => e = .returned (.int .i64 (facN 4 x)) ∧ Below w.heap.size w w' := by
  rcases (by omega : x = 0 ∨ x = 1 ∨ x = 2 ∨ x = 3 ∨ x = 4 ∨ x = 5 ∨ x = 6 ∨ x = 7) with rfl | rfl | rfl | rfl | rfl | rfl | rfl | rfl
  · go_enter Try.func7, Try.ntmps7
    go_wp2_with fail
    refine Calls.mono (turned_any 4 (by decide) _) ?_
    rintro e w1 ⟨rfl, hb1⟩
    go_wp2_with fail
    go_ret
    exact ⟨ret_int (by decide), hb1⟩
  · go_enter Try.func7, Try.ntmps7
    go_wp2_with fail
    refine Calls.mono (turned_any 12 (by decide) _) ?_
    rintro e w1 ⟨rfl, hb1⟩
    go_wp2_with fail
    go_ret
    exact ⟨ret_int (by decide), hb1⟩
  · go_enter Try.func7, Try.ntmps7
    go_wp2_with fail
    refine Calls.mono (turned_any 20 (by decide) _) ?_
    rintro e w1 ⟨rfl, hb1⟩
    go_wp2_with fail
    go_ret
    exact ⟨ret_int (by decide), hb1⟩
  · go_enter Try.func7, Try.ntmps7
    go_wp2_with fail
    refine Calls.mono (turned_any 28 (by decide) _) ?_
    rintro e w1 ⟨rfl, hb1⟩
    go_wp2_with fail
    go_ret
    exact ⟨ret_int (by decide), hb1⟩
  · go_enter Try.func7, Try.ntmps7
    go_wp2_with fail
    refine Calls.mono (turned_any 36 (by decide) _) ?_
    rintro e w1 ⟨rfl, hb1⟩
    go_wp2_with fail
    go_ret
    exact ⟨ret_int (by decide), hb1⟩
  · go_enter Try.func7, Try.ntmps7
    go_wp2_with fail
    refine Calls.mono (turned_any 44 (by decide) _) ?_
    rintro e w1 ⟨rfl, hb1⟩
    go_wp2_with fail
    go_ret
    exact ⟨ret_int (by decide), hb1⟩
  · go_enter Try.func7, Try.ntmps7
    go_wp2_with fail
    refine Calls.mono (turned_any 52 (by decide) _) ?_
    rintro e w1 ⟨rfl, hb1⟩
    go_wp2_with fail
    go_ret
    exact ⟨ret_int (by decide), hb1⟩
  · go_enter Try.func7, Try.ntmps7
    go_wp2_with fail
    refine Calls.mono (turned_any 60 (by decide) _) ?_
    rintro e w1 ⟨rfl, hb1⟩
    go_wp2_with fail
    go_ret
    exact ⟨ret_int (by decide), hb1⟩

set_option maxRecDepth 100000 in
set_option maxHeartbeats 8000000 in
theorem fac5 (x : Nat) (hx : x ≤ 7) (w : World) : Calls Try.prog 7 #[.int .i64 5, .int .i64 (x : Int)] w fun e w' => e = .returned (.int .i64 (facN 5 x)) ∧ Below w.heap.size w w' := by
  rcases (by omega : x = 0 ∨ x = 1 ∨ x = 2 ∨ x = 3 ∨ x = 4 ∨ x = 5 ∨ x = 6 ∨ x = 7) with rfl | rfl | rfl | rfl | rfl | rfl | rfl | rfl
  · go_enter Try.func7, Try.ntmps7
    go_wp2_with fail
    refine Calls.mono (turned_any 5 (by decide) _) ?_
    rintro e w1 ⟨rfl, hb1⟩
    go_wp2_with fail
    go_ret
    exact ⟨ret_int (by decide), hb1⟩
  · go_enter Try.func7, Try.ntmps7
    go_wp2_with fail
    refine Calls.mono (turned_any 15 (by decide) _) ?_
    rintro e w1 ⟨rfl, hb1⟩
    go_wp2_with fail
    go_ret
    exact ⟨ret_int (by decide), hb1⟩
  · go_enter Try.func7, Try.ntmps7
    go_wp2_with fail
    refine Calls.mono (turned_any 25 (by decide) _) ?_
    rintro e w1 ⟨rfl, hb1⟩
    go_wp2_with fail
    go_ret
    exact ⟨ret_int (by decide), hb1⟩
  · go_enter Try.func7, Try.ntmps7
    go_wp2_with fail
    refine Calls.mono (turned_any 35 (by decide) _) ?_
    rintro e w1 ⟨rfl, hb1⟩
    go_wp2_with fail
    go_ret
    exact ⟨ret_int (by decide), hb1⟩
  · go_enter Try.func7, Try.ntmps7
    go_wp2_with fail
    refine Calls.mono (turned_any 45 (by decide) _) ?_
    rintro e w1 ⟨rfl, hb1⟩
    go_wp2_with fail
    go_ret
    exact ⟨ret_int (by decide), hb1⟩
  · go_enter Try.func7, Try.ntmps7
    go_wp2_with fail
    refine Calls.mono (turned_any 55 (by decide) _) ?_
    rintro e w1 ⟨rfl, hb1⟩
    go_wp2_with fail
    go_ret
    exact ⟨ret_int (by decide), hb1⟩
  · go_enter Try.func7, Try.ntmps7
    go_wp2_with fail
    refine Calls.mono (turned_any 65 (by decide) _) ?_
    rintro e w1 ⟨rfl, hb1⟩
    go_wp2_with fail
    go_ret
    exact ⟨ret_int (by decide), hb1⟩
  · go_enter Try.func7, Try.ntmps7
    go_wp2_with fail
    refine Calls.mono (turned_any 75 (by decide) _) ?_
    rintro e w1 ⟨rfl, hb1⟩
    go_wp2_with fail
    go_ret
    exact ⟨ret_int (by decide), hb1⟩

set_option maxRecDepth 100000 in
set_option maxHeartbeats 8000000 in
theorem fac6 (x : Nat) (hx : x ≤ 7) (w : World) : Calls Try.prog 7 #[.int .i64 6, .int .i64 (x : Int)] w fun e w' => e = .returned (.int .i64 (facN 6 x)) ∧ Below w.heap.size w w' := by
  rcases (by omega : x = 0 ∨ x = 1 ∨ x = 2 ∨ x = 3 ∨ x = 4 ∨ x = 5 ∨ x = 6 ∨ x = 7) with rfl | rfl | rfl | rfl | rfl | rfl | rfl | rfl
  · go_enter Try.func7, Try.ntmps7
    go_wp2_with fail
    refine Calls.mono (turned_any 6 (by decide) _) ?_
    rintro e w1 ⟨rfl, hb1⟩
    go_wp2_with fail
    go_ret
    exact ⟨ret_int (by decide), hb1⟩
  · go_enter Try.func7, Try.ntmps7
    go_wp2_with fail
    refine Calls.mono (turned_any 18 (by decide) _) ?_
    rintro e w1 ⟨rfl, hb1⟩
    go_wp2_with fail
    go_ret
    exact ⟨ret_int (by decide), hb1⟩
  · go_enter Try.func7, Try.ntmps7
    go_wp2_with fail
    refine Calls.mono (turned_any 30 (by decide) _) ?_
    rintro e w1 ⟨rfl, hb1⟩
    go_wp2_with fail
    go_ret
    exact ⟨ret_int (by decide), hb1⟩
  · go_enter Try.func7, Try.ntmps7
    go_wp2_with fail
    refine Calls.mono (turned_any 42 (by decide) _) ?_
    rintro e w1 ⟨rfl, hb1⟩
    go_wp2_with fail
    go_ret
    exact ⟨ret_int (by decide), hb1⟩
  · go_enter Try.func7, Try.ntmps7
    go_wp2_with fail
    refine Calls.mono (turned_any 54 (by decide) _) ?_
    rintro e w1 ⟨rfl, hb1⟩
    go_wp2_with fail
    go_ret
    exact ⟨ret_int (by decide), hb1⟩
  · go_enter Try.func7, Try.ntmps7
    go_wp2_with fail
    refine Calls.mono (turned_any 66 (by decide) _) ?_
    rintro e w1 ⟨rfl, hb1⟩
    go_wp2_with fail
    go_ret
    exact ⟨ret_int (by decide), hb1⟩
  · go_enter Try.func7, Try.ntmps7
    go_wp2_with fail
    refine Calls.mono (turned_any 78 (by decide) _) ?_
    rintro e w1 ⟨rfl, hb1⟩
    go_wp2_with fail
    go_ret
    exact ⟨ret_int (by decide), hb1⟩
  · go_enter Try.func7, Try.ntmps7
    go_wp2_with fail
    refine Calls.mono (turned_any 90 (by decide) _) ?_
    rintro e w1 ⟨rfl, hb1⟩
    go_wp2_with fail
    go_ret
    exact ⟨ret_int (by decide), hb1⟩

set_option maxRecDepth 100000 in
set_option maxHeartbeats 8000000 in
theorem fac7 (x : Nat) (hx : x ≤ 7) (w : World) : Calls Try.prog 7 #[.int .i64 7, .int .i64 (x : Int)] w fun e w' => e = .returned (.int .i64 (facN 7 x)) ∧ Below w.heap.size w w' := by
  rcases (by omega : x = 0 ∨ x = 1 ∨ x = 2 ∨ x = 3 ∨ x = 4 ∨ x = 5 ∨ x = 6 ∨ x = 7) with rfl | rfl | rfl | rfl | rfl | rfl | rfl | rfl
  · go_enter Try.func7, Try.ntmps7
    go_wp2_with fail
    refine Calls.mono (turned_any 7 (by decide) _) ?_
    rintro e w1 ⟨rfl, hb1⟩
    go_wp2_with fail
    go_ret
    exact ⟨ret_int (by decide), hb1⟩
  · go_enter Try.func7, Try.ntmps7
    go_wp2_with fail
    refine Calls.mono (turned_any 21 (by decide) _) ?_
    rintro e w1 ⟨rfl, hb1⟩
    go_wp2_with fail
    go_ret
    exact ⟨ret_int (by decide), hb1⟩
  · go_enter Try.func7, Try.ntmps7
    go_wp2_with fail
    refine Calls.mono (turned_any 35 (by decide) _) ?_
    rintro e w1 ⟨rfl, hb1⟩
    go_wp2_with fail
    go_ret
    exact ⟨ret_int (by decide), hb1⟩
  · go_enter Try.func7, Try.ntmps7
    go_wp2_with fail
    refine Calls.mono (turned_any 49 (by decide) _) ?_
    rintro e w1 ⟨rfl, hb1⟩
    go_wp2_with fail
    go_ret
    exact ⟨ret_int (by decide), hb1⟩
  · go_enter Try.func7, Try.ntmps7
    go_wp2_with fail
    refine Calls.mono (turned_any 63 (by decide) _) ?_
    rintro e w1 ⟨rfl, hb1⟩
    go_wp2_with fail
    go_ret
    exact ⟨ret_int (by decide), hb1⟩
  · go_enter Try.func7, Try.ntmps7
    go_wp2_with fail
    refine Calls.mono (turned_any 77 (by decide) _) ?_
    rintro e w1 ⟨rfl, hb1⟩
    go_wp2_with fail
    go_ret
    exact ⟨ret_int (by decide), hb1⟩
  · go_enter Try.func7, Try.ntmps7
    go_wp2_with fail
    refine Calls.mono (turned_any 91 (by decide) _) ?_
    rintro e w1 ⟨rfl, hb1⟩
    go_wp2_with fail
    go_ret
    exact ⟨ret_int (by decide), hb1⟩
  · go_enter Try.func7, Try.ntmps7
    go_wp2_with fail
    refine Calls.mono (turned_any 105 (by decide) _) ?_
    rintro e w1 ⟨rfl, hb1⟩
    go_wp2_with fail
    go_ret
    exact ⟨ret_int (by decide), hb1⟩

theorem fac_any (u x : Nat) (hu : u ≤ 7) (hx : x ≤ 7) (w : World) : Calls Try.prog 7 #[.int .i64 (u : Int), .int .i64 (x : Int)] w fun e w' => e = .returned (.int .i64 (facN u x)) ∧ Below w.heap.size w w' := by
  rcases (by omega : u = 0 ∨ u = 1 ∨ u = 2 ∨ u = 3 ∨ u = 4 ∨ u = 5 ∨ u = 6 ∨ u = 7) with rfl | rfl | rfl | rfl | rfl | rfl | rfl | rfl
  · exact fac0 x hx w
  · exact fac1 x hx w
  · exact fac2 x hx w
  · exact fac3 x hx w
  · exact fac4 x hx w
  · exact fac5 x hx w
  · exact fac6 x hx w
  · exact fac7 x hx w

end Go.Proofs.Ytmfipjpmfigjaaa
