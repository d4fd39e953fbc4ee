/- The contracts of At and Place. Conditions: a step, or a place, within or without the block. -/
import Derived.Test.YtckkncblbagfmaaZgC
import Derived.WalkLawsBesides
namespace Go.Proofs.Ytckkncblbagfmaa
open Go.RowKit
open Go.Tin
set_option linter.unusedVariables false
set_option linter.unusedSimpArgs false

theorem at26 : AT Try.prog 32 3 .i64 64 := ⟨Try.underlying32, Try.underlying3, by kernel_rfl, by kernel_rfl⟩
theorem at27 : AT Try.prog 33 3 .i64 64 := ⟨Try.underlying33, Try.underlying3, by kernel_rfl, by kernel_rfl⟩
def outL (m : Nat) : List Int := (List.range 64).map fun j => if j < m then zig j else 0
theorem outL_end : outL 64 = zigL := by decide
theorem outA_arr : outA 64 = arr .i64 zigL := by rw [← outL_end]; simp [outA, arr, outL]
theorem zigL_len : zigL.length = 64 := by decide
theorem order_arr (w : World) : Calls Try.prog 31 #[] w fun e w' => e = .returned (.agg (arr .i64 zigL)) ∧ Below w.heap.size w w' := by rw [← outA_arr]; exact order_any w

theorem zix (j : Nat) (hj : j < 64) (W : World) : (Instr.index 32 (.agg (arr .i64 zigL)) (.int .i64 (j : Int))).run Try.prog W = .ok (.int .i64 (zig j)) W := idx_run at26 zigL_len .i64 j hj W
/-- At, of a step. -/
theorem at_in (j : Nat) (hj : j < 64) (w : World) : Calls Try.prog 25 #[.int .i64 (j : Int)] w fun e w' => e = .returned (.int .i64 (zig j)) ∧ Below w.heap.size w w' := by
  have h1 : (j : Int) < 64 := by omega
  have h0 : (0 : Int) ≤ (j : Int) := by omega
  have hix := fun W => zix j hj W
  go_enter Try.func25, Try.ntmps25
  go_wp2_with fail
  refine (order_arr _).mono ?_
  rintro e w1 ⟨rfl, hb⟩
  go_wp2_with fail
  go_ret
  exact ⟨rfl, hb⟩
/-- At, of no step. -/
theorem at_out (n : Int) (h : n < 0 ∨ 64 ≤ n) (w : World) : Calls Try.prog 25 #[.int .i64 n] w fun e w' => e = .returned (.int .i64 (-1)) ∧ w = w' := by
  rcases h with h | h
  · go_enter Try.func25, Try.ntmps25
    go_wp2
    go_ret
    exact ⟨rfl, rfl⟩
  · have h0 : ¬ n < 0 := by omega
    go_enter Try.func25, Try.ntmps25
    go_wp2
    go_ret
    exact ⟨rfl, rfl⟩
/-- The step of a place. -/
def unz (p : Nat) : Nat := zigL.findIdx (· == (p : Int))
theorem unz_lt : ∀ p, p < 64 → unz p < 64 := by decide
theorem zig_unz : ∀ p, p < 64 → zig (unz p) = p := by decide
theorem unz_first : ∀ p, p < 64 → ∀ j, j < unz p → zig j ≠ p := by decide

end Go.Proofs.Ytckkncblbagfmaa
