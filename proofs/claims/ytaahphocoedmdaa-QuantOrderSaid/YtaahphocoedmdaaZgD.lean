/- The contracts of At and Place. Conditions: a step, or a place, within or without the block. -/
import Derived.Test.YtaahphocoedmdaaZgC
import Derived.WalkLawsBesides
namespace Go.Proofs.Ytaahphocoedmdaa
open Go.RowKit
open Go.Tin
set_option linter.unusedVariables false
set_option linter.unusedSimpArgs false

theorem at26 : AT Try.prog 22 3 .i64 64 := ⟨Try.underlying22, Try.underlying3, by kernel_rfl, by kernel_rfl⟩
theorem at27 : AT Try.prog 23 3 .i64 64 := ⟨Try.underlying23, Try.underlying3, by kernel_rfl, by kernel_rfl⟩
def outL (m : Nat) : List Int := (List.range 64).map fun j => if j < m then zig j else 0
theorem outL_end : outL 64 = zigL := by decide
theorem outA_arr : outA 64 = arr .i64 zigL := by rw [← outL_end]; simp [outA, arr, outL]
theorem zigL_len : zigL.length = 64 := by decide
theorem order_arr (w : World) : Calls Try.prog 30 #[] w fun e w' => e = .returned (.agg (arr .i64 zigL)) ∧ Below w.heap.size w w' := by rw [← outA_arr]; exact order_any w

theorem zix (j : Nat) (hj : j < 64) (W : World) : (Instr.index 22 (.agg (arr .i64 zigL)) (.int .i64 (j : Int))).run Try.prog W = .ok (.int .i64 (zig j)) W := idx_run at26 zigL_len .i64 j hj W
/-- The step of a place. -/
def unz (p : Nat) : Nat := zigL.findIdx (· == (p : Int))
theorem unz_lt : ∀ p, p < 64 → unz p < 64 := by decide
theorem zig_unz : ∀ p, p < 64 → zig (unz p) = p := by decide
theorem unz_first : ∀ p, p < 64 → ∀ j, j < unz p → zig j ≠ p := by decide

end Go.Proofs.Ytaahphocoedmdaa
