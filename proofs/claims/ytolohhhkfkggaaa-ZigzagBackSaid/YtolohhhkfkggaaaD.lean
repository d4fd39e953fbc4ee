/- The contracts of At and Place. Conditions: a step, or a place, within or without the block. -/
import Derived.Test.YtolohhhkfkggaaaC
import Derived.WalkLawsBesides
namespace Go.Proofs.Ytolohhhkfkggaaa
open Go.RowKit
open Go.Tin
set_option linter.unusedVariables false
set_option linter.unusedSimpArgs false

theorem at26 : AT Try.prog 26 3 .i64 64 := ⟨Try.underlying26, Try.underlying3, by kernel_rfl, by kernel_rfl⟩
theorem at27 : AT Try.prog 27 3 .i64 64 := ⟨Try.underlying27, Try.underlying3, by kernel_rfl, by kernel_rfl⟩
def outL (m : Nat) : List Int := (List.range 64).map fun j => if j < m then zig j else 0
theorem outL_end : outL 64 = zigL := by decide
theorem outA_arr : outA 64 = arr .i64 zigL := by rw [← outL_end]; simp [outA, arr, outL]
theorem zigL_len : zigL.length = 64 := by decide
theorem order_arr (w : World) : Calls Try.prog 18 #[] w fun e w' => e = .returned (.agg (arr .i64 zigL)) ∧ Below w.heap.size w w' := by rw [← outA_arr]; exact order_any w

theorem zix (j : Nat) (hj : j < 64) (W : World) : (Instr.index 26 (.agg (arr .i64 zigL)) (.int .i64 (j : Int))).run Try.prog W = .ok (.int .i64 (zig j)) W := idx_run at26 zigL_len .i64 j hj W
/-- At, of a step. -/
theorem at_in (j : Nat) (hj : j < 64) (w : World) : Calls Try.prog 7 #[.int .i64 (j : Int)] w fun e w' => e = .returned (.int .i64 (zig j)) ∧ Below w.heap.size w w' := by
  have h1 : (j : Int) < 64 := by omega
  have h0 : (0 : Int) ≤ (j : Int) := by omega
  have hix := fun W => zix j hj W
  go_enter Try.func7, Try.ntmps7
  go_wp2_with fail
  refine (order_arr _).mono ?_
  rintro e w1 ⟨rfl, hb⟩
  go_wp2_with fail
  go_ret
  exact ⟨rfl, hb⟩
/-- At, of no step. -/
theorem at_out (n : Int) (h : n < 0 ∨ 64 ≤ n) (w : World) : Calls Try.prog 7 #[.int .i64 n] w fun e w' => e = .returned (.int .i64 (-1)) ∧ w = w' := by
  rcases h with h | h
  · go_enter Try.func7, Try.ntmps7
    go_wp2
    go_ret
    exact ⟨rfl, rfl⟩
  · have h0 : ¬ n < 0 := by omega
    go_enter Try.func7, Try.ntmps7
    go_wp2
    go_ret
    exact ⟨rfl, rfl⟩

/-- The step of a place. -/
def unz (p : Nat) : Nat := zigL.findIdx (· == (p : Int))
theorem unz_lt : ∀ p, p < 64 → unz p < 64 := by decide
theorem zig_unz : ∀ p, p < 64 → zig (unz p) = p := by decide
theorem unz_first : ∀ p, p < 64 → ∀ j, j < unz p → zig j ≠ p := by decide

theorem place_in (p : Nat) (hp : p < 64) (w : World) : Calls Try.prog 8 #[.int .i64 (p : Int)] w fun e w' => e = .returned (.int .i64 (unz p)) ∧ Below w.heap.size w w' := by
  go_enter Try.func8, Try.ntmps8
  go_wp2_with fail
  refine (order_arr _).mono ?_
  rintro e w1 ⟨rfl, hb⟩
  go_wp2_with fail
  go_loop [6] (fun s6 => ∃ j : Nat, j ≤ unz p ∧ s6 = .int .i64 (j : Int)) (fun s6 => 64 - (intOf s6).toNat)
  case atStart => exact ⟨0, Nat.zero_le _, rfl⟩
  case round =>
    obtain ⟨j, hj, rfl⟩ := hrel
    have hlt := unz_lt p hp
    have hj64 : j < 64 := by omega
    have hj1 : (j : Int) < 64 := by omega
    have hix := fun W => zix j hj64 W
    by_cases he : j = unz p
    · have hz : (zig j == (p : Int)) = true := by rw [he]; simpa using zig_unz p hp
      have hz' := Lib.hid he
      clear he
      go_wp2_with fail
      go_ret
      exact ⟨by rw [hz'.out]; rfl, hb⟩
    · have hz : (zig j == (p : Int)) = false := by have := unz_first p hp j (by omega); simpa using this
      go_wp2_with fail
      go_round
      case rel => exact ⟨j + 1, by omega, by go_num⟩
      case measure => simp [intOf]; omega

theorem place_out (n : Int) (h : n < 0 ∨ 64 ≤ n) (w : World) : Calls Try.prog 8 #[.int .i64 n] w fun e w' => e = .returned (.int .i64 (-1)) ∧ Below w.heap.size w w' := by
  have hne : ∀ j, j < 64 → (zig j == n) = false := by
    intro j hj
    have h1 : ∀ j, j < 64 → 0 ≤ zig j ∧ zig j < 64 := by decide
    have := h1 j hj
    simp only [beq_eq_false_iff_ne, ne_eq]
    omega
  have HN := Lib.hid hne
  clear hne
  go_enter Try.func8, Try.ntmps8
  go_wp2_with fail
  refine (order_arr _).mono ?_
  rintro e w1 ⟨rfl, hb⟩
  go_wp2_with fail
  go_loop [6] (fun s6 => ∃ j : Nat, j ≤ 64 ∧ s6 = .int .i64 (j : Int)) (fun s6 => 64 - (intOf s6).toNat)
  case atStart => exact ⟨0, Nat.zero_le _, rfl⟩
  case round =>
    obtain ⟨j, hj, rfl⟩ := hrel
    by_cases hj64 : j < 64
    · have hj1 : (j : Int) < 64 := by omega
      have hix := fun W => zix j hj64 W
      have hz := HN.out j hj64
      go_wp2_with fail
      go_round
      case rel => exact ⟨j + 1, by omega, by go_num⟩
      case measure => simp [intOf]; omega
    · have hj1 : (64 : Int) ≤ (j : Int) := by omega
      go_wp2_with fail
      go_ret
      exact ⟨rfl, hb⟩
end Go.Proofs.Ytolohhhkfkggaaa
