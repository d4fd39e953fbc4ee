/- The contracts of Add, Room, Even and their references, and of what is asked of two answers. -/
import Derived.Test.YthjmnahmejagmaaOcC
namespace Go.Proofs.Ythjmnahmejagmaa
open Go.RowKit
open Go.Tin
set_option linter.unusedVariables false
set_option linter.unusedSimpArgs false


def offB (n : Int) : Bool := decide (0 ≤ n) && decide (n ≤ 4294967295)
theorem offB_t {n : Int} (h : 0 ≤ n) (h' : n ≤ 4294967295) : offB n = true := by unfold offB; simp; omega
theorem offB_f {n : Int} (h : n < 0 ∨ 4294967295 < n) : offB n = false := by unfold offB; simp; omega
set_option maxRecDepth 100000 in
set_option maxHeartbeats 1000000 in
theorem room_any (a l n : Int) (w : World) (hn : n ≤ 9223372036854775807) :
    Calls Try.prog 43 #[.int .i64 a, .int .i64 l, .int .i64 n] w fun e w' => e = .returned (.bool (roomB a l n)) ∧ w = w' := by
  by_cases h1 : 0 ≤ a
  · have d1 : decide (0 ≤ a) = true := by simpa using h1
    by_cases h2 : 0 ≤ l
    · have d2 : decide (0 ≤ l) = true := by simpa using h2
      by_cases h3 : a ≤ n
      · have d3 : decide (a ≤ n) = true := by simpa using h3
        have HR := Lib.hid (show roomB a l n = decide (l ≤ n - a) by unfold roomB; rw [d1, d2, d3]; simp)
        go_enter Try.func43, Try.ntmps43
        go_wp2_with fail
        go_ret
        exact ⟨ret_bool HR.out.symm, rfl⟩
      · have d3 : decide (a ≤ n) = false := by simpa using h3
        have HR := Lib.hid (show roomB a l n = false by unfold roomB; rw [d1, d2, d3]; simp)
        go_enter Try.func43, Try.ntmps43
        go_wp2_with fail
        go_ret
        exact ⟨ret_bool HR.out.symm, rfl⟩
    · have d2 : decide (0 ≤ l) = false := by simpa using h2
      have HR := Lib.hid (show roomB a l n = false by unfold roomB; rw [d1, d2]; simp)
      go_enter Try.func43, Try.ntmps43
      go_wp2_with fail
      go_ret
      exact ⟨ret_bool HR.out.symm, rfl⟩
  · have d1 : decide (0 ≤ a) = false := by simpa using h1
    have HR := Lib.hid (show roomB a l n = false by unfold roomB; rw [d1]; simp)
    go_enter Try.func43, Try.ntmps43
    go_wp2_with fail
    go_ret
    exact ⟨ret_bool HR.out.symm, rfl⟩

theorem i64_and1 (n : Int) : bits .and .i64 n 1 = n % 2 := by
  have h1 : (BitVec.ofInt 64 1).toNat = 2 ^ 1 - 1 := by decide
  have key : (BitVec.ofInt 64 n &&& BitVec.ofInt 64 1).toNat = (n % ((2 ^ 64 : Nat) : Int)).toNat % 2 ^ 1 := by
    rw [BitVec.toNat_and, BitVec.toNat_ofInt, h1, Nat.and_two_pow_sub_one_eq_mod]
  show IntKind.i64.wrap ((BitVec.ofInt 64 n &&& BitVec.ofInt 64 1).toNat : Nat) = n % 2
  rw [key, IntKind.wrap_i64]
  omega
theorem tmod2 (n : Int) : n.tmod 2 = 0 ∧ n % 2 = 0 ∨ n.tmod 2 ≠ 0 ∧ n % 2 = 1 := by
  rcases (by omega : n % 2 = 0 ∨ n % 2 = 1) with h | h
  · exact .inl ⟨by rw [Int.tmod_eq_emod]; simp [Int.dvd_of_emod_eq_zero h, h], h⟩
  · refine .inr ⟨fun h0 => ?_, h⟩
    have := Int.dvd_of_tmod_eq_zero h0
    omega
/-- Is an answer that number, or none? -/
def isB (n : Int) (ok : Bool) (m : Int) (f : Bool) : Bool := decide (n = m) && (ok == f)
end Go.Proofs.Ythjmnahmejagmaa
