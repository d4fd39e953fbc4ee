/- The contracts of the reference's Size and Part, of signed, and of the sizes of values of entries. -/
import Derived.Test.YtmdcdmgbillehaaTyC
namespace Go.Proofs.Ytmdcdmgbillehaa
open Go.RowKit
open Go.Tin
set_option linter.unusedVariables false
set_option linter.unusedSimpArgs false


theorem rsize_any (n : Int) (w : World) : Calls Try.prog 31 #[.int .i64 n] w fun e w' => e = .returned (.int .i64 (szT n)) ∧ w = w' := by
  by_cases h : n < 0 ∨ 12 < n
  · have HK := Lib.hid (kd_no h).1
    have d1 : (n == 1) = false := by simp; omega
    have d2 : (n == 2) = false := by simp; omega
    have d3 : (n == 3) = false := by simp; omega
    have d4 : (n == 4) = false := by simp; omega
    have d5 : (n == 5) = false := by simp; omega
    have d6 : (n == 6) = false := by simp; omega
    have d7 : (n == 7) = false := by simp; omega
    have d8 : (n == 8) = false := by simp; omega
    have d9 : (n == 9) = false := by simp; omega
    have d10 : (n == 10) = false := by simp; omega
    have d11 : (n == 11) = false := by simp; omega
    have d12 : (n == 12) = false := by simp; omega
    clear h
    go_enter Try.func31, Try.ntmps31
    go_wp2_with fail
    go_ret
    exact ⟨by rw [HK.out]; rfl, rfl⟩
  · rcases n13 (show 0 ≤ n by omega) (by omega) with rfl | rfl | rfl | rfl | rfl | rfl | rfl | rfl | rfl | rfl | rfl | rfl | rfl
    all_goals
      clear h
      go_enter Try.func31, Try.ntmps31
      go_wp2_with fail
      go_ret
      exact ⟨rfl, rfl⟩
theorem rpart_any (n : Int) (w : World) : Calls Try.prog 49 #[.int .i64 n] w fun e w' => e = .returned (.int .i64 (prT n)) ∧ w = w' := by
  by_cases h5 : n = 5
  · subst h5
    go_enter Try.func49, Try.ntmps49
    go_wp2_with fail
    go_ret
    exact ⟨rfl, rfl⟩
  by_cases h10 : n = 10
  · subst h10
    go_enter Try.func49, Try.ntmps49
    go_wp2_with fail
    go_ret
    exact ⟨rfl, rfl⟩
  have d5 : (n == 5) = false := by simpa using h5
  have d10 : (n == 10) = false := by simpa using h10
  have HK := Lib.hid (show prT n = szT n by unfold prT; rw [if_neg (by omega)])
  clear h5 h10
  go_enter Try.func49, Try.ntmps49
  go_wp2_with fail
  refine (rsize_any n _).mono ?_
  rintro e w1 ⟨rfl, rfl⟩
  go_wp2_with fail
  go_ret
  exact ⟨by rw [HK.out]; rfl, rfl⟩
def sgT (n : Int) : Bool := decide (n = 6 ∨ n = 8 ∨ n = 9 ∨ n = 10)
theorem rsgn_any (n : Int) (w : World) : Calls Try.prog 61 #[.int .i64 n] w fun e w' => e = .returned (.bool (sgT n)) ∧ w = w' := by
  by_cases h : n < 0 ∨ 12 < n
  · have HK := Lib.hid (show sgT n = false by unfold sgT; simp; omega)
    have d6 : (n == 6) = false := by simp; omega
    have d8 : (n == 8) = false := by simp; omega
    have d9 : (n == 9) = false := by simp; omega
    have d10 : (n == 10) = false := by simp; omega
    clear h
    go_enter Try.func61, Try.ntmps61
    go_wp2_with fail
    go_ret
    exact ⟨by rw [HK.out]; rfl, rfl⟩
  · rcases n13 (show 0 ≤ n by omega) (by omega) with rfl | rfl | rfl | rfl | rfl | rfl | rfl | rfl | rfl | rfl | rfl | rfl | rfl
    all_goals
      clear h
      go_enter Try.func61, Try.ntmps61
      go_wp2_with fail
      go_ret
      exact ⟨rfl, rfl⟩
end Go.Proofs.Ytmdcdmgbillehaa
