/- The contracts of markers and scans. -/
import Derived.Test.YtfohajgljjffgaaMkM
namespace Go.Proofs.Ytfohajgljjffgaa
open Go.RowKit
open Go.Tin
set_option linter.unusedVariables false
set_option linter.unusedSimpArgs false


theorem alo_any (m : Int) (w : World) : Calls Try.prog 38 #[.int .i64 m] w fun e w' => e = .returned (.bool (aloB m)) ∧ w = w' := by
  have HD := Lib.hid (show aloB m = (m == 216 || m == 217) from rfl)
  cases h1 : (m == 216) <;> cases h2 : (m == 217)
  all_goals
    have HE := Lib.hid (by have h := HD.out; rw [h1, h2] at h; exact h)
    go_enter Try.func38, Try.ntmps38
    go_wp2_with fail
    go_ret
    exact ⟨by rw [HE.out]; rfl, rfl⟩
theorem rst_any (m : Int) (w : World) : Calls Try.prog 58 #[.int .i64 m] w fun e w' => e = .returned (.bool (rstB m)) ∧ w = w' := by
  have HD := Lib.hid (show rstB m = (decide (208 ≤ m) && decide (m < 216)) from rfl)
  cases h1 : decide (208 ≤ m) <;> cases h2 : decide (m < 216)
  all_goals
    have HE := Lib.hid (by have h := HD.out; rw [h1, h2] at h; exact h)
    go_enter Try.func58, Try.ntmps58
    go_wp2_with fail
    go_ret
    exact ⟨by rw [HE.out]; rfl, rfl⟩
theorem rrst_any (m : Int) (w : World) : Calls Try.prog 57 #[.int .i64 m] w fun e w' => e = .returned (.bool (rstB m)) ∧ w = w' := by
  have HD := Lib.hid (show rstB m = (decide (208 ≤ m) && decide (m ≤ 215)) by unfold rstB; rw [show decide (m < 216) = decide (m ≤ 215) by rw [decide_eq_decide]; omega])
  cases h1 : decide (208 ≤ m) <;> cases h2 : decide (m ≤ 215)
  all_goals
    have HE := Lib.hid (by have h := HD.out; rw [h1, h2] at h; exact h)
    go_enter Try.func57, Try.ntmps57
    go_wp2_with fail
    go_ret
    exact ⟨by rw [HE.out]; rfl, rfl⟩
theorem hd_any (m : Int) (w : World) : Calls Try.prog 49 #[.int .i64 m] w fun e w' => e = .returned (.bool (hdB m)) ∧ w = w' := by
  have HD := Lib.hid (show hdB m = (decide (192 ≤ m) && (decide (m < 255) && (!aloB m && !rstB m))) from rfl)
  have HA := Lib.hid (alo_any m w)
  have HR := Lib.hid (rst_any m w)
  generalize aloB m = AB at *
  generalize rstB m = RB at *
  cases h1 : decide (192 ≤ m) with
  | false =>
    have HE := Lib.hid (by have h := HD.out; rw [h1] at h; exact h)
    go_enter Try.func49, Try.ntmps49
    go_wp2_with fail
    go_ret
    exact ⟨by rw [HE.out]; rfl, rfl⟩
  | true =>
    cases h2 : decide (m < 255) with
    | false =>
      have HE := Lib.hid (by have h := HD.out; rw [h1, h2] at h; exact h)
      go_enter Try.func49, Try.ntmps49
      go_wp2_with fail
      go_ret
      exact ⟨by rw [HE.out]; rfl, rfl⟩
    | true =>
      have HE := Lib.hid (by have h := HD.out; rw [h1, h2] at h; exact h)
      go_enter Try.func49, Try.ntmps49
      go_wp2_with fail
      refine HA.out.mono ?_
      rintro e w' ⟨rfl, rfl⟩
      cases AB with
      | true =>
        go_wp2_with fail
        go_ret
        exact ⟨by rw [HE.out]; rfl, rfl⟩
      | false =>
        go_wp2_with fail
        refine HR.out.mono ?_
        rintro e w' ⟨rfl, rfl⟩
        go_wp2_with fail
        go_ret
        exact ⟨by rw [HE.out]; rfl, rfl⟩
theorem rhd_any (m : Int) (w : World) : Calls Try.prog 42 #[.int .i64 m] w fun e w' => e = .returned (.bool (hdB m)) ∧ w = w' := by
  have HD := Lib.hid (show hdB m = (decide (192 ≤ m) && (decide (m ≤ 254) && (!rstB m && (m != 216 && m != 217)))) by
    unfold hdB
    rw [show decide (m < 255) = decide (m ≤ 254) by rw [decide_eq_decide]; omega, show aloB m = (m == 216 || m == 217) from rfl]
    have e1 : (m != 216) = !(m == 216) := rfl
    have e2 : (m != 217) = !(m == 217) := rfl
    rw [e1, e2]
    cases (m == 216) <;> cases (m == 217) <;> cases rstB m <;> rfl)
  have HR := Lib.hid (rrst_any m w)
  generalize rstB m = RB at *
  cases h1 : decide (192 ≤ m) with
  | false =>
    have HE := Lib.hid (by have h := HD.out; rw [h1] at h; exact h)
    go_enter Try.func42, Try.ntmps42
    go_wp2_with fail
    go_ret
    exact ⟨by rw [HE.out]; rfl, rfl⟩
  | true =>
    cases h2 : decide (m ≤ 254) with
    | false =>
      have HE := Lib.hid (by have h := HD.out; rw [h1, h2] at h; exact h)
      go_enter Try.func42, Try.ntmps42
      go_wp2_with fail
      go_ret
      exact ⟨by rw [HE.out]; rfl, rfl⟩
    | true =>
      cases RB with
      | true =>
        have HE := Lib.hid (by have h := HD.out; rw [h1, h2] at h; exact h)
        go_enter Try.func42, Try.ntmps42
        go_wp2_with fail
        refine HR.out.mono ?_
        rintro e w' ⟨rfl, rfl⟩
        go_wp2_with fail
        go_ret
        exact ⟨by rw [HE.out]; rfl, rfl⟩
      | false =>
        cases h3 : (m != 216) <;> cases h4 : (m != 217)
        all_goals
          have HE := Lib.hid (by have h := HD.out; rw [h1, h2, h3, h4] at h; exact h)
          go_enter Try.func42, Try.ntmps42
          go_wp2_with fail
          refine HR.out.mono ?_
          rintro e w' ⟨rfl, rfl⟩
          go_wp2_with fail
          go_ret
          exact ⟨by rw [HE.out]; rfl, rfl⟩
end Go.Proofs.Ytfohajgljjffgaa
