/- The walks of the laws ZigzagAt and ZigzagWay. -/
import Derived.Test.YtolohhhkfkggaaaH
import Derived.Outline
namespace Go.Proofs.Ytolohhhkfkggaaa
open Go.RowKit
open Go.Tin
set_option linter.unusedVariables false
set_option linter.unusedSimpArgs false

set_option maxRecDepth 100000 in
set_option maxHeartbeats 2000000 in
theorem walkAt (n : Int) (w : World) (wf : (Lit.int .i64 n).wf = true) : Calls Try.prog 3 #[.int .i64 n] w fun e w' => e = .returned (.bool true) ∧ Below w.heap.size w w' := by
  clear wf
  by_cases hn : 0 ≤ n ∧ n < 64
  · obtain ⟨j, rfl⟩ : ∃ j : Nat, n = (j : Int) := ⟨n.toNat, by omega⟩
    obtain ⟨h0, h1⟩ := hn
    have hj : j < 64 := by omega
    have d0 : decide ((j : Int) < 0) = false := by simp
    have d1 : decide ((63 : Int) < (j : Int)) = false := by simp; omega
    clear h1
    go_enter Try.func3, Try.ntmps3
    go_wp2_with fail
    refine (at_in j hj _).mono ?_
    rintro e w1 ⟨rfl, hb1⟩
    go_wp2_with fail
    refine (rat_any j hj _).mono ?_
    rintro e w' ⟨rfl, rfl⟩
    go_wp2_with fail
    refine (place_in j hj _).mono ?_
    rintro e w2 ⟨rfl, hb2⟩
    go_wp2_with fail
    refine (rplace_any j hj _).mono ?_
    rintro e w' ⟨rfl, rfl⟩
    go_wp2_with fail
    refine (awake_any _).mono ?_
    rintro e w3 ⟨rfl, hb3⟩
    go_wp2_with fail
    go_ret
    exact ⟨rfl, bt (bt hb1 hb2) hb3⟩
  · have hn' : n < 0 ∨ 64 ≤ n := by omega
    clear hn
    rcases hn' with h | h
    · have d0 : decide (n < 0) = true := by simpa using h
      go_enter Try.func3, Try.ntmps3
      go_wp2_with fail
      refine (at_out n (.inl h) _).mono ?_
      rintro e w' ⟨rfl, rfl⟩
      go_wp2_with fail
      refine (place_out n (.inl h) _).mono ?_
      rintro e w2 ⟨rfl, hb2⟩
      go_wp2_with fail
      refine (awake_any _).mono ?_
      rintro e w3 ⟨rfl, hb3⟩
      go_wp2_with fail
      go_ret
      exact ⟨rfl, bt hb2 hb3⟩
    · have d0 : decide (n < 0) = false := by simp; omega
      have d1 : decide (63 < n) = true := by simp; omega
      go_enter Try.func3, Try.ntmps3
      go_wp2_with fail
      refine (at_out n (.inr h) _).mono ?_
      rintro e w' ⟨rfl, rfl⟩
      go_wp2_with fail
      refine (place_out n (.inr h) _).mono ?_
      rintro e w2 ⟨rfl, hb2⟩
      go_wp2_with fail
      refine (awake_any _).mono ?_
      rintro e w3 ⟨rfl, hb3⟩
      go_wp2_with fail
      go_ret
      exact ⟨rfl, bt hb2 hb3⟩
end Go.Proofs.Ytolohhhkfkggaaa
