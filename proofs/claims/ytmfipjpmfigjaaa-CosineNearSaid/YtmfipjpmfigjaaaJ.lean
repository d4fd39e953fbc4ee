/- The walk of CosineFactors. -/
import Derived.Test.YtmfipjpmfigjaaaI
namespace Go.Proofs.Ytmfipjpmfigjaaa
open Go.RowKit
open Go.Tin
set_option linter.unusedVariables false
set_option linter.unusedSimpArgs false

theorem fac_both (u x : Int) : ∃ r : Int, (∀ w : World, Calls Try.prog 7 #[.int .i64 u, .int .i64 x] w fun e w' => e = .returned (.int .i64 r) ∧ Below w.heap.size w w') ∧ ∀ w : World, Calls Try.prog 8 #[.int .i64 u, .int .i64 x] w fun e w' => e = .returned (.int .i64 r) ∧ Below w.heap.size w w' := by
  by_cases h : u < 0 ∨ 7 < u ∨ x < 0 ∨ 7 < x
  · refine ⟨0, fun w => ?_, fun w => ?_⟩
    · refine (fac_out u x w h).mono ?_
      rintro e w' ⟨rfl, rfl⟩
      exact ⟨rfl, brefl _⟩
    · refine (rfac_out u x w h).mono ?_
      rintro e w' ⟨rfl, rfl⟩
      exact ⟨rfl, brefl _⟩
  · obtain ⟨a, rfl⟩ := Int.eq_ofNat_of_zero_le (show 0 ≤ u by omega)
    obtain ⟨b, rfl⟩ := Int.eq_ofNat_of_zero_le (show 0 ≤ x by omega)
    exact ⟨facN a b, fun w => fac_any a b (by omega) (by omega) w, fun w => rfac_any a b (by omega) (by omega) w⟩

theorem factors_any (u x : Int) (w : World) (wu : (Lit.int .i64 u).wf = true) (wx : (Lit.int .i64 x).wf = true) : Calls Try.prog 3 #[.int .i64 u, .int .i64 x] w fun e w' => e = .returned (.bool true) ∧ Below w.heap.size w w' := by
  obtain ⟨r, h1, h2⟩ := fac_both u x
  have H1 := Lib.hid h1
  have H2 := Lib.hid h2
  clear h1 h2
  go_enter Try.func3, Try.ntmps3
  go_wp2_with fail
  refine Calls.mono (H1.out w) ?_
  rintro e w1 ⟨rfl, hb1⟩
  go_wp2_with fail
  refine Calls.mono (H2.out w1) ?_
  rintro e w2 ⟨rfl, hb2⟩
  go_wp2_with fail
  refine Calls.mono (awake_any w2) ?_
  rintro e w3 ⟨rfl, hb3⟩
  go_wp2_with fail
  go_ret
  exact ⟨rfl, bt (bt hb1 hb2) hb3⟩
end Go.Proofs.Ytmfipjpmfigjaaa
