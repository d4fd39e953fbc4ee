/- The law ColourTells of the law file, walked: it returns true for any three numbers; and the examples. No condition beyond the types. -/
import Derived.Test.YtknnmgbiondipaaB
import Derived.Test.YtknnmgbiondipaaPre
namespace Go.Proofs.Ytknnmgbiondipaa
open Go.RowKit
set_option linter.unusedVariables false

theorem eq3 (a b c x y z : Int) (w : World) : (Op.equalIn 10000 23 (.agg #[.int .i64 a, .int .i64 b, .int .i64 c]) (.agg #[.int .i64 x, .int .i64 y, .int .i64 z])).run Try.prog w = .ok (decide ([a, b, c] = [x, y, z])) w := by
  have h : (Try.prog.info? 3).map (fun i => i.size) = some 1 := by kernel_rfl
  obtain ⟨i, hi, hs⟩ := Option.map_eq_some_iff.1 h
  exact Tin.run_eql_ints w 9998 23 3 i .i64 3 Try.underlying23 Try.underlying3 hi hs [a, b, c] [x, y, z] rfl rfl

theorem all_no (A : Option Addr) (n c : Nat) (p : Bool) (w : World) (hn : n ≤ 1000000) (h : ((n : Int) % 3 != 0) = true) :
    Calls Try.prog 14 #[.slice A n c, .bool p] w fun e w' => e = .returned (.slice none 0 0) ∧ w = w' := by
  go_enter Try.func14, Try.ntmps14
  go_wp2
  go_ret
  exact ⟨rfl, rfl⟩

theorem lluma_red (w : World) : Calls Try.prog 9 #[.int .i64 255, .int .i64 0, .int .i64 0] w fun e w' => e = .returned (.agg #[.int .i64 76, .int .i64 85, .int .i64 255]) ∧ Below w.heap.size w w' := lluma_any 255 0 0 w
theorem lluma_blue (w : World) : Calls Try.prog 9 #[.int .i64 0, .int .i64 0, .int .i64 255] w fun e w' => e = .returned (.agg #[.int .i64 29, .int .i64 255, .int .i64 107]) ∧ Below w.heap.size w w' := lluma_any 0 0 255 w
theorem lpaint_red (w : World) : Calls Try.prog 11 #[.int .i64 76, .int .i64 85, .int .i64 255] w fun e w' => e = .returned (.agg #[.int .i64 254, .int .i64 0, .int .i64 0]) ∧ Below w.heap.size w w' := lpaint_any 76 85 255 w

theorem awake_any (w : World) : Calls Try.prog 13 #[] w fun e w' => e = .returned (.bool true) ∧ Below w.heap.size w w' := by
  have heq := eq3
  go_enter Try.func13, Try.ntmps13
  go_wp2_with fail
  refine (lluma_red _).mono ?_
  rintro e w1 ⟨rfl, hb1⟩
  go_wp2_with fail
  refine (lluma_blue _).mono ?_
  rintro e w2 ⟨rfl, hb2⟩
  go_wp2_with fail
  refine (lpaint_red _).mono ?_
  rintro e w3 ⟨rfl, hb3⟩
  go_wp2_with fail
  refine (all_no _ _ _ _ _ (by decide) (by decide)).mono ?_
  rintro e w4 ⟨rfl, rfl⟩
  go_wp2_with fail
  go_ret
  exact ⟨rfl, Tin.ba (Tin.bt (Tin.bt hb1 hb2) hb3) _⟩

theorem tells (a b c : Int) (w : World) (w0 : (Lit.int .i64 a).wf = true) (w1 : (Lit.int .i64 b).wf = true) (w2 : (Lit.int .i64 c).wf = true) :
    Calls Try.prog 3 #[.int .i64 a, .int .i64 b, .int .i64 c] w fun e w' => e = .returned (.bool true) ∧ Below w.heap.size w w' := by
  have heq := eq3
  go_enter Try.func3, Try.ntmps3
  go_wp2_with fail
  refine (clamp_any _ _).mono ?_
  rintro e w1 ⟨rfl, rfl⟩
  go_wp2_with fail
  refine (rclamp_any _ _).mono ?_
  rintro e w1 ⟨rfl, rfl⟩
  go_wp2_with fail
  refine (lluma_any _ _ _ _).mono ?_
  rintro e w1 ⟨rfl, hb1⟩
  go_wp2_with fail
  refine (rluma_any _ _ _ _).mono ?_
  rintro e w2 ⟨rfl, hb2⟩
  go_wp2_with fail
  refine (lpaint_any _ _ _ _).mono ?_
  rintro e w3 ⟨rfl, hb3⟩
  go_wp2_with fail
  refine (rpaint_any _ _ _ _).mono ?_
  rintro e w4 ⟨rfl, hb4⟩
  go_wp2_with fail
  refine (awake_any _).mono ?_
  rintro e w5 ⟨rfl, hb5⟩
  go_wp2_with fail
  go_ret
  exact ⟨rfl, Tin.bt (Tin.bt (Tin.bt (Tin.bt hb1 hb2) hb3) hb4) hb5⟩
end Go.Proofs.Ytknnmgbiondipaa
