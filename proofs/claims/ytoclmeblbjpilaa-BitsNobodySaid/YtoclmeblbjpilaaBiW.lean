/- The walk of BitsNobody. -/
import Derived.Test.YtoclmeblbjpilaaBiV
namespace Go.Proofs.Ytoclmeblbjpilaa
open Go.RowKit
open Go.Tin
set_option linter.unusedVariables false
set_option linter.unusedSimpArgs false


set_option maxRecDepth 100000 in
set_option maxHeartbeats 2000000 in
theorem nobody_any (v n : Int) (w : World) (wv : (Lit.int .i64 v).wf = true) (wn : (Lit.int .i64 n).wf = true) :
    Calls Try.prog 5 #[.int .i64 v, .int .i64 n] w fun e w' => e = .returned (.bool true) ∧ Below w.heap.size w w' := by
  clear wv wn
  go_enter Try.func5, Try.ntmps5
  go_wp2_with fail
  refine (ntake_any n w).mono ?_
  rintro e w1 ⟨rfl, hb1⟩
  go_wp2_with fail
  refine (nput_any v n w1).mono ?_
  rintro e w2 ⟨rfl, hb2⟩
  go_wp2_with fail
  refine (nlen_any w2).mono ?_
  rintro e w3 ⟨rfl, hb3⟩
  go_wp2_with fail
  refine (ndone_any w3).mono ?_
  rintro e w4 ⟨rfl, hb4⟩
  go_wp2_with fail
  refine (nleft_any w4).mono ?_
  rintro e w5 ⟨rfl, hb5⟩
  go_wp2_with fail
  refine (nfilled_any w5).mono ?_
  rintro e w6 ⟨rfl, hb6⟩
  go_wp2_with fail
  refine (awake_any w6).mono ?_
  rintro e w7 ⟨rfl, hb7⟩
  go_wp2_with fail
  go_ret
  exact ⟨rfl, bt (bt (bt (bt (bt (bt hb1 hb2) hb3) hb4) hb5) hb6) hb7⟩
end Go.Proofs.Ytoclmeblbjpilaa
