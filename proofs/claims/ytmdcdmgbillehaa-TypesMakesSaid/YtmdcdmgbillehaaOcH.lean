/- The contracts of Signed and Plain. -/
import Derived.Test.YtmdcdmgbillehaaOcC
namespace Go.Proofs.Ytmdcdmgbillehaa
open Go.RowKit
open Go.Tin
set_option linter.unusedVariables false
set_option linter.unusedSimpArgs false


set_option maxRecDepth 100000 in
set_option maxHeartbeats 1000000 in
theorem signed_1 (n : Int) (w : World) : Calls Try.prog 71 #[.int .i64 n, .int .i64 1] w fun e w' => e = .returned (.tuple #[.int .i64 (sgN n 1), .bool (sgB n 1)]) ∧ Below w.heap.size w w' := by
  have HM := Lib.hid (may_any 1 2 w)
  have HT := Lib.hid (show ∀ W : World, Calls Try.prog 75 #[.int .i64 1] W fun e w' => e = .returned (.int .i64 256) ∧ W = w' from fun W => top_any 1 W (by decide))
  have eT : topI 1 = 256 := by decide
  by_cases h1 : n < 0
  · have d1 : decide (n < 0) = true := by simpa using h1
    have hr : sgB n 1 = false := by unfold sgB; rw [eT]; simp; omega
    have HR := Lib.hid hr
    have HN := Lib.hid (show sgN n 1 = 0 by unfold sgN; rw [hr]; rfl)
    clear hr eT
    go_enter Try.func71, Try.ntmps71
    go_wp2_with fail
    refine HM.out.mono ?_
    rintro e w1 ⟨rfl, hb⟩
    rw [show mayO 1 2 = true by decide]
    go_wp2_with (refine (HT.out _).mono ?_; rintro e w2 ⟨rfl, rfl⟩)
    go_ret2
    exact ⟨ret_ib HN.out.symm HR.out.symm, hb⟩
  have d1 : decide (n < 0) = false := by simpa using h1
  by_cases h2 : 256 ≤ n
  · have d2 : decide (256 ≤ n) = true := by simpa using h2
    have hr : sgB n 1 = false := by unfold sgB; rw [eT]; simp; omega
    have HR := Lib.hid hr
    have HN := Lib.hid (show sgN n 1 = 0 by unfold sgN; rw [hr]; rfl)
    clear hr eT
    go_enter Try.func71, Try.ntmps71
    go_wp2_with fail
    refine HM.out.mono ?_
    rintro e w1 ⟨rfl, hb⟩
    rw [show mayO 1 2 = true by decide]
    go_wp2_with (refine (HT.out _).mono ?_; rintro e w2 ⟨rfl, rfl⟩)
    go_ret2
    exact ⟨ret_ib HN.out.symm HR.out.symm, hb⟩
  have d2 : decide (256 ≤ n) = false := by simpa using h2
  have hr : sgB n 1 = true := by unfold sgB; rw [eT]; simp; omega
  have HR := Lib.hid hr
  by_cases h3 : 128 ≤ n
  · have HN := Lib.hid (show sgN n 1 = n - 256 by unfold sgN; rw [if_pos hr, eT, if_pos (by omega)])
    clear hr eT
    go_enter Try.func71, Try.ntmps71
    go_wp2_with fail
    refine HM.out.mono ?_
    rintro e w1 ⟨rfl, hb⟩
    rw [show mayO 1 2 = true by decide]
    go_wp2_with (refine (HT.out _).mono ?_; rintro e w2 ⟨rfl, rfl⟩)
    go_ret2
    exact ⟨ret_ib HN.out.symm HR.out.symm, hb⟩
  · have h4 : n < 128 := by omega
    have HN := Lib.hid (show sgN n 1 = n by unfold sgN; rw [if_pos hr, eT, if_neg (by omega)])
    clear hr eT
    go_enter Try.func71, Try.ntmps71
    go_wp2_with fail
    refine HM.out.mono ?_
    rintro e w1 ⟨rfl, hb⟩
    rw [show mayO 1 2 = true by decide]
    go_wp2_with (refine (HT.out _).mono ?_; rintro e w2 ⟨rfl, rfl⟩)
    go_ret2
    exact ⟨ret_ib HN.out.symm HR.out.symm, hb⟩

set_option maxRecDepth 100000 in
set_option maxHeartbeats 1000000 in
theorem plain_1 (n : Int) (w : World) : Calls Try.prog 59 #[.int .i64 n, .int .i64 1] w fun e w' => e = .returned (.tuple #[.int .i64 (plN n 1), .bool (plB n 1)]) ∧ Below w.heap.size w w' := by
  have HM := Lib.hid (may_any 1 2 w)
  have HT := Lib.hid (show ∀ W : World, Calls Try.prog 75 #[.int .i64 1] W fun e w' => e = .returned (.int .i64 256) ∧ W = w' from fun W => top_any 1 W (by decide))
  have eT : topI 1 = 256 := by decide
  by_cases h1 : n < -128
  · have d1 : decide (n < -128) = true := by simpa using h1
    have hr : plB n 1 = false := by unfold plB; rw [eT]; simp; omega
    have HR := Lib.hid hr
    have HN := Lib.hid (show plN n 1 = 0 by unfold plN; rw [hr]; rfl)
    clear hr eT
    go_enter Try.func59, Try.ntmps59
    go_wp2_with fail
    refine HM.out.mono ?_
    rintro e w1 ⟨rfl, hb⟩
    rw [show mayO 1 2 = true by decide]
    go_wp2_with (refine (HT.out _).mono ?_; rintro e w2 ⟨rfl, rfl⟩)
    go_ret2
    exact ⟨ret_ib HN.out.symm HR.out.symm, hb⟩
  have d1 : decide (n < -128) = false := by simpa using h1
  by_cases h2 : 128 ≤ n
  · have d2 : decide (128 ≤ n) = true := by simpa using h2
    have hr : plB n 1 = false := by unfold plB; rw [eT]; simp; omega
    have HR := Lib.hid hr
    have HN := Lib.hid (show plN n 1 = 0 by unfold plN; rw [hr]; rfl)
    clear hr eT
    go_enter Try.func59, Try.ntmps59
    go_wp2_with fail
    refine HM.out.mono ?_
    rintro e w1 ⟨rfl, hb⟩
    rw [show mayO 1 2 = true by decide]
    go_wp2_with (refine (HT.out _).mono ?_; rintro e w2 ⟨rfl, rfl⟩)
    go_ret2
    exact ⟨ret_ib HN.out.symm HR.out.symm, hb⟩
  have d2 : decide (128 ≤ n) = false := by simpa using h2
  have hr : plB n 1 = true := by unfold plB; rw [eT]; simp; omega
  have HR := Lib.hid hr
  by_cases h3 : n < 0
  · have HN := Lib.hid (show plN n 1 = n + 256 by unfold plN; rw [if_pos hr, eT, if_pos (by omega)])
    clear hr eT
    go_enter Try.func59, Try.ntmps59
    go_wp2_with fail
    refine HM.out.mono ?_
    rintro e w1 ⟨rfl, hb⟩
    rw [show mayO 1 2 = true by decide]
    go_wp2_with (refine (HT.out _).mono ?_; rintro e w2 ⟨rfl, rfl⟩)
    go_ret2
    exact ⟨ret_ib HN.out.symm HR.out.symm, hb⟩
  · have h4 : 0 ≤ n := by omega
    have HN := Lib.hid (show plN n 1 = n by unfold plN; rw [if_pos hr, if_neg (by omega)])
    clear hr eT
    go_enter Try.func59, Try.ntmps59
    go_wp2_with fail
    refine HM.out.mono ?_
    rintro e w1 ⟨rfl, hb⟩
    rw [show mayO 1 2 = true by decide]
    go_wp2_with (refine (HT.out _).mono ?_; rintro e w2 ⟨rfl, rfl⟩)
    go_ret2
    exact ⟨ret_ib HN.out.symm HR.out.symm, hb⟩

set_option maxRecDepth 100000 in
set_option maxHeartbeats 1000000 in
theorem signed_2 (n : Int) (w : World) : Calls Try.prog 71 #[.int .i64 n, .int .i64 2] w fun e w' => e = .returned (.tuple #[.int .i64 (sgN n 2), .bool (sgB n 2)]) ∧ Below w.heap.size w w' := by
  have HM := Lib.hid (may_any 2 2 w)
  have HT := Lib.hid (show ∀ W : World, Calls Try.prog 75 #[.int .i64 2] W fun e w' => e = .returned (.int .i64 65536) ∧ W = w' from fun W => top_any 2 W (by decide))
  have eT : topI 2 = 65536 := by decide
  by_cases h1 : n < 0
  · have d1 : decide (n < 0) = true := by simpa using h1
    have hr : sgB n 2 = false := by unfold sgB; rw [eT]; simp; omega
    have HR := Lib.hid hr
    have HN := Lib.hid (show sgN n 2 = 0 by unfold sgN; rw [hr]; rfl)
    clear hr eT
    go_enter Try.func71, Try.ntmps71
    go_wp2_with fail
    refine HM.out.mono ?_
    rintro e w1 ⟨rfl, hb⟩
    rw [show mayO 2 2 = true by decide]
    go_wp2_with (refine (HT.out _).mono ?_; rintro e w2 ⟨rfl, rfl⟩)
    go_ret2
    exact ⟨ret_ib HN.out.symm HR.out.symm, hb⟩
  have d1 : decide (n < 0) = false := by simpa using h1
  by_cases h2 : 65536 ≤ n
  · have d2 : decide (65536 ≤ n) = true := by simpa using h2
    have hr : sgB n 2 = false := by unfold sgB; rw [eT]; simp; omega
    have HR := Lib.hid hr
    have HN := Lib.hid (show sgN n 2 = 0 by unfold sgN; rw [hr]; rfl)
    clear hr eT
    go_enter Try.func71, Try.ntmps71
    go_wp2_with fail
    refine HM.out.mono ?_
    rintro e w1 ⟨rfl, hb⟩
    rw [show mayO 2 2 = true by decide]
    go_wp2_with (refine (HT.out _).mono ?_; rintro e w2 ⟨rfl, rfl⟩)
    go_ret2
    exact ⟨ret_ib HN.out.symm HR.out.symm, hb⟩
  have d2 : decide (65536 ≤ n) = false := by simpa using h2
  have hr : sgB n 2 = true := by unfold sgB; rw [eT]; simp; omega
  have HR := Lib.hid hr
  by_cases h3 : 32768 ≤ n
  · have HN := Lib.hid (show sgN n 2 = n - 65536 by unfold sgN; rw [if_pos hr, eT, if_pos (by omega)])
    clear hr eT
    go_enter Try.func71, Try.ntmps71
    go_wp2_with fail
    refine HM.out.mono ?_
    rintro e w1 ⟨rfl, hb⟩
    rw [show mayO 2 2 = true by decide]
    go_wp2_with (refine (HT.out _).mono ?_; rintro e w2 ⟨rfl, rfl⟩)
    go_ret2
    exact ⟨ret_ib HN.out.symm HR.out.symm, hb⟩
  · have h4 : n < 32768 := by omega
    have HN := Lib.hid (show sgN n 2 = n by unfold sgN; rw [if_pos hr, eT, if_neg (by omega)])
    clear hr eT
    go_enter Try.func71, Try.ntmps71
    go_wp2_with fail
    refine HM.out.mono ?_
    rintro e w1 ⟨rfl, hb⟩
    rw [show mayO 2 2 = true by decide]
    go_wp2_with (refine (HT.out _).mono ?_; rintro e w2 ⟨rfl, rfl⟩)
    go_ret2
    exact ⟨ret_ib HN.out.symm HR.out.symm, hb⟩

set_option maxRecDepth 100000 in
set_option maxHeartbeats 1000000 in
theorem plain_2 (n : Int) (w : World) : Calls Try.prog 59 #[.int .i64 n, .int .i64 2] w fun e w' => e = .returned (.tuple #[.int .i64 (plN n 2), .bool (plB n 2)]) ∧ Below w.heap.size w w' := by
  have HM := Lib.hid (may_any 2 2 w)
  have HT := Lib.hid (show ∀ W : World, Calls Try.prog 75 #[.int .i64 2] W fun e w' => e = .returned (.int .i64 65536) ∧ W = w' from fun W => top_any 2 W (by decide))
  have eT : topI 2 = 65536 := by decide
  by_cases h1 : n < -32768
  · have d1 : decide (n < -32768) = true := by simpa using h1
    have hr : plB n 2 = false := by unfold plB; rw [eT]; simp; omega
    have HR := Lib.hid hr
    have HN := Lib.hid (show plN n 2 = 0 by unfold plN; rw [hr]; rfl)
    clear hr eT
    go_enter Try.func59, Try.ntmps59
    go_wp2_with fail
    refine HM.out.mono ?_
    rintro e w1 ⟨rfl, hb⟩
    rw [show mayO 2 2 = true by decide]
    go_wp2_with (refine (HT.out _).mono ?_; rintro e w2 ⟨rfl, rfl⟩)
    go_ret2
    exact ⟨ret_ib HN.out.symm HR.out.symm, hb⟩
  have d1 : decide (n < -32768) = false := by simpa using h1
  by_cases h2 : 32768 ≤ n
  · have d2 : decide (32768 ≤ n) = true := by simpa using h2
    have hr : plB n 2 = false := by unfold plB; rw [eT]; simp; omega
    have HR := Lib.hid hr
    have HN := Lib.hid (show plN n 2 = 0 by unfold plN; rw [hr]; rfl)
    clear hr eT
    go_enter Try.func59, Try.ntmps59
    go_wp2_with fail
    refine HM.out.mono ?_
    rintro e w1 ⟨rfl, hb⟩
    rw [show mayO 2 2 = true by decide]
    go_wp2_with (refine (HT.out _).mono ?_; rintro e w2 ⟨rfl, rfl⟩)
    go_ret2
    exact ⟨ret_ib HN.out.symm HR.out.symm, hb⟩
  have d2 : decide (32768 ≤ n) = false := by simpa using h2
  have hr : plB n 2 = true := by unfold plB; rw [eT]; simp; omega
  have HR := Lib.hid hr
  by_cases h3 : n < 0
  · have HN := Lib.hid (show plN n 2 = n + 65536 by unfold plN; rw [if_pos hr, eT, if_pos (by omega)])
    clear hr eT
    go_enter Try.func59, Try.ntmps59
    go_wp2_with fail
    refine HM.out.mono ?_
    rintro e w1 ⟨rfl, hb⟩
    rw [show mayO 2 2 = true by decide]
    go_wp2_with (refine (HT.out _).mono ?_; rintro e w2 ⟨rfl, rfl⟩)
    go_ret2
    exact ⟨ret_ib HN.out.symm HR.out.symm, hb⟩
  · have h4 : 0 ≤ n := by omega
    have HN := Lib.hid (show plN n 2 = n by unfold plN; rw [if_pos hr, if_neg (by omega)])
    clear hr eT
    go_enter Try.func59, Try.ntmps59
    go_wp2_with fail
    refine HM.out.mono ?_
    rintro e w1 ⟨rfl, hb⟩
    rw [show mayO 2 2 = true by decide]
    go_wp2_with (refine (HT.out _).mono ?_; rintro e w2 ⟨rfl, rfl⟩)
    go_ret2
    exact ⟨ret_ib HN.out.symm HR.out.symm, hb⟩

set_option maxRecDepth 100000 in
set_option maxHeartbeats 1000000 in
theorem signed_4 (n : Int) (w : World) : Calls Try.prog 71 #[.int .i64 n, .int .i64 4] w fun e w' => e = .returned (.tuple #[.int .i64 (sgN n 4), .bool (sgB n 4)]) ∧ Below w.heap.size w w' := by
  have HM := Lib.hid (may_any 4 2 w)
  have HT := Lib.hid (show ∀ W : World, Calls Try.prog 75 #[.int .i64 4] W fun e w' => e = .returned (.int .i64 4294967296) ∧ W = w' from fun W => top_any 4 W (by decide))
  have eT : topI 4 = 4294967296 := by decide
  by_cases h1 : n < 0
  · have d1 : decide (n < 0) = true := by simpa using h1
    have hr : sgB n 4 = false := by unfold sgB; rw [eT]; simp; omega
    have HR := Lib.hid hr
    have HN := Lib.hid (show sgN n 4 = 0 by unfold sgN; rw [hr]; rfl)
    clear hr eT
    go_enter Try.func71, Try.ntmps71
    go_wp2_with fail
    refine HM.out.mono ?_
    rintro e w1 ⟨rfl, hb⟩
    rw [show mayO 4 2 = true by decide]
    go_wp2_with (refine (HT.out _).mono ?_; rintro e w2 ⟨rfl, rfl⟩)
    go_ret2
    exact ⟨ret_ib HN.out.symm HR.out.symm, hb⟩
  have d1 : decide (n < 0) = false := by simpa using h1
  by_cases h2 : 4294967296 ≤ n
  · have d2 : decide (4294967296 ≤ n) = true := by simpa using h2
    have hr : sgB n 4 = false := by unfold sgB; rw [eT]; simp; omega
    have HR := Lib.hid hr
    have HN := Lib.hid (show sgN n 4 = 0 by unfold sgN; rw [hr]; rfl)
    clear hr eT
    go_enter Try.func71, Try.ntmps71
    go_wp2_with fail
    refine HM.out.mono ?_
    rintro e w1 ⟨rfl, hb⟩
    rw [show mayO 4 2 = true by decide]
    go_wp2_with (refine (HT.out _).mono ?_; rintro e w2 ⟨rfl, rfl⟩)
    go_ret2
    exact ⟨ret_ib HN.out.symm HR.out.symm, hb⟩
  have d2 : decide (4294967296 ≤ n) = false := by simpa using h2
  have hr : sgB n 4 = true := by unfold sgB; rw [eT]; simp; omega
  have HR := Lib.hid hr
  by_cases h3 : 2147483648 ≤ n
  · have HN := Lib.hid (show sgN n 4 = n - 4294967296 by unfold sgN; rw [if_pos hr, eT, if_pos (by omega)])
    clear hr eT
    go_enter Try.func71, Try.ntmps71
    go_wp2_with fail
    refine HM.out.mono ?_
    rintro e w1 ⟨rfl, hb⟩
    rw [show mayO 4 2 = true by decide]
    go_wp2_with (refine (HT.out _).mono ?_; rintro e w2 ⟨rfl, rfl⟩)
    go_ret2
    exact ⟨ret_ib HN.out.symm HR.out.symm, hb⟩
  · have h4 : n < 2147483648 := by omega
    have HN := Lib.hid (show sgN n 4 = n by unfold sgN; rw [if_pos hr, eT, if_neg (by omega)])
    clear hr eT
    go_enter Try.func71, Try.ntmps71
    go_wp2_with fail
    refine HM.out.mono ?_
    rintro e w1 ⟨rfl, hb⟩
    rw [show mayO 4 2 = true by decide]
    go_wp2_with (refine (HT.out _).mono ?_; rintro e w2 ⟨rfl, rfl⟩)
    go_ret2
    exact ⟨ret_ib HN.out.symm HR.out.symm, hb⟩

set_option maxRecDepth 100000 in
set_option maxHeartbeats 1000000 in
theorem plain_4 (n : Int) (w : World) : Calls Try.prog 59 #[.int .i64 n, .int .i64 4] w fun e w' => e = .returned (.tuple #[.int .i64 (plN n 4), .bool (plB n 4)]) ∧ Below w.heap.size w w' := by
  have HM := Lib.hid (may_any 4 2 w)
  have HT := Lib.hid (show ∀ W : World, Calls Try.prog 75 #[.int .i64 4] W fun e w' => e = .returned (.int .i64 4294967296) ∧ W = w' from fun W => top_any 4 W (by decide))
  have eT : topI 4 = 4294967296 := by decide
  by_cases h1 : n < -2147483648
  · have d1 : decide (n < -2147483648) = true := by simpa using h1
    have hr : plB n 4 = false := by unfold plB; rw [eT]; simp; omega
    have HR := Lib.hid hr
    have HN := Lib.hid (show plN n 4 = 0 by unfold plN; rw [hr]; rfl)
    clear hr eT
    go_enter Try.func59, Try.ntmps59
    go_wp2_with fail
    refine HM.out.mono ?_
    rintro e w1 ⟨rfl, hb⟩
    rw [show mayO 4 2 = true by decide]
    go_wp2_with (refine (HT.out _).mono ?_; rintro e w2 ⟨rfl, rfl⟩)
    go_ret2
    exact ⟨ret_ib HN.out.symm HR.out.symm, hb⟩
  have d1 : decide (n < -2147483648) = false := by simpa using h1
  by_cases h2 : 2147483648 ≤ n
  · have d2 : decide (2147483648 ≤ n) = true := by simpa using h2
    have hr : plB n 4 = false := by unfold plB; rw [eT]; simp; omega
    have HR := Lib.hid hr
    have HN := Lib.hid (show plN n 4 = 0 by unfold plN; rw [hr]; rfl)
    clear hr eT
    go_enter Try.func59, Try.ntmps59
    go_wp2_with fail
    refine HM.out.mono ?_
    rintro e w1 ⟨rfl, hb⟩
    rw [show mayO 4 2 = true by decide]
    go_wp2_with (refine (HT.out _).mono ?_; rintro e w2 ⟨rfl, rfl⟩)
    go_ret2
    exact ⟨ret_ib HN.out.symm HR.out.symm, hb⟩
  have d2 : decide (2147483648 ≤ n) = false := by simpa using h2
  have hr : plB n 4 = true := by unfold plB; rw [eT]; simp; omega
  have HR := Lib.hid hr
  by_cases h3 : n < 0
  · have HN := Lib.hid (show plN n 4 = n + 4294967296 by unfold plN; rw [if_pos hr, eT, if_pos (by omega)])
    clear hr eT
    go_enter Try.func59, Try.ntmps59
    go_wp2_with fail
    refine HM.out.mono ?_
    rintro e w1 ⟨rfl, hb⟩
    rw [show mayO 4 2 = true by decide]
    go_wp2_with (refine (HT.out _).mono ?_; rintro e w2 ⟨rfl, rfl⟩)
    go_ret2
    exact ⟨ret_ib HN.out.symm HR.out.symm, hb⟩
  · have h4 : 0 ≤ n := by omega
    have HN := Lib.hid (show plN n 4 = n by unfold plN; rw [if_pos hr, if_neg (by omega)])
    clear hr eT
    go_enter Try.func59, Try.ntmps59
    go_wp2_with fail
    refine HM.out.mono ?_
    rintro e w1 ⟨rfl, hb⟩
    rw [show mayO 4 2 = true by decide]
    go_wp2_with (refine (HT.out _).mono ?_; rintro e w2 ⟨rfl, rfl⟩)
    go_ret2
    exact ⟨ret_ib HN.out.symm HR.out.symm, hb⟩


theorem sz_no {s : Int} (hz : szB s = false) (n : Int) : sgB n s = false ∧ sgN n s = 0 ∧ plB n s = false ∧ plN n s = 0 := by
  have ht := topI_no hz
  have h1 : sgB n s = false := by unfold sgB; rw [ht]; simp
  have h2 : plB n s = false := by unfold plB; rw [ht]; simp
  refine ⟨h1, by unfold sgN; rw [h1]; rfl, h2, by unfold plN; rw [h2]; rfl⟩

theorem signed_any (n s : Int) (w : World) : Calls Try.prog 71 #[.int .i64 n, .int .i64 s] w fun e w' => e = .returned (.tuple #[.int .i64 (sgN n s), .bool (sgB n s)]) ∧ Below w.heap.size w w' := by
  cases hz : szB s
  · obtain ⟨h1, h2, _⟩ := sz_no hz n
    rw [h1, h2]
    have hm : mayO s 2 = false := by unfold mayO; rw [hz]; rfl
    have HM := Lib.hid hm
    clear hm h1 h2 hz
    go_enter Try.func71, Try.ntmps71
    go_wp2_with fail
    refine (may_any s 2 w).mono ?_
    rintro e w1 ⟨rfl, hb⟩
    rw [HM.out]
    go_wp2_with fail
    go_ret2
    exact ⟨rfl, hb⟩
  · rcases szB_t hz with rfl | rfl | rfl
    · exact signed_1 n w
    · exact signed_2 n w
    · exact signed_4 n w
theorem plain_any (n s : Int) (w : World) : Calls Try.prog 59 #[.int .i64 n, .int .i64 s] w fun e w' => e = .returned (.tuple #[.int .i64 (plN n s), .bool (plB n s)]) ∧ Below w.heap.size w w' := by
  cases hz : szB s
  · obtain ⟨_, _, h1, h2⟩ := sz_no hz n
    rw [h1, h2]
    have hm : mayO s 2 = false := by unfold mayO; rw [hz]; rfl
    have HM := Lib.hid hm
    clear hm h1 h2 hz
    go_enter Try.func59, Try.ntmps59
    go_wp2_with fail
    refine (may_any s 2 w).mono ?_
    rintro e w1 ⟨rfl, hb⟩
    rw [HM.out]
    go_wp2_with fail
    go_ret2
    exact ⟨rfl, hb⟩
  · rcases szB_t hz with rfl | rfl | rfl
    · exact plain_1 n w
    · exact plain_2 n w
    · exact plain_4 n w
end Go.Proofs.Ytmdcdmgbillehaa
