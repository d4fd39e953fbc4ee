/- The contracts of the references of Signed and Plain, of Add, Room, Even and theirs, and of what is asked of two answers. -/
import Derived.Test.YtmdcdmgbillehaaOcC
namespace Go.Proofs.Ytmdcdmgbillehaa
open Go.RowKit
open Go.Tin
set_option linter.unusedVariables false
set_option linter.unusedSimpArgs false


set_option maxRecDepth 100000 in
set_option maxHeartbeats 1000000 in
theorem rsigned_1 (n s : Int) (w : World) (eT : topI s = 256) : Calls Try.prog 73 #[.int .i64 n, .int .i64 s] w fun e w' => e = .returned (.tuple #[.int .i64 (sgN n s), .bool (sgB n s)]) ∧ w = w' := by
  have HT := Lib.hid (show ∀ W : World, Calls Try.prog 69 #[.int .i64 s] W fun e w' => e = .returned (.int .i64 256) ∧ W = w' from fun W => by rw [← eT]; exact rtop_any s W)
  by_cases h1 : n < 0
  · have d1 : decide (n < 0) = true := by simpa using h1
    have hr : sgB n s = false := by unfold sgB; rw [eT]; simp; omega
    have HR := Lib.hid hr
    have HN := Lib.hid (show sgN n s = 0 by unfold sgN; rw [hr]; rfl)
    clear hr eT
    go_enter Try.func73, Try.ntmps73
    go_wp2_with (refine (HT.out _).mono ?_; rintro e w2 ⟨rfl, rfl⟩)
    go_ret2
    exact ⟨ret_ib HN.out.symm HR.out.symm, rfl⟩
  have d1 : decide (n < 0) = false := by simpa using h1
  by_cases h2 : 256 ≤ n
  · have d2 : decide (256 ≤ n) = true := by simpa using h2
    have hr : sgB n s = false := by unfold sgB; rw [eT]; simp; omega
    have HR := Lib.hid hr
    have HN := Lib.hid (show sgN n s = 0 by unfold sgN; rw [hr]; rfl)
    clear hr eT
    go_enter Try.func73, Try.ntmps73
    go_wp2_with (refine (HT.out _).mono ?_; rintro e w2 ⟨rfl, rfl⟩)
    go_ret2
    exact ⟨ret_ib HN.out.symm HR.out.symm, rfl⟩
  have d2 : decide (256 ≤ n) = false := by simpa using h2
  have hr : sgB n s = true := by unfold sgB; rw [eT]; simp; omega
  have HR := Lib.hid hr
  by_cases h3 : 256 ≤ 2 * n
  · have HN := Lib.hid (show sgN n s = n - 256 by unfold sgN; rw [if_pos hr, eT, if_pos (by omega)])
    clear hr eT
    go_enter Try.func73, Try.ntmps73
    go_wp2_with (refine (HT.out _).mono ?_; rintro e w2 ⟨rfl, rfl⟩)
    go_ret2
    exact ⟨ret_ib HN.out.symm HR.out.symm, rfl⟩
  · have h4 : 2 * n < 256 := by omega
    have HN := Lib.hid (show sgN n s = n by unfold sgN; rw [if_pos hr, eT, if_neg (by omega)])
    clear hr eT
    go_enter Try.func73, Try.ntmps73
    go_wp2_with (refine (HT.out _).mono ?_; rintro e w2 ⟨rfl, rfl⟩)
    go_ret2
    exact ⟨ret_ib HN.out.symm HR.out.symm, rfl⟩

set_option maxRecDepth 100000 in
set_option maxHeartbeats 1000000 in
theorem rplain_1 (n s : Int) (w : World) (eT : topI s = 256) : Calls Try.prog 62 #[.int .i64 n, .int .i64 s] w fun e w' => e = .returned (.tuple #[.int .i64 (plN n s), .bool (plB n s)]) ∧ w = w' := by
  have HT := Lib.hid (show ∀ W : World, Calls Try.prog 69 #[.int .i64 s] W fun e w' => e = .returned (.int .i64 256) ∧ W = w' from fun W => by rw [← eT]; exact rtop_any s W)
  have eH : topI s / 2 = 128 := by rw [eT]; rfl
  by_cases h1 : n < -128
  · have d1 : decide (n < -128) = true := by simpa using h1
    have hr : plB n s = false := by unfold plB; rw [eH]; simp; omega
    have HR := Lib.hid hr
    have HN := Lib.hid (show plN n s = 0 by unfold plN; rw [hr]; rfl)
    clear hr eT eH
    go_enter Try.func62, Try.ntmps62
    go_wp2_with (refine (HT.out _).mono ?_; rintro e w2 ⟨rfl, rfl⟩)
    go_ret2
    exact ⟨ret_ib HN.out.symm HR.out.symm, rfl⟩
  have d1 : decide (n < -128) = false := by simpa using h1
  by_cases h2 : 128 ≤ n
  · have d2 : decide (128 ≤ n) = true := by simpa using h2
    have hr : plB n s = false := by unfold plB; rw [eH]; simp; omega
    have HR := Lib.hid hr
    have HN := Lib.hid (show plN n s = 0 by unfold plN; rw [hr]; rfl)
    clear hr eT eH
    go_enter Try.func62, Try.ntmps62
    go_wp2_with (refine (HT.out _).mono ?_; rintro e w2 ⟨rfl, rfl⟩)
    go_ret2
    exact ⟨ret_ib HN.out.symm HR.out.symm, rfl⟩
  have d2 : decide (128 ≤ n) = false := by simpa using h2
  have hr : plB n s = true := by unfold plB; rw [eH]; simp; omega
  have HR := Lib.hid hr
  by_cases h3 : n < 0
  · have HN := Lib.hid (show plN n s = n + 256 by unfold plN; rw [if_pos hr, eT, if_pos (by omega)])
    clear hr eT eH
    go_enter Try.func62, Try.ntmps62
    go_wp2_with (refine (HT.out _).mono ?_; rintro e w2 ⟨rfl, rfl⟩)
    go_ret2
    exact ⟨ret_ib HN.out.symm HR.out.symm, rfl⟩
  · have h4 : 0 ≤ n := by omega
    have HN := Lib.hid (show plN n s = n by unfold plN; rw [if_pos hr, if_neg (by omega)])
    clear hr eT eH
    go_enter Try.func62, Try.ntmps62
    go_wp2_with (refine (HT.out _).mono ?_; rintro e w2 ⟨rfl, rfl⟩)
    go_ret2
    exact ⟨ret_ib HN.out.symm HR.out.symm, rfl⟩

set_option maxRecDepth 100000 in
set_option maxHeartbeats 1000000 in
theorem rsigned_2 (n s : Int) (w : World) (eT : topI s = 65536) : Calls Try.prog 73 #[.int .i64 n, .int .i64 s] w fun e w' => e = .returned (.tuple #[.int .i64 (sgN n s), .bool (sgB n s)]) ∧ w = w' := by
  have HT := Lib.hid (show ∀ W : World, Calls Try.prog 69 #[.int .i64 s] W fun e w' => e = .returned (.int .i64 65536) ∧ W = w' from fun W => by rw [← eT]; exact rtop_any s W)
  by_cases h1 : n < 0
  · have d1 : decide (n < 0) = true := by simpa using h1
    have hr : sgB n s = false := by unfold sgB; rw [eT]; simp; omega
    have HR := Lib.hid hr
    have HN := Lib.hid (show sgN n s = 0 by unfold sgN; rw [hr]; rfl)
    clear hr eT
    go_enter Try.func73, Try.ntmps73
    go_wp2_with (refine (HT.out _).mono ?_; rintro e w2 ⟨rfl, rfl⟩)
    go_ret2
    exact ⟨ret_ib HN.out.symm HR.out.symm, rfl⟩
  have d1 : decide (n < 0) = false := by simpa using h1
  by_cases h2 : 65536 ≤ n
  · have d2 : decide (65536 ≤ n) = true := by simpa using h2
    have hr : sgB n s = false := by unfold sgB; rw [eT]; simp; omega
    have HR := Lib.hid hr
    have HN := Lib.hid (show sgN n s = 0 by unfold sgN; rw [hr]; rfl)
    clear hr eT
    go_enter Try.func73, Try.ntmps73
    go_wp2_with (refine (HT.out _).mono ?_; rintro e w2 ⟨rfl, rfl⟩)
    go_ret2
    exact ⟨ret_ib HN.out.symm HR.out.symm, rfl⟩
  have d2 : decide (65536 ≤ n) = false := by simpa using h2
  have hr : sgB n s = true := by unfold sgB; rw [eT]; simp; omega
  have HR := Lib.hid hr
  by_cases h3 : 65536 ≤ 2 * n
  · have HN := Lib.hid (show sgN n s = n - 65536 by unfold sgN; rw [if_pos hr, eT, if_pos (by omega)])
    clear hr eT
    go_enter Try.func73, Try.ntmps73
    go_wp2_with (refine (HT.out _).mono ?_; rintro e w2 ⟨rfl, rfl⟩)
    go_ret2
    exact ⟨ret_ib HN.out.symm HR.out.symm, rfl⟩
  · have h4 : 2 * n < 65536 := by omega
    have HN := Lib.hid (show sgN n s = n by unfold sgN; rw [if_pos hr, eT, if_neg (by omega)])
    clear hr eT
    go_enter Try.func73, Try.ntmps73
    go_wp2_with (refine (HT.out _).mono ?_; rintro e w2 ⟨rfl, rfl⟩)
    go_ret2
    exact ⟨ret_ib HN.out.symm HR.out.symm, rfl⟩

set_option maxRecDepth 100000 in
set_option maxHeartbeats 1000000 in
theorem rplain_2 (n s : Int) (w : World) (eT : topI s = 65536) : Calls Try.prog 62 #[.int .i64 n, .int .i64 s] w fun e w' => e = .returned (.tuple #[.int .i64 (plN n s), .bool (plB n s)]) ∧ w = w' := by
  have HT := Lib.hid (show ∀ W : World, Calls Try.prog 69 #[.int .i64 s] W fun e w' => e = .returned (.int .i64 65536) ∧ W = w' from fun W => by rw [← eT]; exact rtop_any s W)
  have eH : topI s / 2 = 32768 := by rw [eT]; rfl
  by_cases h1 : n < -32768
  · have d1 : decide (n < -32768) = true := by simpa using h1
    have hr : plB n s = false := by unfold plB; rw [eH]; simp; omega
    have HR := Lib.hid hr
    have HN := Lib.hid (show plN n s = 0 by unfold plN; rw [hr]; rfl)
    clear hr eT eH
    go_enter Try.func62, Try.ntmps62
    go_wp2_with (refine (HT.out _).mono ?_; rintro e w2 ⟨rfl, rfl⟩)
    go_ret2
    exact ⟨ret_ib HN.out.symm HR.out.symm, rfl⟩
  have d1 : decide (n < -32768) = false := by simpa using h1
  by_cases h2 : 32768 ≤ n
  · have d2 : decide (32768 ≤ n) = true := by simpa using h2
    have hr : plB n s = false := by unfold plB; rw [eH]; simp; omega
    have HR := Lib.hid hr
    have HN := Lib.hid (show plN n s = 0 by unfold plN; rw [hr]; rfl)
    clear hr eT eH
    go_enter Try.func62, Try.ntmps62
    go_wp2_with (refine (HT.out _).mono ?_; rintro e w2 ⟨rfl, rfl⟩)
    go_ret2
    exact ⟨ret_ib HN.out.symm HR.out.symm, rfl⟩
  have d2 : decide (32768 ≤ n) = false := by simpa using h2
  have hr : plB n s = true := by unfold plB; rw [eH]; simp; omega
  have HR := Lib.hid hr
  by_cases h3 : n < 0
  · have HN := Lib.hid (show plN n s = n + 65536 by unfold plN; rw [if_pos hr, eT, if_pos (by omega)])
    clear hr eT eH
    go_enter Try.func62, Try.ntmps62
    go_wp2_with (refine (HT.out _).mono ?_; rintro e w2 ⟨rfl, rfl⟩)
    go_ret2
    exact ⟨ret_ib HN.out.symm HR.out.symm, rfl⟩
  · have h4 : 0 ≤ n := by omega
    have HN := Lib.hid (show plN n s = n by unfold plN; rw [if_pos hr, if_neg (by omega)])
    clear hr eT eH
    go_enter Try.func62, Try.ntmps62
    go_wp2_with (refine (HT.out _).mono ?_; rintro e w2 ⟨rfl, rfl⟩)
    go_ret2
    exact ⟨ret_ib HN.out.symm HR.out.symm, rfl⟩

set_option maxRecDepth 100000 in
set_option maxHeartbeats 1000000 in
theorem rsigned_4 (n s : Int) (w : World) (eT : topI s = 4294967296) : Calls Try.prog 73 #[.int .i64 n, .int .i64 s] w fun e w' => e = .returned (.tuple #[.int .i64 (sgN n s), .bool (sgB n s)]) ∧ w = w' := by
  have HT := Lib.hid (show ∀ W : World, Calls Try.prog 69 #[.int .i64 s] W fun e w' => e = .returned (.int .i64 4294967296) ∧ W = w' from fun W => by rw [← eT]; exact rtop_any s W)
  by_cases h1 : n < 0
  · have d1 : decide (n < 0) = true := by simpa using h1
    have hr : sgB n s = false := by unfold sgB; rw [eT]; simp; omega
    have HR := Lib.hid hr
    have HN := Lib.hid (show sgN n s = 0 by unfold sgN; rw [hr]; rfl)
    clear hr eT
    go_enter Try.func73, Try.ntmps73
    go_wp2_with (refine (HT.out _).mono ?_; rintro e w2 ⟨rfl, rfl⟩)
    go_ret2
    exact ⟨ret_ib HN.out.symm HR.out.symm, rfl⟩
  have d1 : decide (n < 0) = false := by simpa using h1
  by_cases h2 : 4294967296 ≤ n
  · have d2 : decide (4294967296 ≤ n) = true := by simpa using h2
    have hr : sgB n s = false := by unfold sgB; rw [eT]; simp; omega
    have HR := Lib.hid hr
    have HN := Lib.hid (show sgN n s = 0 by unfold sgN; rw [hr]; rfl)
    clear hr eT
    go_enter Try.func73, Try.ntmps73
    go_wp2_with (refine (HT.out _).mono ?_; rintro e w2 ⟨rfl, rfl⟩)
    go_ret2
    exact ⟨ret_ib HN.out.symm HR.out.symm, rfl⟩
  have d2 : decide (4294967296 ≤ n) = false := by simpa using h2
  have hr : sgB n s = true := by unfold sgB; rw [eT]; simp; omega
  have HR := Lib.hid hr
  by_cases h3 : 4294967296 ≤ 2 * n
  · have HN := Lib.hid (show sgN n s = n - 4294967296 by unfold sgN; rw [if_pos hr, eT, if_pos (by omega)])
    clear hr eT
    go_enter Try.func73, Try.ntmps73
    go_wp2_with (refine (HT.out _).mono ?_; rintro e w2 ⟨rfl, rfl⟩)
    go_ret2
    exact ⟨ret_ib HN.out.symm HR.out.symm, rfl⟩
  · have h4 : 2 * n < 4294967296 := by omega
    have HN := Lib.hid (show sgN n s = n by unfold sgN; rw [if_pos hr, eT, if_neg (by omega)])
    clear hr eT
    go_enter Try.func73, Try.ntmps73
    go_wp2_with (refine (HT.out _).mono ?_; rintro e w2 ⟨rfl, rfl⟩)
    go_ret2
    exact ⟨ret_ib HN.out.symm HR.out.symm, rfl⟩

set_option maxRecDepth 100000 in
set_option maxHeartbeats 1000000 in
theorem rplain_4 (n s : Int) (w : World) (eT : topI s = 4294967296) : Calls Try.prog 62 #[.int .i64 n, .int .i64 s] w fun e w' => e = .returned (.tuple #[.int .i64 (plN n s), .bool (plB n s)]) ∧ w = w' := by
  have HT := Lib.hid (show ∀ W : World, Calls Try.prog 69 #[.int .i64 s] W fun e w' => e = .returned (.int .i64 4294967296) ∧ W = w' from fun W => by rw [← eT]; exact rtop_any s W)
  have eH : topI s / 2 = 2147483648 := by rw [eT]; rfl
  by_cases h1 : n < -2147483648
  · have d1 : decide (n < -2147483648) = true := by simpa using h1
    have hr : plB n s = false := by unfold plB; rw [eH]; simp; omega
    have HR := Lib.hid hr
    have HN := Lib.hid (show plN n s = 0 by unfold plN; rw [hr]; rfl)
    clear hr eT eH
    go_enter Try.func62, Try.ntmps62
    go_wp2_with (refine (HT.out _).mono ?_; rintro e w2 ⟨rfl, rfl⟩)
    go_ret2
    exact ⟨ret_ib HN.out.symm HR.out.symm, rfl⟩
  have d1 : decide (n < -2147483648) = false := by simpa using h1
  by_cases h2 : 2147483648 ≤ n
  · have d2 : decide (2147483648 ≤ n) = true := by simpa using h2
    have hr : plB n s = false := by unfold plB; rw [eH]; simp; omega
    have HR := Lib.hid hr
    have HN := Lib.hid (show plN n s = 0 by unfold plN; rw [hr]; rfl)
    clear hr eT eH
    go_enter Try.func62, Try.ntmps62
    go_wp2_with (refine (HT.out _).mono ?_; rintro e w2 ⟨rfl, rfl⟩)
    go_ret2
    exact ⟨ret_ib HN.out.symm HR.out.symm, rfl⟩
  have d2 : decide (2147483648 ≤ n) = false := by simpa using h2
  have hr : plB n s = true := by unfold plB; rw [eH]; simp; omega
  have HR := Lib.hid hr
  by_cases h3 : n < 0
  · have HN := Lib.hid (show plN n s = n + 4294967296 by unfold plN; rw [if_pos hr, eT, if_pos (by omega)])
    clear hr eT eH
    go_enter Try.func62, Try.ntmps62
    go_wp2_with (refine (HT.out _).mono ?_; rintro e w2 ⟨rfl, rfl⟩)
    go_ret2
    exact ⟨ret_ib HN.out.symm HR.out.symm, rfl⟩
  · have h4 : 0 ≤ n := by omega
    have HN := Lib.hid (show plN n s = n by unfold plN; rw [if_pos hr, if_neg (by omega)])
    clear hr eT eH
    go_enter Try.func62, Try.ntmps62
    go_wp2_with (refine (HT.out _).mono ?_; rintro e w2 ⟨rfl, rfl⟩)
    go_ret2
    exact ⟨ret_ib HN.out.symm HR.out.symm, rfl⟩

theorem no_top (n s : Int) (eT : topI s = 0) : sgB n s = false ∧ sgN n s = 0 ∧ plB n s = false ∧ plN n s = 0 := by
  have h1 : sgB n s = false := by unfold sgB; rw [eT]; simp
  have h2 : plB n s = false := by unfold plB; rw [eT]; simp
  refine ⟨h1, by unfold sgN; rw [h1]; rfl, h2, by unfold plN; rw [h2]; rfl⟩
theorem rsigned_0 (n s : Int) (w : World) (eT : topI s = 0) : Calls Try.prog 73 #[.int .i64 n, .int .i64 s] w fun e w' => e = .returned (.tuple #[.int .i64 (sgN n s), .bool (sgB n s)]) ∧ w = w' := by
  obtain ⟨h1, h2, _, _⟩ := no_top n s eT
  rw [h1, h2]
  clear h1 h2
  have HT := Lib.hid (show ∀ W : World, Calls Try.prog 69 #[.int .i64 s] W fun e w' => e = .returned (.int .i64 0) ∧ W = w' from fun W => by rw [← eT]; exact rtop_any s W)
  clear eT
  by_cases h3 : n < 0
  · go_enter Try.func73, Try.ntmps73
    go_wp2_with (refine (HT.out _).mono ?_; rintro e w2 ⟨rfl, rfl⟩)
    go_ret2
    exact ⟨rfl, rfl⟩
  · have h4 : 0 ≤ n := by omega
    go_enter Try.func73, Try.ntmps73
    go_wp2_with (refine (HT.out _).mono ?_; rintro e w2 ⟨rfl, rfl⟩)
    go_ret2
    exact ⟨rfl, rfl⟩
theorem rplain_0 (n s : Int) (w : World) (eT : topI s = 0) : Calls Try.prog 62 #[.int .i64 n, .int .i64 s] w fun e w' => e = .returned (.tuple #[.int .i64 (plN n s), .bool (plB n s)]) ∧ w = w' := by
  obtain ⟨_, _, h1, h2⟩ := no_top n s eT
  rw [h1, h2]
  clear h1 h2
  have HT := Lib.hid (show ∀ W : World, Calls Try.prog 69 #[.int .i64 s] W fun e w' => e = .returned (.int .i64 0) ∧ W = w' from fun W => by rw [← eT]; exact rtop_any s W)
  clear eT
  by_cases h3 : n < 0
  · go_enter Try.func62, Try.ntmps62
    go_wp2_with (refine (HT.out _).mono ?_; rintro e w2 ⟨rfl, rfl⟩)
    go_ret2
    exact ⟨rfl, rfl⟩
  · have h4 : 0 ≤ n := by omega
    go_enter Try.func62, Try.ntmps62
    go_wp2_with (refine (HT.out _).mono ?_; rintro e w2 ⟨rfl, rfl⟩)
    go_ret2
    exact ⟨rfl, rfl⟩
theorem top4 (s : Int) : topI s = 0 ∨ topI s = 256 ∨ topI s = 65536 ∨ topI s = 4294967296 := by unfold topI; split <;> (try split) <;> (try split) <;> simp
theorem rsigned_any (n s : Int) (w : World) : Calls Try.prog 73 #[.int .i64 n, .int .i64 s] w fun e w' => e = .returned (.tuple #[.int .i64 (sgN n s), .bool (sgB n s)]) ∧ w = w' := by
  rcases top4 s with h | h | h | h
  · exact rsigned_0 n s w h
  · exact rsigned_1 n s w h
  · exact rsigned_2 n s w h
  · exact rsigned_4 n s w h
theorem rplain_any (n s : Int) (w : World) : Calls Try.prog 62 #[.int .i64 n, .int .i64 s] w fun e w' => e = .returned (.tuple #[.int .i64 (plN n s), .bool (plB n s)]) ∧ w = w' := by
  rcases top4 s with h | h | h | h
  · exact rplain_0 n s w h
  · exact rplain_1 n s w h
  · exact rplain_2 n s w h
  · exact rplain_4 n s w h
end Go.Proofs.Ytmdcdmgbillehaa
