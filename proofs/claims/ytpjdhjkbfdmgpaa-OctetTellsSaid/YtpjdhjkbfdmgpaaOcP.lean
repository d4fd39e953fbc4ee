/- The walk of OctetTells. -/
import Derived.Test.YtpjdhjkbfdmgpaaOcN
namespace Go.Proofs.Ytpjdhjkbfdmgpaa
open Go.RowKit
open Go.Tin
set_option linter.unusedVariables false
set_option linter.unusedSimpArgs false


theorem isB_self (n : Int) (p : Bool) : isB n p n p = true := by unfold isB; simp
set_option maxRecDepth 100000 in
set_option maxHeartbeats 4000000 in
theorem tells_yes (n m en s o : Int) (w : World) (n0 : -4611686018427387904 < n) (n1 : n < 4611686018427387904) (m0 : -4611686018427387904 < m) (m1 : m < 4611686018427387904) (he : en ≤ 9223372036854775807) :
    Calls Try.prog 4 #[.int .i64 n, .int .i64 m, .int .i64 en, .int .i64 s, .int .i64 o] w fun e w' => e = .returned (.bool true) ∧ Below w.heap.size w w' := by
  have hl : (putL n s o).length ≤ 4 := by
    unfold putL
    split
    · rename_i h
      unfold putB mayO at h
      simp only [Bool.and_eq_true] at h
      have := szB_t h.1.1
      rw [ordL_len, bytesOf_len]
      omega
    · simp
  go_enter Try.func4, Try.ntmps4
  go_wp2_with fail
  refine (put_any n s o w).mono ?_
  rintro e w1 ⟨A1, c1, rfl, ho, hB⟩
  have S1 := Lib.hid ho.sl'.2
  clear ho
  go_wp2_with fail
  refine (rput_any n s o w1).mono ?_
  rintro e w2 ⟨A2, c2, rfl, ho, hb2⟩
  have S2 := Lib.hid ho.sl'.2
  replace S1 := Lib.hid (S1.out.keep hb2)
  replace hB := bt hB hb2
  clear ho hb2
  have hC := brefl w2
  generalize hP : putL n s o = P at *
  generalize hQ : putB n s o = q at *
  clear hP hQ
  go_wp2_with fail
  refine (signed_any n s w2).mono ?_
  rintro e w3 ⟨rfl, hb⟩
  replace hC := bt hC hb
  clear hb
  go_wp2_with fail
  refine (rsigned_any n s w3).mono ?_
  rintro e w4 ⟨rfl, rfl⟩
  go_wp2_with fail
  refine (plain_any n s w3).mono ?_
  rintro e w4 ⟨rfl, hb⟩
  replace hC := bt hC hb
  clear hb
  go_wp2_with fail
  refine (rplain_any n s w4).mono ?_
  rintro e w5 ⟨rfl, rfl⟩
  go_wp2_with fail
  refine (add_any n m w4 (by omega) (by omega) (by omega) (by omega)).mono ?_
  rintro e w5 ⟨rfl, rfl⟩
  go_wp2_with fail
  refine (radd_any n m w4 (by omega) (by omega) (by omega) (by omega)).mono ?_
  rintro e w5 ⟨rfl, rfl⟩
  go_wp2_with fail
  refine (same_any A1 A2 P P c1 c2 w4 (S1.out.keep hC) (S2.out.keep hC) (by omega) (by omega)).mono ?_
  rw [show decide (P = P) = true by simp]
  rintro e w5 ⟨rfl, hb⟩
  replace hB := bt (bt hB hC) hb
  clear hC hb S1 S2
  go_wp2_with fail
  refine (is_any _ _ _ _ w5).mono ?_
  rw [isB_self]
  rintro e w6 ⟨rfl, rfl⟩
  go_wp2_with fail
  refine (is_any _ _ _ _ w5).mono ?_
  rw [isB_self]
  rintro e w6 ⟨rfl, rfl⟩
  go_wp2_with fail
  refine (is_any _ _ _ _ w5).mono ?_
  rw [isB_self]
  rintro e w6 ⟨rfl, rfl⟩
  go_wp2_with fail
  refine (room_any n m en w5 he).mono ?_
  rintro e w6 ⟨rfl, rfl⟩
  go_wp2_with fail
  refine (rroom_any n m en w5 he).mono ?_
  rintro e w6 ⟨rfl, rfl⟩
  go_wp2_with fail
  refine (even_any n w5 (by omega) (by omega)).mono ?_
  rintro e w6 ⟨rfl, rfl⟩
  go_wp2_with fail
  refine (reven_any n w5 (by omega) (by omega)).mono ?_
  rintro e w6 ⟨rfl, rfl⟩
  go_wp2_with fail
  refine (awake_any w5).mono ?_
  rintro e w6 ⟨rfl, hb⟩
  go_wp2_with fail
  go_ret
  exact ⟨rfl, bt hB hb⟩

set_option maxRecDepth 100000 in
set_option maxHeartbeats 4000000 in
theorem tells_any (n m en s o : Int) (w : World) (wn : (Lit.int .i64 n).wf = true) (wm : (Lit.int .i64 m).wf = true) (we : (Lit.int .i64 en).wf = true) (ws : (Lit.int .i64 s).wf = true) (wo : (Lit.int .i64 o).wf = true) :
    Calls Try.prog 4 #[.int .i64 n, .int .i64 m, .int .i64 en, .int .i64 s, .int .i64 o] w fun e w' => e = .returned (.bool true) ∧ Below w.heap.size w w' := by
  have he := (wf64 we).2
  clear wn wm we ws wo
  by_cases h1 : 4611686018427387904 ≤ n
  · have d1 : decide (4611686018427387904 ≤ n) = true := by simpa using h1
    go_enter Try.func4, Try.ntmps4
    go_wp2_with fail
    refine (awake_any w).mono ?_
    rintro e w1 ⟨rfl, hb⟩
    go_wp2_with fail
    go_ret
    exact ⟨rfl, hb⟩
  have d1 : decide (4611686018427387904 ≤ n) = false := by simpa using h1
  by_cases h2 : n ≤ -4611686018427387904
  · have d2 : decide (n ≤ -4611686018427387904) = true := by simpa using h2
    go_enter Try.func4, Try.ntmps4
    go_wp2_with fail
    refine (awake_any w).mono ?_
    rintro e w1 ⟨rfl, hb⟩
    go_wp2_with fail
    go_ret
    exact ⟨rfl, hb⟩
  have d2 : decide (n ≤ -4611686018427387904) = false := by simpa using h2
  by_cases h3 : 4611686018427387904 ≤ m
  · have d3 : decide (4611686018427387904 ≤ m) = true := by simpa using h3
    go_enter Try.func4, Try.ntmps4
    go_wp2_with fail
    refine (awake_any w).mono ?_
    rintro e w1 ⟨rfl, hb⟩
    go_wp2_with fail
    go_ret
    exact ⟨rfl, hb⟩
  have d3 : decide (4611686018427387904 ≤ m) = false := by simpa using h3
  by_cases h4 : m ≤ -4611686018427387904
  · have d4 : decide (m ≤ -4611686018427387904) = true := by simpa using h4
    go_enter Try.func4, Try.ntmps4
    go_wp2_with fail
    refine (awake_any w).mono ?_
    rintro e w1 ⟨rfl, hb⟩
    go_wp2_with fail
    go_ret
    exact ⟨rfl, hb⟩
  have d4 : decide (m ≤ -4611686018427387904) = false := by simpa using h4
  exact tells_yes n m en s o w (by omega) (by omega) (by omega) (by omega) he
end Go.Proofs.Ytpjdhjkbfdmgpaa
