/- The contracts of Add, Room, Even and their references, and of what is asked of two answers. -/
import Derived.Test.YtpjdhjkbfdmgpaaOcC
namespace Go.Proofs.Ytpjdhjkbfdmgpaa
open Go.RowKit
open Go.Tin
set_option linter.unusedVariables false
set_option linter.unusedSimpArgs false


def offB (n : Int) : Bool := decide (0 ≤ n) && decide (n ≤ 4294967295)
theorem offB_t {n : Int} (h : 0 ≤ n) (h' : n ≤ 4294967295) : offB n = true := by unfold offB; simp; omega
theorem offB_f {n : Int} (h : n < 0 ∨ 4294967295 < n) : offB n = false := by unfold offB; simp; omega
theorem off_any (n : Int) (w : World) : Calls Try.prog 31 #[.int .i64 n] w fun e w' => e = .returned (.bool (offB n)) ∧ w = w' := by
  by_cases h : 0 ≤ n
  · have HR := Lib.hid (show offB n = decide (n ≤ 4294967295) by unfold offB; simp [h])
    have d : decide (0 ≤ n) = true := by simpa using h
    clear h
    go_enter Try.func31, Try.ntmps31
    go_wp2_with fail
    go_ret
    exact ⟨ret_bool HR.out.symm, rfl⟩
  · have HR := Lib.hid (show offB n = false by unfold offB; simp [h])
    have d : decide (0 ≤ n) = false := by simpa using h
    clear h
    go_enter Try.func31, Try.ntmps31
    go_wp2_with fail
    go_ret
    exact ⟨ret_bool HR.out.symm, rfl⟩

set_option maxRecDepth 100000 in
set_option maxHeartbeats 1000000 in
theorem add_any (a b : Int) (w : World) (ha : -4611686018427387904 ≤ a) (ha' : a ≤ 4611686018427387904) (hb : -4611686018427387904 ≤ b) (hb' : b ≤ 4611686018427387904) :
    Calls Try.prog 20 #[.int .i64 a, .int .i64 b] w fun e w' => e = .returned (.tuple #[.int .i64 (addN a b), .bool (addB a b)]) ∧ w = w' := by
  by_cases h1 : a < 0 ∨ 4294967295 < a
  · have fa := offB_f h1
    have hr : addB a b = false := by unfold addB; simp; omega
    have HR := Lib.hid hr
    have HN := Lib.hid (show addN a b = 0 by unfold addN; rw [hr]; rfl)
    clear h1 hr
    go_enter Try.func20, Try.ntmps20
    go_wp2_with (refine (off_any _ _).mono ?_; rintro e w2 ⟨rfl, rfl⟩)
    go_ret2
    exact ⟨ret_ib HN.out.symm HR.out.symm, rfl⟩
  have fa := offB_t (show 0 ≤ a by omega) (by omega)
  have a0 : 0 ≤ a := by omega
  have a1 : a ≤ 4294967295 := by omega
  by_cases h2 : b < 0 ∨ 4294967295 < b
  · have fb := offB_f h2
    have hr : addB a b = false := by unfold addB; simp; omega
    have HR := Lib.hid hr
    have HN := Lib.hid (show addN a b = 0 by unfold addN; rw [hr]; rfl)
    clear h1 h2 hr
    go_enter Try.func20, Try.ntmps20
    go_wp2_with (refine (off_any _ _).mono ?_; rintro e w2 ⟨rfl, rfl⟩)
    go_ret2
    exact ⟨ret_ib HN.out.symm HR.out.symm, rfl⟩
  have fb := offB_t (show 0 ≤ b by omega) (by omega)
  have b0 : 0 ≤ b := by omega
  have b1 : b ≤ 4294967295 := by omega
  by_cases h3 : 4294967295 < a + b
  · have fc := offB_f (n := a + b) (.inr h3)
    have hr : addB a b = false := by unfold addB; simp; omega
    have HR := Lib.hid hr
    have HN := Lib.hid (show addN a b = 0 by unfold addN; rw [hr]; rfl)
    clear h1 h2 h3 hr
    go_enter Try.func20, Try.ntmps20
    go_wp2_with (refine (off_any _ _).mono ?_; rintro e w2 ⟨rfl, rfl⟩)
    go_ret2
    exact ⟨ret_ib HN.out.symm HR.out.symm, rfl⟩
  · have fc := offB_t (n := a + b) (by omega) (by omega)
    have hr : addB a b = true := by unfold addB; simp; omega
    have HR := Lib.hid hr
    have HN := Lib.hid (show addN a b = a + b by unfold addN; rw [hr]; rfl)
    clear h1 h2 h3 hr
    go_enter Try.func20, Try.ntmps20
    go_wp2_with (refine (off_any _ _).mono ?_; rintro e w2 ⟨rfl, rfl⟩)
    go_ret2
    exact ⟨ret_ib HN.out.symm HR.out.symm, rfl⟩

set_option maxRecDepth 100000 in
set_option maxHeartbeats 1000000 in
theorem radd_any (a b : Int) (w : World) (ha : -4611686018427387904 ≤ a) (ha' : a ≤ 4611686018427387904) (hb : -4611686018427387904 ≤ b) (hb' : b ≤ 4611686018427387904) :
    Calls Try.prog 21 #[.int .i64 a, .int .i64 b] w fun e w' => e = .returned (.tuple #[.int .i64 (addN a b), .bool (addB a b)]) ∧ w = w' := by
  by_cases h1 : a < 0
  · have d1 : decide (a < 0) = true := by simpa using h1
    have hr : addB a b = false := by unfold addB; simp; omega
    have HR := Lib.hid hr
    have HN := Lib.hid (show addN a b = 0 by unfold addN; rw [hr]; rfl)
    clear hr
    go_enter Try.func21, Try.ntmps21
    go_wp2_with fail
    go_ret2
    exact ⟨ret_ib HN.out.symm HR.out.symm, rfl⟩
  have d1 : decide (a < 0) = false := by simpa using h1
  by_cases h2 : b < 0
  · have d2 : decide (b < 0) = true := by simpa using h2
    have hr : addB a b = false := by unfold addB; simp; omega
    have HR := Lib.hid hr
    have HN := Lib.hid (show addN a b = 0 by unfold addN; rw [hr]; rfl)
    clear hr
    go_enter Try.func21, Try.ntmps21
    go_wp2_with fail
    go_ret2
    exact ⟨ret_ib HN.out.symm HR.out.symm, rfl⟩
  have d2 : decide (b < 0) = false := by simpa using h2
  by_cases h3 : 4294967295 < a
  · have d3 : decide (4294967295 < a) = true := by simpa using h3
    have hr : addB a b = false := by unfold addB; simp; omega
    have HR := Lib.hid hr
    have HN := Lib.hid (show addN a b = 0 by unfold addN; rw [hr]; rfl)
    clear hr
    go_enter Try.func21, Try.ntmps21
    go_wp2_with fail
    go_ret2
    exact ⟨ret_ib HN.out.symm HR.out.symm, rfl⟩
  have d3 : decide (4294967295 < a) = false := by simpa using h3
  by_cases h4 : 4294967295 < b
  · have d4 : decide (4294967295 < b) = true := by simpa using h4
    have hr : addB a b = false := by unfold addB; simp; omega
    have HR := Lib.hid hr
    have HN := Lib.hid (show addN a b = 0 by unfold addN; rw [hr]; rfl)
    clear hr
    go_enter Try.func21, Try.ntmps21
    go_wp2_with fail
    go_ret2
    exact ⟨ret_ib HN.out.symm HR.out.symm, rfl⟩
  have d4 : decide (4294967295 < b) = false := by simpa using h4
  by_cases h5 : 4294967295 < a + b
  · have d5 : decide (4294967295 < a + b) = true := by simpa using h5
    have hr : addB a b = false := by unfold addB; simp; omega
    have HR := Lib.hid hr
    have HN := Lib.hid (show addN a b = 0 by unfold addN; rw [hr]; rfl)
    clear hr
    go_enter Try.func21, Try.ntmps21
    go_wp2_with fail
    go_ret2
    exact ⟨ret_ib HN.out.symm HR.out.symm, rfl⟩
  have d5 : decide (4294967295 < a + b) = false := by simpa using h5
  have hr : addB a b = true := by unfold addB; simp; omega
  have HR := Lib.hid hr
  have HN := Lib.hid (show addN a b = a + b by unfold addN; rw [hr]; rfl)
  clear hr
  go_enter Try.func21, Try.ntmps21
  go_wp2_with fail
  go_ret2
  exact ⟨ret_ib HN.out.symm HR.out.symm, rfl⟩

set_option maxRecDepth 100000 in
set_option maxHeartbeats 1000000 in
theorem room_any (a l n : Int) (w : World) (hn : n ≤ 9223372036854775807) :
    Calls Try.prog 23 #[.int .i64 a, .int .i64 l, .int .i64 n] w fun e w' => e = .returned (.bool (roomB a l n)) ∧ w = w' := by
  by_cases h1 : 0 ≤ a
  · have d1 : decide (0 ≤ a) = true := by simpa using h1
    by_cases h2 : 0 ≤ l
    · have d2 : decide (0 ≤ l) = true := by simpa using h2
      by_cases h3 : a ≤ n
      · have d3 : decide (a ≤ n) = true := by simpa using h3
        have HR := Lib.hid (show roomB a l n = decide (l ≤ n - a) by unfold roomB; rw [d1, d2, d3]; simp)
        go_enter Try.func23, Try.ntmps23
        go_wp2_with fail
        go_ret
        exact ⟨ret_bool HR.out.symm, rfl⟩
      · have d3 : decide (a ≤ n) = false := by simpa using h3
        have HR := Lib.hid (show roomB a l n = false by unfold roomB; rw [d1, d2, d3]; simp)
        go_enter Try.func23, Try.ntmps23
        go_wp2_with fail
        go_ret
        exact ⟨ret_bool HR.out.symm, rfl⟩
    · have d2 : decide (0 ≤ l) = false := by simpa using h2
      have HR := Lib.hid (show roomB a l n = false by unfold roomB; rw [d1, d2]; simp)
      go_enter Try.func23, Try.ntmps23
      go_wp2_with fail
      go_ret
      exact ⟨ret_bool HR.out.symm, rfl⟩
  · have d1 : decide (0 ≤ a) = false := by simpa using h1
    have HR := Lib.hid (show roomB a l n = false by unfold roomB; rw [d1]; simp)
    go_enter Try.func23, Try.ntmps23
    go_wp2_with fail
    go_ret
    exact ⟨ret_bool HR.out.symm, rfl⟩

set_option maxRecDepth 100000 in
set_option maxHeartbeats 1000000 in
theorem rroom_any (a l n : Int) (w : World) (hn : n ≤ 9223372036854775807) :
    Calls Try.prog 24 #[.int .i64 a, .int .i64 l, .int .i64 n] w fun e w' => e = .returned (.bool (roomB a l n)) ∧ w = w' := by
  by_cases h1 : a < 0
  · have d1 : decide (a < 0) = true := by simpa using h1
    have HR := Lib.hid (show roomB a l n = false by unfold roomB; simp; omega)
    go_enter Try.func24, Try.ntmps24
    go_wp2_with fail
    go_ret
    exact ⟨ret_bool HR.out.symm, rfl⟩
  have d1 : decide (a < 0) = false := by simpa using h1
  by_cases h2 : l < 0
  · have d2 : decide (l < 0) = true := by simpa using h2
    have HR := Lib.hid (show roomB a l n = false by unfold roomB; simp; omega)
    go_enter Try.func24, Try.ntmps24
    go_wp2_with fail
    go_ret
    exact ⟨ret_bool HR.out.symm, rfl⟩
  have d2 : decide (l < 0) = false := by simpa using h2
  by_cases h3 : n < a
  · have d3 : decide (n < a) = true := by simpa using h3
    have HR := Lib.hid (show roomB a l n = false by unfold roomB; simp; omega)
    go_enter Try.func24, Try.ntmps24
    go_wp2_with fail
    go_ret
    exact ⟨ret_bool HR.out.symm, rfl⟩
  have d3 : decide (n < a) = false := by simpa using h3
  have HR := Lib.hid (show roomB a l n = decide (l ≤ n - a) by unfold roomB; rw [show decide (0 ≤ a) = true by simp; omega, show decide (0 ≤ l) = true by simp; omega, show decide (a ≤ n) = true by simp; omega]; simp)
  go_enter Try.func24, Try.ntmps24
  go_wp2_with fail
  go_ret
  exact ⟨ret_bool HR.out.symm, rfl⟩

theorem i64_and1 (n : Int) : bits .and .i64 n 1 = n % 2 := by
  have h1 : (BitVec.ofInt 64 1).toNat = 2 ^ 1 - 1 := by decide
  have key : (BitVec.ofInt 64 n &&& BitVec.ofInt 64 1).toNat = (n % ((2 ^ 64 : Nat) : Int)).toNat % 2 ^ 1 := by
    rw [BitVec.toNat_and, BitVec.toNat_ofInt, h1, Nat.and_two_pow_sub_one_eq_mod]
  show IntKind.i64.wrap ((BitVec.ofInt 64 n &&& BitVec.ofInt 64 1).toNat : Nat) = n % 2
  rw [key, IntKind.wrap_i64]
  omega
theorem tmod2 (n : Int) : n.tmod 2 = 0 ∧ n % 2 = 0 ∨ n.tmod 2 ≠ 0 ∧ n % 2 = 1 := by
  rcases (by omega : n % 2 = 0 ∨ n % 2 = 1) with h | h
  · exact .inl ⟨by rw [Int.tmod_eq_emod]; simp [Int.dvd_of_emod_eq_zero h, h], h⟩
  · refine .inr ⟨fun h0 => ?_, h⟩
    have := Int.dvd_of_tmod_eq_zero h0
    omega
theorem even_any (n : Int) (w : World) (h : n < 9223372036854775806) (h' : -9223372036854775808 ≤ n) : Calls Try.prog 25 #[.int .i64 n] w fun e w' => e = .returned (.int .i64 (evenN n)) ∧ w = w' := by
  have hb := i64_and1 n
  go_enter Try.func25, Try.ntmps25
  go_wp2_with fail
  go_ret
  exact ⟨ret_int rfl, rfl⟩
theorem reven_any (n : Int) (w : World) (h : n < 9223372036854775806) (h' : -9223372036854775808 ≤ n) : Calls Try.prog 26 #[.int .i64 n] w fun e w' => e = .returned (.int .i64 (evenN n)) ∧ w = w' := by
  rcases tmod2 n with ⟨hm, he⟩ | ⟨hm, he⟩
  · have HR := Lib.hid (show evenN n = n by unfold evenN; omega)
    have d : ((n.tmod 2) != 0) = false := by simp [hm]
    clear hm he
    go_enter Try.func26, Try.ntmps26
    go_wp2_with fail
    go_ret
    exact ⟨ret_int HR.out.symm, rfl⟩
  · have HR := Lib.hid (show evenN n = n + 1 by unfold evenN; omega)
    have d : ((n.tmod 2) != 0) = true := by simp [hm]
    clear hm he
    go_enter Try.func26, Try.ntmps26
    go_wp2_with fail
    go_ret
    exact ⟨ret_int HR.out.symm, rfl⟩

/-- Is an answer that number, or none? -/
def isB (n : Int) (ok : Bool) (m : Int) (f : Bool) : Bool := decide (n = m) && (ok == f)
theorem is_any (n m : Int) (p q : Bool) (w : World) : Calls Try.prog 22 #[.int .i64 n, .bool p, .int .i64 m, .bool q] w fun e w' => e = .returned (.bool (isB n p m q)) ∧ w = w' := by
  by_cases h : n = m
  · have d : (n == m) = true := by simpa using h
    have HR := Lib.hid (show isB n p m q = (p == q) by unfold isB; simp [h])
    clear h
    go_enter Try.func22, Try.ntmps22
    go_wp2_with fail
    go_ret
    exact ⟨ret_bool HR.out.symm, rfl⟩
  · have d : (n == m) = false := by simpa using h
    have HR := Lib.hid (show isB n p m q = false by unfold isB; simp [h])
    clear h
    go_enter Try.func22, Try.ntmps22
    go_wp2_with fail
    go_ret
    exact ⟨ret_bool HR.out.symm, rfl⟩
end Go.Proofs.Ytpjdhjkbfdmgpaa
