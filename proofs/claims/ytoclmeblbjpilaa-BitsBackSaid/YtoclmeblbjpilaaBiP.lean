/- Bits: the plain laws of a Writer (no program in sight). -/
import Derived.Test.YtoclmeblbjpilaaBiN
namespace Go.Proofs.Ytoclmeblbjpilaa
open Go.RowKit
open Go.Tin
set_option linter.unusedVariables false
set_option linter.unusedSimpArgs false


theorem numL_cons_app (l m : List Int) : numL (l ++ m) = m.foldl (fun a b => 2 * a + b) (numL l) := by unfold numL; rw [List.foldl_append]
theorem fold_from (m : List Int) : ∀ a : Int, m.foldl (fun a b => 2 * a + b) a = a * 2 ^ m.length + numL m := by
  induction m with
  | nil => intro a; simp [numL]
  | cons b m ih =>
    intro a
    have h0 : numL (b :: m) = m.foldl (fun a b => 2 * a + b) (2 * 0 + b) := rfl
    rw [List.foldl_cons, ih, h0, ih, List.length_cons, Int.pow_succ]
    have e1 : (2 * a + b) * 2 ^ m.length = a * (2 ^ m.length * 2) + b * 2 ^ m.length := by
      rw [Int.add_mul, Int.mul_comm 2 a, Int.mul_assoc, Int.mul_comm 2 (2 ^ m.length)]
    have e2 : (2 * 0 + b) * 2 ^ m.length = b * 2 ^ m.length := by simp
    rw [e1, e2]
    omega
theorem numL_app (l m : List Int) : numL (l ++ m) = numL l * 2 ^ m.length + numL m := by rw [numL_cons_app, fold_from]
theorem numL_low (v : Int) : ∀ n, numL (low v n) = v % 2 ^ n
  | 0 => by simp [low, numL, Int.emod_one]
  | n + 1 => by
    have h : low v (n + 1) = [v / 2 ^ n % 2] ++ low v n := rfl
    rw [h, numL_app, numL_low v n, low_len]
    have h1 : numL [v / 2 ^ n % 2] = v / 2 ^ n % 2 := by simp [numL]
    rw [h1, Int.pow_succ]
    have hp : (0 : Int) < 2 ^ n := Int.pow_pos (by decide)
    generalize (2 : Int) ^ n = p at *
    have e1 := Int.emod_add_mul_ediv v p
    have e2 := Int.emod_add_mul_ediv (v / p) 2
    have e3 := Int.emod_nonneg v (show p ≠ 0 by omega)
    have e4 := Int.emod_lt_of_pos v hp
    have e5 : v = (v / p % 2 * p + v % p) + (p * 2) * (v / p / 2) := by
      have : p * (v / p) = p * (v / p % 2) + p * (2 * (v / p / 2)) := by rw [← Int.mul_add, e2]
      rw [Int.mul_assoc, Int.mul_comm (v / p % 2) p]
      omega
    have e6 : 0 ≤ v / p % 2 * p + v % p := by
      have : 0 ≤ v / p % 2 * p := Int.mul_nonneg (Int.emod_nonneg _ (by decide)) (by omega)
      omega
    have e7 : v / p % 2 * p + v % p < p * 2 := by
      have h9 : v / p % 2 ≤ 1 := by have := Int.emod_lt_of_pos (v / p) (show (0 : Int) < 2 by decide); omega
      have : v / p % 2 * p ≤ 1 * p := Int.mul_le_mul_of_nonneg_right h9 (by omega)
      omega
    have e8 : v % (p * 2) = v / p % 2 * p + v % p := by
      have h10 : v % (p * 2) = ((v / p % 2 * p + v % p) + (p * 2) * (v / p / 2)) % (p * 2) := by rw [← e5]
      rw [h10, Int.add_mul_emod_self_left, Int.emod_eq_of_lt e6 e7]
    exact e8.symm
/-- The upper bits of a number of bits. -/
theorem numL_div (X : List Int) (hx : ∀ x ∈ X, x = 0 ∨ x = 1) (i : Nat) (hi : i ≤ X.length) : numL X / 2 ^ (X.length - i) = numL (X.take i) := by
  have h := numL_app (X.take i) (X.drop i)
  rw [List.take_append_drop, List.length_drop] at h
  have hb := numL_bd (X.drop i) (fun x hx' => hx x (List.mem_of_mem_drop hx'))
  rw [List.length_drop] at hb
  have hp : (0 : Int) < 2 ^ (X.length - i) := Int.pow_pos (by decide)
  rw [h, Int.add_comm, Int.add_mul_ediv_right _ _ (by omega), Int.ediv_eq_zero_of_lt hb.1 hb.2, Int.zero_add]
theorem numL_mod (X : List Int) (hx : ∀ x ∈ X, x = 0 ∨ x = 1) (i : Nat) (hi : i ≤ X.length) : numL X % 2 ^ (X.length - i) = numL (X.drop i) := by
  have h := numL_app (X.take i) (X.drop i)
  rw [List.take_append_drop, List.length_drop] at h
  have hb := numL_bd (X.drop i) (fun x hx' => hx x (List.mem_of_mem_drop hx'))
  rw [List.length_drop] at hb
  rw [h, Int.add_comm, Int.mul_comm, Int.add_mul_emod_self_left, Int.emod_eq_of_lt hb.1 hb.2]
/-- The byte at a place: what is behind so many bits is cut off, and what is ahead of eight. -/
theorem numL_byte (X : List Int) (hx : ∀ x ∈ X, x = 0 ∨ x = 1) (j : Nat) (hj : 8 * j + 8 ≤ X.length) : numL X / 2 ^ (X.length - (8 * j + 8)) % 256 = numL ((X.drop (8 * j)).take 8) := by
  rw [numL_div X hx _ hj]
  have h1 := numL_mod (X.take (8 * j + 8)) (fun x hx' => hx x (List.mem_of_mem_take hx')) (8 * j) (by rw [List.length_take]; omega)
  rw [List.length_take, Nat.min_eq_left hj, show 8 * j + 8 - 8 * j = 8 by omega, List.drop_take, show 8 * j + 8 - 8 * j = 8 by omega] at h1
  exact h1
theorem pckN_app (A X : List Int) (k : Nat) (hA : A.length = 8 * k) : ∀ j, pckN (A ++ X) (k + j) = pckN A k ++ pckN X j
  | 0 => by
    unfold pckN
    simp only [Nat.add_zero, List.range_zero, List.map_nil, List.append_nil]
    refine List.map_congr_left fun i hi => ?_
    rw [List.mem_range] at hi
    congr 1
    rw [List.drop_append_of_le_length (by omega), List.take_append_of_le_length (by rw [List.length_drop]; omega)]
  | j + 1 => by
    have e : (A ++ X).drop (8 * (k + j)) = X.drop (8 * j) := by
      rw [List.drop_append, List.drop_eq_nil_of_le (show A.length ≤ 8 * (k + j) by omega), List.nil_append, show 8 * (k + j) - A.length = 8 * j by omega]
    rw [← Nat.add_assoc, pckN_next, pckN_app A X k hA j, pckN_next, List.append_assoc, e]
end Go.Proofs.Ytoclmeblbjpilaa
