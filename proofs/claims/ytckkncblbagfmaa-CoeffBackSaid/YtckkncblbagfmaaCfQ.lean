/- Coeff: what is read of symbols (no program in sight). -/
import Derived.Test.YtckkncblbagfmaaCfLa
namespace Go.Proofs.Ytckkncblbagfmaa
open Go.RowKit
open Go.Tin
set_option linter.unusedVariables false
set_option linter.unusedSimpArgs false


/-- May this symbol be, of a class, of a size that is not above another one? -/
def okS (ac sym V N c most : Int) : Bool := vaB V N && (ac == c && (decide (0 ≤ sym) && (decide (sym ≤ 255) && (decide (sym % 16 ≤ most) && N == sym % 16))))
/-- The symbol at a place. -/
def okA (zs : List Int) (i : Nat) (c most : Int) : Bool := okS (nth zs (i * 4)) (nth zs (i * 4 + 1)) (nth zs (i * 4 + 2)) (nth zs (i * 4 + 3)) c most
def syA (zs : List Int) (i : Nat) : Int := nth zs (i * 4 + 1)
def vlA (zs : List Int) (i : Nat) : Int := vaN (nth zs (i * 4 + 2)) (nth zs (i * 4 + 3))
structure Rd where
  err : Int
  to : List Int
  used : Nat
/-- Which numbers are read, step by step, from a step and a symbol on. -/
def rdL (zs : List Int) (n : Nat) : Nat → Nat → Nat → List Int → Rd
  | 0, _, used, to => ⟨0, to, used⟩
  | f + 1, k, used, to =>
    if 63 < k then ⟨0, to, used⟩
    else if used = n then ⟨3, to, used⟩
    else if okA zs used 1 10 = false then ⟨2, to, used⟩
    else if syA zs used = 0 then ⟨0, to, used + 1⟩
    else if (syA zs used % 16 = 0 ∧ syA zs used ≠ 240) ∨ 63 < k + (syA zs used / 16).toNat then ⟨2, to, used⟩
    else rdL zs n f (k + (syA zs used / 16).toNat + 1) (used + 1) (to.set (k + (syA zs used / 16).toNat) (vlA zs used))
def rdA (zs : List Int) (n : Nat) (last : Int) : Rd :=
  if n = 0 then ⟨3, [], 0⟩
  else if okA zs 0 0 11 = false ∨ 11 < syA zs 0 then ⟨2, [], 0⟩
  else rdL zs n 64 1 1 ((List.replicate 64 0).set 0 (last + vlA zs 0))
theorem okA_facts {zs : List Int} {i : Nat} {c most : Int} (h : okA zs i c most = true) :
    vaB (nth zs (i * 4 + 2)) (nth zs (i * 4 + 3)) = true ∧ nth zs (i * 4) = c ∧ 0 ≤ syA zs i ∧ syA zs i ≤ 255 ∧ syA zs i % 16 ≤ most ∧ nth zs (i * 4 + 3) = syA zs i % 16 := by
  unfold okA okS at h
  unfold syA
  simpa [Bool.and_eq_true] using h
theorem vaN_zero {V N : Int} (h : vaB V N = true) : vaN V N = 0 ↔ N = 0 := by
  obtain ⟨m, rfl, hs, _, _⟩ := ex_va h
  obtain ⟨h1, h2, h3, h4⟩ := hs
  have hp := pow_of m (by omega)
  constructor
  · intro e
    rw [e] at h2 h3 h4
    rcases hp with ⟨hm, _⟩ | ⟨_, hp1, hp2⟩
    · omega
    · omega
  · intro e
    have : m = 0 := by omega
    subst this
    rw [show (2 : Int) ^ 0 = 1 from rfl] at h2 h3
    omega
theorem vlA_zero {zs : List Int} {i : Nat} {c most : Int} (h : okA zs i c most = true) : vlA zs i = 0 ↔ syA zs i % 16 = 0 := by
  obtain ⟨h1, _, _, _, _, h6⟩ := okA_facts h
  unfold vlA
  rw [vaN_zero h1, h6]
theorem vlA_bd {zs : List Int} {i : Nat} {c most : Int} (h : okA zs i c most = true) : -32768 < vlA zs i ∧ vlA zs i < 32768 := by
  obtain ⟨h1, _⟩ := okA_facts h
  obtain ⟨m, _, hs, _, _⟩ := ex_va h1
  unfold vlA
  have := sz_of hs
  exact sz_bd (by omega)
theorem fromL_set (to : List Int) (hl : to.length = 64) (k : Nat) (hk : k < 64) (v : Int) : fromL (to.set k v) = (fromL to).set (zig k).toNat v := by
  have hz := zig_bd k hk
  have hu := unz_zig k hk
  apply List.ext_getElem?
  intro j
  rw [List.getElem?_set]
  by_cases hj : j < 64
  · have huj := unz_lt j hj
    unfold fromL
    simp only [full, List.length_map, List.length_range, List.getElem?_map, List.getElem?_range hj, Option.map_some]
    by_cases h : (zig k).toNat = j
    · subst h
      rw [hu, if_pos rfl, if_pos (by omega)]
      simp [nth, List.getD_eq_getElem?_getD, List.getElem?_set, hl, hk]
    · rw [if_neg h]
      congr 1
      have : unz j ≠ k := by
        intro e
        have := zig_unz j hj
        rw [e] at this
        omega
      rw [nth_set _ _ _ _ (by omega), if_neg this]
  · rw [List.getElem?_eq_none (by simp [fromL]; omega), List.getElem?_eq_none (by simp [fromL]; omega)]
    split <;> simp [fromL]
    omega
theorem fromL_zero : fromL (List.replicate 64 0) = List.replicate 64 0 := by kernel_rfl
theorem and15 (n : Int) : bits .and .i64 n 15 = n % 16 := by
  have h1 : (BitVec.ofInt 64 15).toNat = 2 ^ 4 - 1 := by decide
  have key : (BitVec.ofInt 64 n &&& BitVec.ofInt 64 15).toNat = (n % ((2 ^ 64 : Nat) : Int)).toNat % 2 ^ 4 := by
    rw [BitVec.toNat_and, BitVec.toNat_ofInt, h1, Nat.and_two_pow_sub_one_eq_mod]
  show IntKind.i64.wrap ((BitVec.ofInt 64 n &&& BitVec.ofInt 64 15).toNat : Nat) = n % 16
  rw [key, IntKind.wrap_i64]
  omega
end Go.Proofs.Ytckkncblbagfmaa
