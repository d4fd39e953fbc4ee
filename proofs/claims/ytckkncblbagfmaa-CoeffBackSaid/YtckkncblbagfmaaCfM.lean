/- Coeff: sizes and bits of numbers (no program in sight). -/
import Derived.Test.YtckkncblbagfmaaPsh
import Derived.Lib.BitFns
import Derived.Lib.ItoaNum
import Derived.IntWalk
namespace Go.Proofs.Ytckkncblbagfmaa
open Go.RowKit
open Go.Tin
set_option linter.unusedVariables false
set_option linter.unusedSimpArgs false


/-- How many bits a number has; -1: it is not told. -/
def sz (v : Int) : Int := if v.natAbs < 32768 then ((Lib.bitLen v.natAbs : Nat) : Int) else -1
theorem pow_of (m : Nat) (h : m ≤ 16) : (m = 0 ∧ (2 : Int) ^ m = 1) ∨ (1 ≤ m ∧ (2 : Int) ^ m = 2 * 2 ^ (m - 1) ∧ 1 ≤ (2 : Int) ^ (m - 1)) := by
  cases m with
  | zero => exact .inl ⟨rfl, rfl⟩
  | succ k =>
    refine .inr ⟨by omega, ?_, ?_⟩
    · rw [Int.pow_succ, Nat.succ_sub_one]; omega
    · have : (0 : Int) < 2 ^ k := Int.pow_pos (by decide)
      rw [Nat.succ_sub_one]; omega
theorem pow_top (m : Nat) (h : m ≤ 16) : (1 : Int) ≤ 2 ^ m ∧ (2 : Int) ^ m ≤ 65536 := by
  have h1 : (0 : Int) < 2 ^ m := Int.pow_pos (by decide)
  have h2 : (2 : Nat) ^ m ≤ 2 ^ 16 := Nat.pow_le_pow_right (by decide) h
  have h3 : (2 : Int) ^ m ≤ 2 ^ 16 := by exact_mod_cast h2
  exact ⟨by omega, Int.le_trans h3 (by decide)⟩
theorem pow_mono {m k : Nat} (h : m ≤ k) : (2 : Int) ^ m ≤ 2 ^ k := by
  have h2 : (2 : Nat) ^ m ≤ 2 ^ k := Nat.pow_le_pow_right (by decide) h
  exact_mod_cast h2
theorem bitLen_spec (a : Nat) (h : a < 2 ^ 64) : a < 2 ^ Lib.bitLen a ∧ (a = 0 → Lib.bitLen a = 0) ∧ (a ≠ 0 → 1 ≤ Lib.bitLen a ∧ 2 ^ (Lib.bitLen a - 1) ≤ a) := by
  by_cases h0 : a = 0
  · subst h0
    have : Lib.bitLen 0 = 0 := by decide
    rw [this]
    exact ⟨by decide, fun _ => rfl, fun h => absurd rfl h⟩
  · obtain ⟨h1, h2, h3⟩ := Lib.bitLenAux_bounds 64 a h h0
    exact ⟨h3, fun e => absurd e h0, fun _ => ⟨h1, h2⟩⟩
/-- A number that is told, and its size. -/
def szIs (v : Int) (m : Nat) : Prop := m ≤ 15 ∧ -(2 ^ m) < v ∧ v < 2 ^ m ∧ (m = 0 ∨ (v ≤ -(2 ^ (m - 1)) ∨ (2 : Int) ^ (m - 1) ≤ v))
theorem szIs_unique {v : Int} {m k : Nat} (h : szIs v m) (h' : szIs v k) : m = k := by
  obtain ⟨h1, h2, h3, h4⟩ := h
  obtain ⟨k1, k2, k3, k4⟩ := h'
  rcases Nat.lt_trichotomy m k with hlt | he | hlt
  · have := pow_mono (show m ≤ k - 1 by omega)
    rcases k4 with k4 | k4 | k4 <;> omega
  · exact he
  · have := pow_mono (show k ≤ m - 1 by omega)
    rcases h4 with h4 | h4 | h4 <;> omega
theorem sz_cases (v : Int) : (∃ m : Nat, sz v = (m : Int) ∧ szIs v m) ∨ (sz v = -1 ∧ (v ≤ -32768 ∨ 32768 ≤ v)) := by
  unfold sz
  by_cases h : v.natAbs < 32768
  · left
    rw [if_pos h]
    refine ⟨_, rfl, ?_⟩
    obtain ⟨h1, h2, h3⟩ := bitLen_spec v.natAbs (Nat.lt_trans h (by decide))
    have hle : Lib.bitLen v.natAbs ≤ 15 := Lib.bitLen_le _ 15 (by decide) h
    generalize Lib.bitLen v.natAbs = m at *
    have e1 : ((2 ^ m : Nat) : Int) = (2 : Int) ^ m := by rw [Int.natCast_pow]; rfl
    have e2 : ((2 ^ (m - 1) : Nat) : Int) = (2 : Int) ^ (m - 1) := by rw [Int.natCast_pow]; rfl
    refine ⟨hle, by omega, by omega, ?_⟩
    by_cases h0 : v.natAbs = 0
    · exact .inl (h2 h0)
    · obtain ⟨h4, h5⟩ := h3 h0
      right
      omega
  · right
    rw [if_neg h]
    exact ⟨rfl, by omega⟩
theorem sz_of {v : Int} {m : Nat} (h : szIs v m) : sz v = (m : Int) := by
  rcases sz_cases v with ⟨k, hk, hs⟩ | ⟨_, h1⟩
  · rw [hk, szIs_unique hs h]
  · obtain ⟨h2, h3, h4, _⟩ := h
    have := pow_mono (show m ≤ 15 by omega)
    have h15 : (2 : Int) ^ 15 = 32768 := by decide
    omega
theorem sz_not {v : Int} (h : v ≤ -32768 ∨ 32768 ≤ v) : sz v = -1 := by
  unfold sz
  rw [if_neg (by omega)]
/-- The bits of a number. -/
def exV (v : Int) : Int := if sz v < 0 then 0 else if v < 0 then v + (2 ^ (sz v).toNat - 1) else v
def exN (v : Int) : Int := if sz v < 0 then 0 else sz v
def exB (v : Int) : Bool := decide (0 ≤ sz v)
/-- Are these bits a number's? -/
def vaB (V N : Int) : Bool := decide (0 ≤ N ∧ N ≤ 15 ∧ 0 ≤ V ∧ V < 2 ^ N.toNat)
/-- The number of bits. -/
def vaN (V N : Int) : Int := if vaB V N then (if 0 < N ∧ V < 2 ^ (N.toNat - 1) then V - (2 ^ N.toNat - 1) else V) else 0
theorem ex_of {v : Int} {m : Nat} (h : szIs v m) : exV v = (if v < 0 then v + (2 ^ m - 1) else v) ∧ exN v = (m : Int) ∧ exB v = true := by
  have hs := sz_of h
  have hn : ¬ ((m : Int) < 0) := by omega
  refine ⟨?_, ?_, ?_⟩
  · unfold exV
    rw [hs, if_neg hn, Int.toNat_natCast]
  · unfold exN
    rw [hs, if_neg hn]
  · unfold exB
    rw [hs]
    simp
theorem va_ex {v : Int} {m : Nat} (h : szIs v m) : vaB (exV v) (exN v) = true ∧ vaN (exV v) (exN v) = v := by
  obtain ⟨h1, h2, _⟩ := ex_of h
  obtain ⟨k1, k2, k3, k4⟩ := h
  have hp := pow_of m (by omega)
  have hB : vaB (exV v) (exN v) = true := by
    unfold vaB
    rw [h1, h2, Int.toNat_natCast]
    simp only [decide_eq_true_eq]
    split <;> omega
  refine ⟨hB, ?_⟩
  unfold vaN
  rw [hB, h1, h2, Int.toNat_natCast]
  simp only [if_true]
  split <;> split <;> omega
theorem ex_va {V N : Int} (h : vaB V N = true) : ∃ m : Nat, N = (m : Int) ∧ szIs (vaN V N) m ∧ exV (vaN V N) = V ∧ exN (vaN V N) = N := by
  have h' := h
  unfold vaB at h'
  simp only [decide_eq_true_eq] at h'
  obtain ⟨h0, h1, h2, h3⟩ := h'
  obtain ⟨m, rfl⟩ := Int.eq_ofNat_of_zero_le h0
  rw [Int.toNat_natCast] at h3
  have hp := pow_of m (by omega)
  have hv : vaN V m = if (0 : Int) < (m : Int) ∧ V < 2 ^ (m - 1) then V - (2 ^ m - 1) else V := by
    unfold vaN
    rw [h, if_pos rfl, Int.toNat_natCast]
  have hs : szIs (vaN V m) m := by
    rw [hv]
    refine ⟨by omega, ?_, ?_, ?_⟩ <;> split <;> omega
  obtain ⟨e1, e2, _⟩ := ex_of hs
  refine ⟨m, rfl, hs, ?_, e2⟩
  rw [e1, hv]
  split <;> split <;> omega
theorem va_no {V N : Int} (h : vaB V N = false) : vaN V N = 0 := by unfold vaN; rw [h]; simp
end Go.Proofs.Ytckkncblbagfmaa
