/- Types: sizes, and what may be (no program in sight). -/
import Derived.Test.YtmdcdmgbillehaaOcC
namespace Go.Proofs.Ytmdcdmgbillehaa
open Go.RowKit
open Go.Tin
set_option linter.unusedVariables false
set_option linter.unusedSimpArgs false


def szT (n : Int) : Int := if n = 1 ∨ n = 2 ∨ n = 6 ∨ n = 7 then 1 else if n = 3 ∨ n = 8 then 2 else if n = 4 ∨ n = 9 ∨ n = 11 then 4 else if n = 5 ∨ n = 10 ∨ n = 12 then 8 else 0
def prT (n : Int) : Int := if n = 5 ∨ n = 10 then 4 else szT n
def isT (n : Int) : Int := if n = 6 ∨ n = 8 ∨ n = 9 then 2 else if n = 5 then 3 else if n = 10 then 4 else if n = 11 ∨ n = 12 then 5 else if szT n = 0 then 0 else 1
theorem n13 {n : Int} (h0 : 0 ≤ n) (h1 : n ≤ 12) : n = 0 ∨ n = 1 ∨ n = 2 ∨ n = 3 ∨ n = 4 ∨ n = 5 ∨ n = 6 ∨ n = 7 ∨ n = 8 ∨ n = 9 ∨ n = 10 ∨ n = 11 ∨ n = 12 := by omega
theorem kd_no {n : Int} (h : n < 0 ∨ 12 < n) : szT n = 0 ∧ prT n = 0 ∧ isT n = 0 := by
  have h1 : szT n = 0 := by
    unfold szT
    rw [if_neg (by omega), if_neg (by omega), if_neg (by omega), if_neg (by omega)]
  refine ⟨h1, ?_, ?_⟩
  · unfold prT
    rw [if_neg (by omega), h1]
  · unfold isT
    rw [if_neg (by omega), if_neg (by omega), if_neg (by omega), if_neg (by omega), if_pos h1]
theorem szT_cases (n : Int) : (szT n = 0 ∧ (n ≤ 0 ∨ 12 < n)) ∨ (1 ≤ n ∧ n ≤ 12 ∧ (szT n = 1 ∨ szT n = 2 ∨ szT n = 4 ∨ szT n = 8)) := by
  by_cases h : n < 0 ∨ 12 < n
  · exact .inl ⟨(kd_no h).1, by omega⟩
  · rcases n13 (show 0 ≤ n by omega) (by omega) with rfl | rfl | rfl | rfl | rfl | rfl | rfl | rfl | rfl | rfl | rfl | rfl | rfl <;> decide
/-- The place of the first nought; -1: there is none. -/
def ix0 : List Int → Int
  | [] => -1
  | x :: l => if x = 0 then 0 else if ix0 l = -1 then -1 else ix0 l + 1
theorem ix0_cases : ∀ l : List Int, (ix0 l = -1 ∧ ∀ j, j < l.length → nth l j ≠ 0) ∨ ∃ m : Nat, ix0 l = (m : Int) ∧ m < l.length ∧ nth l m = 0 ∧ ∀ j, j < m → nth l j ≠ 0
  | [] => .inl ⟨rfl, fun j hj => by simp at hj⟩
  | x :: l => by
    by_cases hx : x = 0
    · exact .inr ⟨0, by unfold ix0; rw [if_pos hx]; rfl, by simp, hx, fun j hj => by omega⟩
    · rcases ix0_cases l with ⟨h, h2⟩ | ⟨m, h, h1, h2, h3⟩
      · refine .inl ⟨by unfold ix0; rw [if_neg hx, if_pos h], fun j hj => ?_⟩
        cases j with
        | zero => exact hx
        | succ j => exact h2 j (by simpa using hj)
      · refine .inr ⟨m + 1, by unfold ix0; rw [if_neg hx, if_neg (by omega), h]; rfl, by simpa using h1, h2, fun j hj => ?_⟩
        cases j with
        | zero => exact hx
        | succ j => exact h3 j (by omega)
theorem ix0_bd (l : List Int) : -1 ≤ ix0 l ∧ ix0 l < l.length ∨ ix0 l = -1 := by
  rcases ix0_cases l with ⟨h, _⟩ | ⟨m, h, h1, _⟩
  · exact .inr h
  · exact .inl ⟨by omega, by omega⟩
/-- A text: a nought at its end, and nowhere else. -/
def txB (l : List Int) : Bool := decide (ix0 l = (l.length : Int) - 1)
theorem tx_iff {l : List Int} (h0 : 0 < l.length) : txB l = true ↔ ∀ j, j < l.length → (nth l j = 0 ↔ j + 1 = l.length) := by
  unfold txB
  rw [decide_eq_true_eq]
  rcases ix0_cases l with ⟨h, h2⟩ | ⟨m, h, h1, h2, h3⟩
  · rw [h]
    constructor
    · intro e; omega
    · intro hh
      have := (hh (l.length - 1) (by omega)).2 (by omega)
      exact absurd this (h2 _ (by omega))
  · rw [h]
    constructor
    · intro e j hj
      constructor
      · intro hz
        have : ¬ j < m := fun hm => h3 j hm hz
        omega
      · intro hj'
        have : j = m := by omega
        rw [this]; exact h2
    · intro hh
      have := (hh m h1).1 h2
      omega
/-- May a value be? -/
def mayV (t c : Int) (l : List Int) : Bool := decide (szT t ≠ 0) && (decide (1 ≤ c) && (decide (c ≤ 65536) && (decide ((l.length : Int) = c * szT t) && (decide (t ≠ 2) || txB l))))
/-- What is made of bytes: the value's, and whether. -/
def ofB (k c : Int) (l : List Int) (o : Int) : Bool := decide (szT k ≠ 0) && (decide (1 ≤ c) && (decide (c ≤ 65536) && (decide (c * szT k ≤ (l.length : Int)) && mayV k c (turnL (l.take (c * szT k).toNat) (prT k) o))))
def ofL (k c : Int) (l : List Int) (o : Int) : List Int := if ofB k c l o then turnL (l.take (c * szT k).toNat) (prT k) o else []
def byV (t c : Int) (l : List Int) (o : Int) : List Int := if mayV t c l then turnL l (prT t) o else []
/-- A number that is nought where something is not. -/
def on (b : Bool) (n : Int) : Int := if b then n else 0
end Go.Proofs.Ytmdcdmgbillehaa
