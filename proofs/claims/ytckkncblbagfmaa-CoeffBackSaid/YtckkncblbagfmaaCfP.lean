/- Coeff: the symbols of a block (no program in sight). -/
import Derived.Test.YtckkncblbagfmaaCfG
import Derived.Test.YtckkncblbagfmaaZgG
namespace Go.Proofs.Ytckkncblbagfmaa
open Go.RowKit
open Go.Tin
set_option linter.unusedVariables false
set_option linter.unusedSimpArgs false


/-- What a coder has: its symbols, the noughts that are not told yet, and whether a number was too great. -/
structure Cd where
  out : List Int
  z : Nat
  bad : Bool
/-- One number more. -/
def stp (s : Cd) (v : Int) : Cd := if v = 0 then ⟨s.out, s.z + 1, s.bad⟩ else if sz v < 0 ∨ 10 < sz v then ⟨s.out, s.z, true⟩ else ⟨s.out ++ symL 1 s.z (exV v) (sz v), 0, s.bad⟩
def ini (d : Int) : Cd := if sz d < 0 ∨ 11 < sz d then ⟨[], 0, true⟩ else ⟨symL 0 0 (exV d) (sz d), 0, false⟩
/-- Behind so many numbers of a block as the zigzag goes. -/
def cod (b : List Int) (last : Int) : Nat → Cd
  | 0 => ini (nth b 0 - last)
  | k + 1 => stp (cod b last k) (nth (toL b) (k + 1))
def told (b : List Int) (last : Int) : Bool := decide (0 ≤ sz last) && (decide (0 ≤ sz (nth b 0)) && !(cod b last 63).bad)
def symsOf (s : Cd) : List Int := if 0 < s.z then s.out ++ [1, 0, 0, 0] else s.out
/-- The symbols; none: there are none. -/
def code (b : List Int) (last : Int) : List Int := if told b last then symsOf (cod b last 63) else []
theorem stp_bad (s : Cd) (v : Int) (h : s.bad = true) : (stp s v).bad = true := by
  unfold stp
  split
  · exact h
  · split
    · rfl
    · exact h
theorem cod_bad (b : List Int) (last : Int) (k : Nat) (h : (cod b last k).bad = true) : ∀ n, (cod b last (k + n)).bad = true
  | 0 => h
  | n + 1 => stp_bad _ _ (cod_bad b last k h n)
/-- So many symbols at most. -/
theorem cod_len (b : List Int) (last : Int) : ∀ k, ∃ n, (cod b last k).out.length = n * 4 ∧ n + (cod b last k).z ≤ k + 1
  | 0 => by
    simp only [cod, ini]
    split
    · exact ⟨0, rfl, by simp⟩
    · exact ⟨1, by rw [symL_len], by simp⟩
  | k + 1 => by
    obtain ⟨n, h1, h2⟩ := cod_len b last k
    simp only [cod]
    generalize cod b last k = s at *
    unfold stp
    split
    · exact ⟨n, h1, by simp only; omega⟩
    · split
      · exact ⟨n, h1, by simp only; omega⟩
      · refine ⟨n + (s.z / 16 + 1), ?_, by simp only; omega⟩
        simp only [List.length_append, symL_len, h1]
        omega
theorem stp_zero (s : Cd) : stp s 0 = ⟨s.out, s.z + 1, s.bad⟩ := by unfold stp; rw [if_pos rfl]
theorem stp_bad' (s : Cd) (v : Int) (h0 : v ≠ 0) (h : sz v < 0 ∨ 10 < sz v) : stp s v = ⟨s.out, s.z, true⟩ := by unfold stp; rw [if_neg h0, if_pos h]
theorem stp_yes (s : Cd) (v : Int) (h0 : v ≠ 0) (m : Nat) (hm : sz v = (m : Int)) (h10 : m ≤ 10) : stp s v = ⟨s.out ++ symL 1 s.z (exV v) m, 0, s.bad⟩ := by unfold stp; rw [if_neg h0, if_neg (by omega), hm]
end Go.Proofs.Ytckkncblbagfmaa
