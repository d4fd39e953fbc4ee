/- The contract of put, by what a coder has. -/
import Derived.Test.YtckkncblbagfmaaCfH
import Derived.Test.YtckkncblbagfmaaCfP
namespace Go.Proofs.Ytckkncblbagfmaa
open Go.RowKit
open Go.Tin
set_option linter.unusedVariables false
set_option linter.unusedSimpArgs false


theorem fr_weak {w w' : World} {g : Nat} {r : Option Nat} (h : Fr w w' g none) : Fr w w' g r := ⟨h.os, h.tape, h.output, h.size, fun k hk hg _ => h.block k hk hg (by simp)⟩
theorem put_stp (w : World) (B g : Nat) (A : Option Addr) (n c : Nat) (s : Cd) (h : CS w B g A n c s.out s.z s.bad) (hn : n * 4 = s.out.length) (v : Int) (wv : (Lit.int .i64 v).wf = true) (hv : v ≠ 0) (hn5 : n + 5 ≤ 1000) :
    Calls Try.prog 21 #[.pointer (some ⟨g, 0, none⟩), .int .i64 1, .int .i64 v, .int .i64 10] w fun e w' => ∃ A' n' c', e = .returned (.tuple #[]) ∧ CS w' B g A' n' c' (stp s v).out (stp s v).z (stp s v).bad ∧ n' * 4 = (stp s v).out.length ∧ Fr w w' g (ob A) ∧ How w A A' := by
  by_cases hbad : sz v < 0 ∨ 10 < sz v
  · rw [stp_bad' s v hv hbad]
    refine (put_wrong w B g A n c s.out s.z s.bad h 1 v 10 wv (.inl rfl) hbad).mono ?_
    rintro e w' ⟨rfl, h1, h2⟩
    exact ⟨A, n, c, rfl, h1, hn, fr_weak h2, .inl rfl⟩
  · obtain ⟨m, hm, hs⟩ : ∃ m : Nat, sz v = (m : Int) ∧ szIs v m := by
      rcases sz_cases v with h | ⟨h, _⟩
      · exact h
      · omega
    rw [stp_yes s v hv m hm (by omega)]
    refine (put_yes w B g A n c s.out s.z s.bad h 1 v 10 m wv (.inl rfl) hs (by omega) hn5).mono ?_
    rintro e w' ⟨A', c', rfl, h1, h2, h3⟩
    refine ⟨A', _, c', rfl, h1, ?_, h2, h3⟩
    simp only [List.length_append, symL_len]
    omega
theorem put_ini (w : World) (B g : Nat) (A : Option Addr) (c : Nat) (h : CS w B g A 0 c [] 0 false) (v : Int) (wv : (Lit.int .i64 v).wf = true) :
    Calls Try.prog 21 #[.pointer (some ⟨g, 0, none⟩), .int .i64 0, .int .i64 v, .int .i64 11] w fun e w' => ∃ A' n' c', e = .returned (.tuple #[]) ∧ CS w' B g A' n' c' (ini v).out (ini v).z (ini v).bad ∧ n' * 4 = (ini v).out.length ∧ Fr w w' g (ob A) ∧ How w A A' := by
  by_cases hbad : sz v < 0 ∨ 11 < sz v
  · have e : ini v = ⟨[], 0, true⟩ := by unfold ini; rw [if_pos hbad]
    rw [e]
    refine (put_wrong w B g A 0 c [] 0 false h 0 v 11 wv (.inr rfl) hbad).mono ?_
    rintro e w' ⟨rfl, h1, h2⟩
    exact ⟨A, 0, c, rfl, h1, rfl, fr_weak h2, .inl rfl⟩
  · obtain ⟨m, hm, hs⟩ : ∃ m : Nat, sz v = (m : Int) ∧ szIs v m := by
      rcases sz_cases v with h | ⟨h, _⟩
      · exact h
      · omega
    have e : ini v = ⟨symL 0 0 (exV v) m, 0, false⟩ := by unfold ini; rw [if_neg hbad, hm]
    rw [e]
    refine (put_yes w B g A 0 c [] 0 false h 0 v 11 m wv (.inr rfl) hs (by omega) (by omega)).mono ?_
    rintro e w' ⟨A', c', rfl, h1, h2, h3⟩
    refine ⟨A', _, c', rfl, by simpa using h1, ?_, h2, h3⟩
    simp only [symL_len]
end Go.Proofs.Ytckkncblbagfmaa
