/- The iterator way, run with the rounds of order: all 64 places come, in order. Conditions: the record of the loop as it lies at its beginning. -/
import Derived.Test.YtckkncblbagfmaaZgA
namespace Go.Proofs.Ytckkncblbagfmaa
open Go.RowKit
open Go.Tin
set_option linter.unusedVariables false
set_option linter.unusedSimpArgs false

attribute [local go_sem] Oper.semAt_some

/-- The first and the last row of a diagonal, and how many places lie ahead of it. -/
def lo (s : Nat) : Nat := s - 7
def hi (s : Nat) : Nat := min s 7
def posd : Nat → Nat
  | 0 => 0
  | s + 1 => posd s + (hi s + 1 - lo s)
theorem zig_even : ∀ s, s < 15 → ∀ k, k < 8 → lo s ≤ k → k ≤ hi s → s % 2 = 0 → zig (posd s + (k - lo s)) = 8 * ((s : Int) - k) + s - ((s : Int) - k) := by decide
theorem zig_odd : ∀ s, s < 15 → ∀ k, k < 8 → lo s ≤ k → k ≤ hi s → s % 2 = 1 → zig (posd s + (k - lo s)) = 8 * (k : Int) + s - k := by decide
theorem posd_lt : ∀ s, s < 15 → ∀ k, k < 8 → lo s ≤ k → k ≤ hi s → posd s + (k - lo s) < 64 := by decide
theorem posd_end : posd 15 = 64 := by decide

set_option maxHeartbeats 2000000 in
theorem wayRun (asg bd : Code) (hab : Try.f31.body.bind rangeOf = some (asg, bd)) (F : Fence) (n : Nat) (h21 : F.fn 34) (hro : F.round = none) (hn : 1 ≤ n) (fn : FuncId) (hfn : F.fn fn) (B C l D : Nat) (w0 W : World) (hB : w0.heap.size ≤ B) (hC : C = B + 1) (hD : D = B + 2) (hl : l = B + 3) (h : Mid asg bd fn B C l D 0 w0 W) :
    CallsIn F n Try.prog 34 #[.func (.yield l) #[] #[]] W fun e W' => (∃ v, e = .returned v) ∧ Mid asg bd fn B C l D 64 w0 W' := by
  have Hab := Lib.hid hab
  have HC := Lib.hid hC
  have HD := Lib.hid hD
  have HL := Lib.hid hl
  clear hab hC hD hl
  refine callsIn_of_wp Try.func34 rfl h21 ?_ hro
  simp only [Try.ntmps34, List.size_toArray, List.length_cons, List.length_nil, Nat.reduceAdd, Nat.reduceSub, Array.replicate_succ, Array.replicate_zero, List.push_toArray, List.append_toArray, List.nil_append, List.cons_append]
  gi_wp2
  gi_loopw [7] (fun s7 wr => ∃ s : Nat, s ≤ 15 ∧ s7 = .int .i64 (s : Int) ∧ Mid asg bd fn B C l D (posd s) w0 wr) (fun s7 _ => 15 - (intOf s7).toNat)
  case atStart => exact ⟨0, by omega, rfl, h⟩
  case round =>
    obtain ⟨s, hs, rfl, hM⟩ := hrel
    by_cases hlt : s < 15
    · have hs1 : (s : Int) < 15 := by omega
      by_cases h7 : s ≤ 7
      · have hlo : lo s = 0 := by unfold lo; omega
        have hhi : hi s = s := by unfold hi; omega
        have Hlo := Lib.hid hlo
        have Hhi := Lib.hid hhi
        clear hlo hhi
        gi_wp2
        gi_loopw [5] (fun s5 wr => ∃ k : Nat, lo s ≤ k ∧ k ≤ hi s + 1 ∧ s5 = .int .i64 (k : Int) ∧ Mid asg bd fn B C l D (posd s + (k - lo s)) w0 wr) (fun s5 _ => 9 - (intOf s5).toNat)
        case atStart => exact ⟨lo s, Nat.le_refl _, by rw [Hlo.out, Hhi.out]; omega, by rw [Hlo.out]; rfl, by rw [Nat.sub_self]; exact hM⟩
        case round =>
          clear hM
          obtain ⟨k, hk1, hk2, rfl, hM⟩ := hrel
          by_cases hk : k ≤ hi s
          · have hk8 : k < 8 := by rw [Hhi.out] at hk; omega
            have i1 : (k : Int) ≤ s := by rw [Hhi.out] at hk; omega
            have i0 : (0 : Int) ≤ k := by omega
            have hpl := posd_lt s hlt k hk8 hk1 hk
            have hze := zig_even s hlt k hk8 hk1 hk
            have hzo := zig_odd s hlt k hk8 hk1 hk
            have HM := Lib.hid hM
            have hy0 := fun v => run_yield (P := Try.prog) (args := #[.int .i64 v]) hM.L rfl
            simp only [ordRec] at hy0
            have hp : posd s + (k + 1 - lo s) = posd s + (k - lo s) + 1 := by omega
            have Hp := Lib.hid hp
            clear hp
            clear hM
            by_cases hpar : s % 2 = 0
            · have hz := Lib.hid (hze hpar)
              have hpar' : (s : Int) % 2 = 0 := by omega
              have hpb : ((s : Int) % 2 == 0) = true := by simp; omega
              clear hze hzo hpar hpar'
              gi_wp2
              rw [← hz.out]
              refine (ordRound asg bd Hab.out F (n - 1) fn hfn B C l D _ w0 wr hB HC.out HD.out HL.out hpl HM.out).mono ?_
              rintro e W1 ⟨rfl, hM1⟩
              clear hy0
              gi_wp2
              exact ⟨⟨k + 1, by omega, by omega, by go_num, by rw [Hp.out]; exact hM1⟩, by simp [intOf]; omega⟩
            · have hz := Lib.hid (hzo (by omega))
              have hpb : ((s : Int) % 2 == 0) = false := by simp; omega
              clear hze hzo hpar
              gi_wp2
              rw [← hz.out]
              refine (ordRound asg bd Hab.out F (n - 1) fn hfn B C l D _ w0 wr hB HC.out HD.out HL.out hpl HM.out).mono ?_
              rintro e W1 ⟨rfl, hM1⟩
              clear hy0
              gi_wp2
              exact ⟨⟨k + 1, by omega, by omega, by go_num, by rw [Hp.out]; exact hM1⟩, by simp [intOf]; omega⟩
          · have hke : k = hi s + 1 := by omega
            have hp : posd (s + 1) = posd s + (k - lo s) := by rw [hke]; rfl
            have Hp := Lib.hid hp
            clear hp
            have i1 : (s : Int) < (k : Int) := by have := Hhi.out; omega
            clear hke
            gi_wp2
            exact ⟨⟨s + 1, by omega, by go_num, by rw [Hp.out]; exact hM⟩, by simp [intOf]; omega⟩
      · have hlo : lo s = s - 7 := by unfold lo; omega
        have hhi : hi s = 7 := by unfold hi; omega
        have Hlo := Lib.hid hlo
        have Hhi := Lib.hid hhi
        clear hlo hhi
        gi_wp2
        gi_loopw [5] (fun s5 wr => ∃ k : Nat, lo s ≤ k ∧ k ≤ hi s + 1 ∧ s5 = .int .i64 (k : Int) ∧ Mid asg bd fn B C l D (posd s + (k - lo s)) w0 wr) (fun s5 _ => 9 - (intOf s5).toNat)
        case atStart => exact ⟨lo s, Nat.le_refl _, by rw [Hlo.out, Hhi.out]; omega, by rw [Hlo.out]; exact congrArg (Value.int .i64) (by omega), by rw [Nat.sub_self]; exact hM⟩
        case round =>
          clear hM
          obtain ⟨k, hk1, hk2, rfl, hM⟩ := hrel
          by_cases hk : k ≤ hi s
          · have hk8 : k < 8 := by rw [Hhi.out] at hk; omega
            have i1 : (k : Int) ≤ 7 := by rw [Hhi.out] at hk; omega
            have i0 : (0 : Int) ≤ k := by omega
            have hpl := posd_lt s hlt k hk8 hk1 hk
            have hze := zig_even s hlt k hk8 hk1 hk
            have hzo := zig_odd s hlt k hk8 hk1 hk
            have HM := Lib.hid hM
            have hy0 := fun v => run_yield (P := Try.prog) (args := #[.int .i64 v]) hM.L rfl
            simp only [ordRec] at hy0
            have hp : posd s + (k + 1 - lo s) = posd s + (k - lo s) + 1 := by omega
            have Hp := Lib.hid hp
            clear hp
            clear hM
            by_cases hpar : s % 2 = 0
            · have hz := Lib.hid (hze hpar)
              have hpar' : (s : Int) % 2 = 0 := by omega
              have hpb : ((s : Int) % 2 == 0) = true := by simp; omega
              clear hze hzo hpar hpar'
              gi_wp2
              rw [← hz.out]
              refine (ordRound asg bd Hab.out F (n - 1) fn hfn B C l D _ w0 wr hB HC.out HD.out HL.out hpl HM.out).mono ?_
              rintro e W1 ⟨rfl, hM1⟩
              clear hy0
              gi_wp2
              exact ⟨⟨k + 1, by omega, by omega, by go_num, by rw [Hp.out]; exact hM1⟩, by simp [intOf]; omega⟩
            · have hz := Lib.hid (hzo (by omega))
              have hpb : ((s : Int) % 2 == 0) = false := by simp; omega
              clear hze hzo hpar
              gi_wp2
              rw [← hz.out]
              refine (ordRound asg bd Hab.out F (n - 1) fn hfn B C l D _ w0 wr hB HC.out HD.out HL.out hpl HM.out).mono ?_
              rintro e W1 ⟨rfl, hM1⟩
              clear hy0
              gi_wp2
              exact ⟨⟨k + 1, by omega, by omega, by go_num, by rw [Hp.out]; exact hM1⟩, by simp [intOf]; omega⟩
          · have hke : k = hi s + 1 := by omega
            have hp : posd (s + 1) = posd s + (k - lo s) := by rw [hke]; rfl
            have Hp := Lib.hid hp
            clear hp
            have i1 : (7 : Int) < (k : Int) := by have := Hhi.out; omega
            clear hke
            gi_wp2
            exact ⟨⟨s + 1, by omega, by go_num, by rw [Hp.out]; exact hM⟩, by simp [intOf]; omega⟩
    · have hs15 : s = 15 := by omega
      subst hs15
      have HM := Lib.hid hM
      clear hM
      gi_wp2
      first | go_end0 | go_ret
      exact ⟨⟨_, rfl⟩, by have := HM.out; rwa [posd_end] at this⟩
end Go.Proofs.Ytckkncblbagfmaa
