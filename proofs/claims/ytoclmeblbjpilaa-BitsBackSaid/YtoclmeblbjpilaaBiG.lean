/- The contracts of a Reader: what may not be taken; New; Filled. -/
import Derived.Test.YtoclmeblbjpilaaBiF
namespace Go.Proofs.Ytoclmeblbjpilaa
open Go.RowKit
open Go.Tin
set_option linter.unusedVariables false
set_option linter.unusedSimpArgs false


set_option maxRecDepth 100000 in
set_option maxHeartbeats 1000000 in
theorem take_no (w : World) (g : Nat) (A : Option Addr) (c : Nat) (D : List Int) (k : Nat) (n : Int) (h : RS w g A c D k) (hn : n < 0 ∨ 16 < n ∨ ((8 * D.length - k : Nat) : Int) < n) :
    Calls Try.prog 21 #[.pointer (some ⟨g, 0, none⟩), .int .i64 n] w fun e w' => e = .returned (.tuple #[.int .i64 0, .bool false]) ∧ Below w.heap.size w w' := by
  have HL := Lib.hid (left_any w g A c D k h)
  clear h
  generalize 8 * D.length - k = M at *
  by_cases h1 : n < 0
  · have f1 : decide (n < 0) = true := decide_eq_true h1
    clear hn
    go_enter Try.func21, Try.ntmps21
    go_wp2_with fail
    go_ret2
    exact ⟨rfl, brefl w⟩
  · have f1 : decide (n < 0) = false := decide_eq_false h1
    by_cases h2 : 16 < n
    · have f2 : decide (16 < n) = true := decide_eq_true h2
      clear hn
      go_enter Try.func21, Try.ntmps21
      go_wp2_with fail
      go_ret2
      exact ⟨rfl, brefl w⟩
    · have f2 : decide (16 < n) = false := decide_eq_false h2
      have f3 : (M : Int) < n := by omega
      have f4 : decide ((M : Int) < n) = true := decide_eq_true f3
      clear hn
      go_enter Try.func21, Try.ntmps21
      go_wp2_with fail
      refine HL.out.mono ?_
      rintro e w2 ⟨rfl, hb2⟩
      go_wp2_with fail
      go_ret2
      exact ⟨rfl, hb2⟩

theorem new_any (A : Option Addr) (l : List Int) (c : Nat) (w : World) (hs : Sl .u8 w A l) (hl : l.length ≤ 1000000) (hy : BY l) :
    Calls Try.prog 14 #[.slice A l.length c] w fun e w' => ∃ g A' c', e = .returned (.pointer (some ⟨g, 0, none⟩)) ∧ w.heap.size ≤ g ∧ g < w'.heap.size ∧ RS w' g A' c' (pln l).1 0 ∧ Below w.heap.size w w' := by
  have HP := Lib.hid (plain_any A l c w hs (by omega))
  have hd := pln_le _ l (Nat.le_refl _)
  have HY := Lib.hid hy.pln
  have HD := Lib.hid (show (pln l).1.length ≤ 1000000 by omega)
  clear hs hd hy hl
  generalize pln l = R at *
  go_enter Try.func14, Try.ntmps14
  go_wp2_with fail
  refine HP.out.mono ?_
  rintro e w2 ⟨A2, c2, rfl, ho, hb⟩
  have HO := Lib.hid ho
  clear ho
  go_wp2_with fail
  go_ret
  refine ⟨w2.heap.size, A2, c2, rfl, hb.size, by simp, ⟨heap_alloc_new w2 _, (HO.out.alloc _).sl'.2, ?_, by omega, HD.out, HY.out⟩, ba hb _⟩
  intro a ha
  obtain ⟨A3, c3, h3, -, -, -, h4⟩ := HO.out.sl
  injection h3 with h5 _ _
  subst h5
  rcases h4 with ⟨h4, _⟩ | ⟨g, h4, _, h6⟩
  · rw [h4] at ha; cases ha
  · rw [h4] at ha
    injection ha with ha
    subst ha
    exact Nat.ne_of_lt h6
end Go.Proofs.Ytoclmeblbjpilaa
