/- The contract of Put, by the writer's bits; what it refuses. -/
import Derived.Test.YtoclmeblbjpilaaBiR
namespace Go.Proofs.Ytoclmeblbjpilaa
open Go.RowKit
open Go.Tin
set_option linter.unusedVariables false
set_option linter.unusedSimpArgs false


theorem drop_whole (L X : List Int) (v : Int) (n : Nat) (hX : X = L.drop (8 * (L.length / 8)) ++ low v n) :
    (L ++ low v n).length / 8 = L.length / 8 + X.length / 8 ∧ (L ++ low v n).length % 8 = X.length % 8 ∧ (L ++ low v n).drop (8 * ((L ++ low v n).length / 8)) = X.drop (8 * (X.length / 8)) ∧ pck (L ++ low v n) = pck L ++ pckN X (X.length / 8) := by
  have hl : (L ++ low v n).length = L.length + n := by rw [List.length_append, low_len]
  have hx : X.length = L.length % 8 + n := by rw [hX, List.length_append, List.length_drop, low_len]; omega
  have e1 : (L ++ low v n).length / 8 = L.length / 8 + X.length / 8 := by omega
  have hA : (L.take (8 * (L.length / 8))).length = 8 * (L.length / 8) := by rw [List.length_take]; omega
  have hw : L ++ low v n = L.take (8 * (L.length / 8)) ++ X := by rw [hX, ← List.append_assoc, List.take_append_drop]
  refine ⟨e1, by omega, ?_, ?_⟩
  · rw [e1, hw, List.drop_append, List.drop_eq_nil_of_le (by rw [hA]; omega), List.nil_append, hA]
    congr 1
    omega
  · unfold pck
    have h5 := pckN_app (L.take (8 * (L.length / 8))) (L.drop (8 * (L.length / 8))) _ hA 0
    rw [List.take_append_drop, Nat.add_zero, show pckN (L.drop (8 * (L.length / 8))) 0 = [] from rfl, List.append_nil] at h5
    rw [e1, hw, pckN_app _ X _ hA, ← h5]
theorem WS.gt {w : World} {B g : Nat} {A : Option Addr} {c : Nat} {L : List Int} (h : WS w B g A c L) : g < w.heap.size := by
  rcases Nat.lt_or_ge g w.heap.size with h1 | h1
  · exact h1
  · have := h.row; rw [Array.getElem?_eq_none h1] at this; cases this
theorem put_any (w : World) (B g : Nat) (A : Option Addr) (c : Nat) (L : List Int) (h : WS w B g A c L) (v : Int) (n : Nat) (hn : n ≤ 16) (wv : (Lit.int .i64 v).wf = true) (hl : L.length + n ≤ 100000) (hB : B ≤ w.heap.size) :
    Calls Try.prog 8 #[.pointer (some ⟨g, 0, none⟩), .int .i64 v, .int .i64 (n : Int)] w fun e w' => ∃ A' c', e = .returned (.bool true) ∧ WS w' B g A' c' (L ++ low v n) ∧ Fr w w' g (ob A) ∧ How w A A' := by
  have hpl : (pck L).length = L.length / 8 := pckN_len _ _
  obtain ⟨T, hT⟩ : ∃ T, T = L.drop (8 * (L.length / 8)) := ⟨_, rfl⟩
  have hTl : T.length = L.length % 8 := by rw [hT, List.length_drop]; omega
  have hw := drop_whole L (T ++ low v n) v n (by rw [hT])
  have hrow := h.row
  have hown := h.own
  rw [← hpl] at hown
  rw [← hT, ← hTl, ← hpl] at hrow
  refine (put_yes w B g A c (pck L) T v n (fun x hx => h.bits x (by rw [hT] at hx; exact List.mem_of_mem_drop hx)) (by omega) hn wv hrow hown (by have := h.ne; rw [ob_eq] at this; exact this) (by omega) hB _ rfl).mono ?_
  rintro e w' ⟨A', c', rfl, hp⟩
  have h1 := hp.row
  have h2 := hp.own
  rw [hpl, ← hw.1] at h1 h2
  rw [← hw.2.1, ← hw.2.2.1] at h1
  rw [← hw.2.2.2] at h2
  refine ⟨A', c', rfl, ⟨h1, h2, by rw [ob_eq]; exact hp.ne, fun x hx => ?_, by rw [List.length_append, low_len]; exact hl⟩, hp.fr, hp.how⟩
  rcases List.mem_append.1 hx with h | h'
  · exact ‹WS w B g A c L›.bits x h
  · exact low_bit v n x h'
theorem put_no (w : World) (g : Nat) (v n : Int) (hn : n < 0 ∨ 16 < n) :
    Calls Try.prog 8 #[.pointer (some ⟨g, 0, none⟩), .int .i64 v, .int .i64 n] w fun e w' => e = .returned (.bool false) ∧ Below w.heap.size w w' := by
  by_cases h1 : n < 0
  · have f1 : decide (n < 0) = true := decide_eq_true h1
    clear hn
    go_enter Try.func8, Try.ntmps8
    go_wp2_with fail
    go_ret
    exact ⟨rfl, brefl w⟩
  · have f1 : decide (n < 0) = false := decide_eq_false h1
    have f2 : decide (16 < n) = true := decide_eq_true (by omega)
    clear hn
    go_enter Try.func8, Try.ntmps8
    go_wp2_with fail
    go_ret
    exact ⟨rfl, brefl w⟩
end Go.Proofs.Ytoclmeblbjpilaa
