/- Bits: what is stuffed, and what is data without stuffing (no program in sight). -/
import Derived.Test.YtoclmeblbjpilaaPsh
namespace Go.Proofs.Ytoclmeblbjpilaa
open Go.RowKit
open Go.Tin
set_option linter.unusedVariables false
set_option linter.unusedSimpArgs false


/-- With a nought behind each 255. -/
def stf (l : List Int) : List Int := l.flatMap fun c => if c = 255 then [255, 0] else [c]
theorem stf_nil : stf [] = [] := rfl
theorem stf_snoc (l : List Int) (c : Int) : stf (l ++ [c]) = if c = 255 then stf l ++ [c] ++ [0] else stf l ++ [c] := by
  unfold stf
  rw [List.flatMap_append]
  simp only [List.flatMap_cons, List.flatMap_nil, List.append_nil]
  split
  · rename_i h; subst h; simp
  · rfl
theorem stf_len (l : List Int) : l.length ≤ (stf l).length ∧ (stf l).length ≤ 2 * l.length := by
  induction l with
  | nil => simp [stf]
  | cons c l ih =>
    have e : stf (c :: l) = (if c = 255 then [255, 0] else [c]) ++ stf l := by simp [stf]
    rw [e]
    split <;> simp <;> omega
/-- The data at the beginning without stuffing, and how many bytes these take. -/
def pln : List Int → List Int × Nat
  | [] => ([], 0)
  | [c] => if c = 255 then ([], 0) else ([c], 1)
  | c :: d :: l => if c = 255 then (if d = 0 then (255 :: (pln l).1, (pln l).2 + 2) else ([], 0)) else (c :: (pln (d :: l)).1, (pln (d :: l)).2 + 1)
theorem pln_no {c : Int} {l : List Int} (h : c ≠ 255) : pln (c :: l) = (c :: (pln l).1, (pln l).2 + 1) := by
  cases l with
  | nil => simp [pln, h]
  | cons d l => simp [pln, h]
theorem pln_two (l : List Int) : pln (255 :: 0 :: l) = (255 :: (pln l).1, (pln l).2 + 2) := by simp [pln]
theorem pln_end : pln [255] = ([], 0) := by simp [pln]
theorem pln_other {d : Int} {l : List Int} (h : d ≠ 0) : pln (255 :: d :: l) = ([], 0) := by simp [pln, h]
theorem pln_le : ∀ (n : Nat) (l : List Int), l.length ≤ n → (pln l).2 ≤ l.length ∧ (pln l).1.length ≤ (pln l).2
  | 0, [], _ => by simp [pln]
  | n + 1, [], _ => by simp [pln]
  | n + 1, [c], _ => by by_cases h : c = 255 <;> simp [pln, h]
  | n + 1, c :: d :: l, hn => by
    simp only [List.length_cons] at hn
    have h1 := pln_le n l (by omega)
    have h2 := pln_le n (d :: l) (by simp; omega)
    simp only [List.length_cons] at h2 ⊢
    by_cases h : c = 255
    · by_cases h0 : d = 0
      · simp [pln, h, h0]; omega
      · simp [pln, h, h0]
    · rw [pln_no h]; simp; omega
theorem drop_nth (l : List Int) (i : Nat) (h : i < l.length) : l.drop i = nth l i :: l.drop (i + 1) := by
  rw [List.drop_eq_getElem_cons h]
  simp [nth, List.getD_eq_getElem?_getD, h]
theorem take_snoc (l : List Int) (i : Nat) (h : i < l.length) : l.take (i + 1) = l.take i ++ [nth l i] := take_snoc_nth l i h
/-- What is left behind the data. -/
theorem pln_at {l : List Int} {u : Nat} {o : List Int} (hl : pln l = (o ++ (pln (l.drop u)).1, u + (pln (l.drop u)).2)) (hu : u < l.length) (h : nth l u ≠ 255) : pln l = (o ++ [nth l u] ++ (pln (l.drop (u + 1))).1, u + 1 + (pln (l.drop (u + 1))).2) := by
  rw [hl, drop_nth l u hu, pln_no h]
  simp
  omega
theorem pln_at2 {l : List Int} {u : Nat} {o : List Int} (hl : pln l = (o ++ (pln (l.drop u)).1, u + (pln (l.drop u)).2)) (hu : u + 1 < l.length) (h : nth l u = 255) (h0 : nth l (u + 1) = 0) : pln l = (o ++ [255] ++ (pln (l.drop (u + 2))).1, u + 2 + (pln (l.drop (u + 2))).2) := by
  rw [hl, drop_nth l u (by omega), drop_nth l (u + 1) hu, h, h0, show u + 1 + 1 = u + 2 from rfl, pln_two]
  simp
  omega
theorem pln_stop1 {l : List Int} {u : Nat} {o : List Int} (hl : pln l = (o ++ (pln (l.drop u)).1, u + (pln (l.drop u)).2)) (hu : u + 1 = l.length) (h : nth l u = 255) : pln l = (o, u) := by
  rw [hl, drop_nth l u (by omega), h, List.drop_eq_nil_of_le (show l.length ≤ u + 1 by omega), pln_end]
  simp
theorem pln_stop2 {l : List Int} {u : Nat} {o : List Int} (hl : pln l = (o ++ (pln (l.drop u)).1, u + (pln (l.drop u)).2)) (hu : u + 1 < l.length) (h : nth l u = 255) (h0 : nth l (u + 1) ≠ 0) : pln l = (o, u) := by
  rw [hl, drop_nth l u (by omega), drop_nth l (u + 1) hu, h, pln_other h0]
  simp
theorem pln_stop {l : List Int} {u : Nat} {o : List Int} (hl : pln l = (o ++ (pln (l.drop u)).1, u + (pln (l.drop u)).2)) (hu : u = l.length) : pln l = (o, u) := by
  rw [hl, List.drop_eq_nil_of_le (show l.length ≤ u by omega)]
  simp [pln]
end Go.Proofs.Ytoclmeblbjpilaa
