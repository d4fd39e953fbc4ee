/- Markers, scans, segments (no program in sight). -/
import Derived.Test.YtfohajgljjffgaaOc
namespace Go.Proofs.Ytfohajgljjffgaa
open Go.RowKit
open Go.Tin
set_option linter.unusedVariables false
set_option linter.unusedSimpArgs false


def aloB (m : Int) : Bool := m == 216 || m == 217
def rstB (m : Int) : Bool := decide (208 ≤ m) && decide (m < 216)
def hdB (m : Int) : Bool := decide (192 ≤ m) && (decide (m < 255) && (!aloB m && !rstB m))
/-- How many bytes at the beginning are a scan's. -/
def scL : List Int → Nat
  | [] => 0
  | [x] => if x = 255 then 0 else 1
  | x :: y :: t => if x = 255 ∧ y ≠ 0 ∧ rstB y = false then 0 else scL (y :: t) + 1
theorem scL_le : ∀ l : List Int, scL l ≤ l.length
  | [] => Nat.le_refl _
  | [x] => by unfold scL; split <;> simp
  | x :: y :: t => by
    have := scL_le (y :: t)
    unfold scL
    split
    · simp
    · simp only [List.length_cons] at this ⊢; omega
theorem drop_nth {l : List Int} {i : Nat} (h : i < l.length) : l.drop i = nth l i :: l.drop (i + 1) := by
  rw [List.drop_eq_getElem_cons h]
  unfold nth
  rw [List.getD_eq_getElem?_getD, List.getElem?_eq_getElem h]
  rfl
theorem scL_stop {l : List Int} {i : Nat} (h : i + 1 < l.length) (h1 : nth l i = 255) (h2 : nth l (i + 1) ≠ 0) (h3 : rstB (nth l (i + 1)) = false) : scL (l.drop i) = 0 := by
  rw [drop_nth (show i < l.length by omega), drop_nth h]
  unfold scL
  rw [if_pos ⟨h1, h2, h3⟩]
theorem scL_go {l : List Int} {i : Nat} (h : i + 1 < l.length) (hn : ¬ (nth l i = 255 ∧ nth l (i + 1) ≠ 0 ∧ rstB (nth l (i + 1)) = false)) : scL (l.drop i) = scL (l.drop (i + 1)) + 1 := by
  rw [drop_nth (show i < l.length by omega)]
  rw [drop_nth h]
  conv => lhs; unfold scL
  rw [if_neg hn]
theorem scL_last {l : List Int} {i : Nat} (h : i + 1 = l.length) : scL (l.drop i) = if nth l i = 255 then 0 else 1 := by
  rw [drop_nth (show i < l.length by omega), List.drop_eq_nil_of_le (by omega)]
  rfl
theorem scL_end {l : List Int} {i : Nat} (h : l.length ≤ i) : scL (l.drop i) = 0 := by
  rw [List.drop_eq_nil_of_le h]
  rfl
/-- A segment: its marker, its bytes, its scan. -/
structure Sg where
  m : Int
  d : List Int
  s : List Int
/-- What stands at a place of a stream: the marker, or what is wrong, and where. -/
inductive Lm where
  | err (p e : Int)
  | ok (m : Int)
def badM (a : Nat) (m : Int) : Bool := (decide (a = 0) != (m == 216)) || (!(m == 217) && (!decide (a = 0) && !hdB m))
def lexM (l : List Int) (a : Nat) : Lm :=
  if l.length ≤ a then .err l.length 3
  else if nth l a ≠ 255 then .err a 2
  else if l.length ≤ a + 1 then .err l.length 3
  else if badM a (nth l (a + 1)) = true then .err a 2
  else .ok (nth l (a + 1))
inductive Ls where
  | err (p e : Int)
  | ok (d s : List Int) (a : Nat)
def lenS (l : List Int) (a : Nat) : Int := nth l a * 256 + nth l (a + 1)
def lexS (l : List Int) (a : Nat) (m : Int) : Ls :=
  if aloB m = true then .ok [] [] a
  else if l.length < a + 2 then .err l.length 3
  else if lenS l a < 2 then .err a 2
  else if (l.length : Int) < a + lenS l a then .err l.length 3
  else if m = 218 then .ok ((l.drop (a + 2)).take ((lenS l a).toNat - 2)) ((l.drop (a + (lenS l a).toNat)).take (scL (l.drop (a + (lenS l a).toNat)))) (a + (lenS l a).toNat + scL (l.drop (a + (lenS l a).toNat)))
  else .ok ((l.drop (a + 2)).take ((lenS l a).toNat - 2)) [] (a + (lenS l a).toNat)
inductive Lo where
  | err (p e : Int)
  | ok (L : List Sg) (a : Nat)
/-- The segments from a place on, behind some. -/
def lexO (l : List Int) : Nat → Nat → List Sg → Lo
  | 0, _, _ => .err 0 0
  | n + 1, a, acc =>
    match lexM l a with
    | .err p e => .err p e
    | .ok m =>
      match lexS l (a + 2) m with
      | .err p e => .err p e
      | .ok d s a' => if m = 217 then .ok (acc ++ [⟨m, d, s⟩]) a' else lexO l n a' (acc ++ [⟨m, d, s⟩])
def ofR (l : List Int) : Lo := lexO l (l.length + 1) 0 []
theorem lexM_ok {l : List Int} {a : Nat} {m : Int} (h : lexM l a = .ok m) : a + 2 ≤ l.length ∧ nth l a = 255 ∧ m = nth l (a + 1) ∧ badM a m = false := by
  unfold lexM at h
  split at h
  · cases h
  · split at h
    · cases h
    · split at h
      · cases h
      · split at h
        · cases h
        · rename_i h1 h2 h3 h4
          injection h with h
          subst h
          exact ⟨by omega, by simpa using h2, rfl, by simpa using h4⟩
theorem lexS_le {l : List Int} {a : Nat} {m : Int} {d s : List Int} {a' : Nat} (ha : a ≤ l.length) (h : lexS l a m = .ok d s a') : a ≤ a' ∧ a' ≤ l.length := by
  unfold lexS at h
  split at h
  · injection h with _ _ h; omega
  · split at h
    · cases h
    · split at h
      · cases h
      · split at h
        · cases h
        · rename_i h1 h2 h3 h4
          have := scL_le (l.drop (a + (lenS l a).toNat))
          rw [List.length_drop] at this
          split at h
          · injection h with _ _ h; omega
          · injection h with _ _ h; omega
/-- The cells of segments: each slice as told. -/
inductive SgV (P : Value → List Int → Prop) : List Value → List Sg → Prop
  | nil : SgV P [] []
  | cons {m : Int} {v u : Value} {d s : List Int} {xs : List Value} {L : List Sg} : P v d → P u s → SgV P xs L → SgV P (.int .i64 m :: v :: u :: xs) (⟨m, d, s⟩ :: L)
theorem SgV.len {P : Value → List Int → Prop} {xs : List Value} {L : List Sg} (h : SgV P xs L) : xs.length = L.length * 3 := by
  induction h with
  | nil => rfl
  | cons _ _ _ ih => simp only [List.length_cons, ih]; omega
theorem SgV.mono {P Q : Value → List Int → Prop} (hpq : ∀ v l, P v l → Q v l) {xs : List Value} {L : List Sg} (h : SgV P xs L) : SgV Q xs L := by
  induction h with
  | nil => exact .nil
  | cons h1 h2 _ ih => exact .cons (hpq _ _ h1) (hpq _ _ h2) ih
theorem SgV.app {P : Value → List Int → Prop} {xs ys : List Value} {L M : List Sg} (h : SgV P xs L) (h' : SgV P ys M) : SgV P (xs ++ ys) (L ++ M) := by
  induction h with
  | nil => exact h'
  | cons h1 h2 _ ih => exact .cons h1 h2 ih
theorem SgV.one {P : Value → List Int → Prop} {m : Int} {v u : Value} {d s : List Int} (h1 : P v d) (h2 : P u s) : SgV P [.int .i64 m, v, u] [⟨m, d, s⟩] := .cons h1 h2 .nil
theorem SgV.drop {P : Value → List Int → Prop} {xs : List Value} {L : List Sg} (h : SgV P xs L) : ∀ i, SgV P (xs.drop (i * 3)) (L.drop i) := by
  induction h with
  | nil => intro i; simp; exact .nil
  | cons h1 h2 h3 ih =>
    intro i
    cases i with
    | zero => exact .cons h1 h2 h3
    | succ i =>
      have := ih i
      rw [show (i + 1) * 3 = i * 3 + 3 by omega]
      exact this
theorem SgV.take {P : Value → List Int → Prop} {xs : List Value} {L : List Sg} (h : SgV P xs L) : ∀ i, SgV P (xs.take (i * 3)) (L.take i) := by
  induction h with
  | nil => intro i; simp; exact .nil
  | cons h1 h2 h3 ih =>
    intro i
    cases i with
    | zero => exact .nil
    | succ i =>
      have := ih i
      rw [show (i + 1) * 3 = i * 3 + 3 by omega]
      exact .cons h1 h2 this
theorem SgV.at_ {P : Value → List Int → Prop} {xs : List Value} {L : List Sg} (h : SgV P xs L) (i : Nat) (hi : i < L.length) : ∃ v u, (xs.drop (i * 3)).take 3 = [.int .i64 L[i].m, v, u] ∧ P v L[i].d ∧ P u L[i].s := by
  have hd := h.drop i
  rw [List.drop_eq_getElem_cons hi] at hd
  generalize hx : xs.drop (i * 3) = ys at hd
  generalize hL : L[i] = z at hd ⊢
  cases hd with
  | cons h1 h2 _ => exact ⟨_, _, rfl, h1, h2⟩
end Go.Proofs.Ytfohajgljjffgaa
