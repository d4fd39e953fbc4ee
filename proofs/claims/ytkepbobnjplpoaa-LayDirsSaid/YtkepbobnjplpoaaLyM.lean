/- Trees of directories, and their spots (no program in sight). -/
import Derived.Test.YtkepbobnjplpoaaTy
import Derived.Test.YtkepbobnjplpoaaEnA
namespace Go.Proofs.Ytkepbobnjplpoaa
open Go.RowKit
open Go.Tin
set_option linter.unusedVariables false
set_option linter.unusedSimpArgs false


/-- A tag: its number, its value's type, count and bytes. -/
structure Tg where
  n : Int
  t : Int
  c : Int
  d : List Int
/-- A row of directories, each behind a number: tags, blob, the row within it; the rest of the row. -/
inductive Fo where
  | nil
  | cons (tag : Int) (ts : List Tg) (bl : List Int) (sub rest : Fo)
def Fo.len : Fo → Nat
  | .nil => 0
  | .cons _ _ _ _ r => r.len + 1
def Fo.cnt : Fo → Nat
  | .nil => 0
  | .cons _ _ _ s r => s.cnt + 1 + r.cnt
theorem Fo.len_cnt : ∀ f : Fo, f.len ≤ f.cnt
  | .nil => Nat.le_refl _
  | .cons _ _ _ s r => by
    have := len_cnt r
    simp only [len, cnt]; omega
def entN (ts : List Tg) (bl : List Int) (sub : Fo) : Nat := ts.length + sub.len + (if 0 < bl.length then 2 else 0)
/-- A spot. -/
structure Sp where
  w : Int
  i : Int
  t : Int
  a : Int
  l : Int
def endL (l : List Sp) : Int := match l.getLast? with
  | none => 0
  | some s => s.a + s.l
def wth (l : List Sp) (w i t n : Int) : List Sp := l ++ [⟨w, i, t, evenN (endL l), n⟩]
theorem endL_snoc (l : List Sp) (s : Sp) : endL (l ++ [s]) = s.a + s.l := by
  unfold endL; rw [List.getLast?_append]; rfl
theorem endL_wth (l : List Sp) (w i t n : Int) : endL (wth l w i t n) = evenN (endL l) + n := endL_snoc _ _
theorem wth_len (l : List Sp) (w i t n : Int) : (wth l w i t n).length = l.length + 1 := by unfold wth; simp
theorem evenN_bd (n : Int) : n ≤ evenN n ∧ evenN n ≤ n + 1 := by unfold evenN; omega
def tagsL (l : List Sp) (no : Int) : List Tg → List Sp
  | [] => l
  | t :: ts => tagsL (if 0 < ouE t.t t.c then wth l 3 no t.n (ouE t.t t.c) else l) no ts
def blobL (l : List Sp) (no : Int) (bl : List Int) : List Sp := if 0 < bl.length then wth l 4 no 0 bl.length else l
def layF (l : List Sp) (no : Nat) : Fo → List Sp
  | .nil => l
  | .cons _ ts bl sub rest => layF (blobL (layF (tagsL (wth l 2 no 0 (6 + 12 * (entN ts bl sub : Int))) no ts) (no + 1) sub) no bl) (no + 1 + sub.cnt) rest
def mayD (ts : List Tg) (bl : List Int) (sub : Fo) : Bool := decide (1 ≤ entN ts bl sub) && (decide (entN ts bl sub ≤ 65535) && ts.all fun t => mayV t.t t.c t.d)
def mayF : Fo → Bool
  | .nil => true
  | .cons _ ts bl sub rest => mayD ts bl sub && (mayF sub && mayF rest)
def headL : List Sp := wth [] 1 (-1) 0 8
def okF (f : Fo) : Bool := mayF f && decide (endL (layF headL 0 f) ≤ 4294967295)
def ofF (f : Fo) : List Sp := if okF f then layF headL 0 f else []
def longF (f : Fo) : Int := endL (ofF f)
/-- A directory alone. -/
structure Di where
  ts : List Tg
  bl : List Int
  sub : Fo
def flatF : Fo → List Di
  | .nil => []
  | .cons _ ts bl sub rest => ⟨ts, bl, sub⟩ :: (flatF sub ++ flatF rest)
theorem flatF_len : ∀ f : Fo, (flatF f).length = f.cnt
  | .nil => rfl
  | .cons _ _ _ s r => by
    have h1 := flatF_len s
    have h2 := flatF_len r
    simp only [flatF, Fo.cnt, List.length_cons, List.length_append]; omega
theorem mayF_flat : ∀ f : Fo, mayF f = (flatF f).all fun d => mayD d.ts d.bl d.sub
  | .nil => rfl
  | .cons _ ts bl s r => by
    rw [mayF, flatF, mayF_flat s, mayF_flat r]
    simp [List.all_cons, List.all_append]
theorem tagsL_len (l : List Sp) (no : Int) : ∀ ts : List Tg, l.length ≤ (tagsL l no ts).length ∧ (tagsL l no ts).length ≤ l.length + ts.length := by
  intro ts
  induction ts generalizing l with
  | nil => exact ⟨Nat.le_refl _, Nat.le_refl _⟩
  | cons t ts ih =>
    rw [tagsL]
    by_cases h : 0 < ouE t.t t.c
    · rw [if_pos h]
      have := ih (wth l 3 no t.n (ouE t.t t.c))
      rw [wth_len] at this
      simp only [List.length_cons]; omega
    · rw [if_neg h]
      have := ih l
      simp only [List.length_cons]; omega
/-- Bounds: no directory of the row, nor within it, has more than so many tags, or bytes of a blob. -/
def smF : Fo → Prop
  | .nil => True
  | .cons _ ts bl sub rest => ts.length ≤ 60 ∧ bl.length ≤ 600 ∧ sub.len ≤ 6 ∧ (∀ t ∈ ts, t.d.length ≤ 600) ∧ smF sub ∧ smF rest
theorem ouE_bd (k c : Int) : 0 ≤ ouE k c ∧ ouE k c ≤ 1000000 := by
  have := lgE_bd k c
  unfold ouE
  split <;> omega
theorem tagsL_end (l : List Sp) (no : Int) : ∀ ts : List Tg, endL l ≤ endL (tagsL l no ts) ∧ endL (tagsL l no ts) ≤ endL l + 1000001 * ts.length := by
  intro ts
  induction ts generalizing l with
  | nil => exact ⟨Int.le_refl _, by simp [tagsL]⟩
  | cons t ts ih =>
    rw [tagsL]
    have hb := ouE_bd t.t t.c
    by_cases h : 0 < ouE t.t t.c
    · rw [if_pos h]
      have := ih (wth l 3 no t.n (ouE t.t t.c))
      rw [endL_wth] at this
      have he := evenN_bd (endL l)
      simp only [List.length_cons]; omega
    · rw [if_neg h]
      have := ih l
      simp only [List.length_cons]; omega
theorem blobL_end (l : List Sp) (no : Int) (bl : List Int) : endL l ≤ endL (blobL l no bl) ∧ endL (blobL l no bl) ≤ endL l + 1 + bl.length ∧ l.length ≤ (blobL l no bl).length ∧ (blobL l no bl).length ≤ l.length + 1 := by
  unfold blobL
  have he := evenN_bd (endL l)
  split
  · rw [endL_wth, wth_len]; omega
  · omega
theorem entN_bd {ts : List Tg} {bl : List Int} {sub : Fo} (h1 : ts.length ≤ 60) (h2 : sub.len ≤ 6) : entN ts bl sub ≤ 68 := by
  unfold entN; split <;> omega
/-- How far the spots of a row go, and how many there are. -/
theorem layF_bd : ∀ (f : Fo) (l : List Sp) (no : Nat), smF f → endL l ≤ endL (layF l no f) ∧ endL (layF l no f) ≤ endL l + 100000000 * (f.cnt : Int) ∧ l.length ≤ (layF l no f).length ∧ (layF l no f).length ≤ l.length + 62 * f.cnt
  | .nil, l, no, _ => by simp [layF, Fo.cnt]
  | .cons tag ts bl sub rest, l, no, h => by
    obtain ⟨h1, h2, h3, _, h4, h5⟩ := h
    rw [layF]
    generalize hl1 : wth l 2 no 0 (6 + 12 * (entN ts bl sub : Int)) = l1
    have e1 : endL l ≤ endL l1 ∧ endL l1 ≤ endL l + 1000 ∧ l1.length = l.length + 1 := by
      rw [← hl1, endL_wth, wth_len]
      have := evenN_bd (endL l)
      have := entN_bd (bl := bl) h1 h3
      omega
    generalize hl2 : tagsL l1 no ts = l2
    have e2 := tagsL_end l1 no ts
    have e2' := tagsL_len l1 no ts
    rw [hl2] at e2 e2'
    have e3 := layF_bd sub l2 (no + 1) h4
    generalize layF l2 (no + 1) sub = l3 at *
    have e4 := blobL_end l3 no bl
    generalize blobL l3 no bl = l4 at *
    have e5 := layF_bd rest l4 (no + 1 + sub.cnt) h5
    generalize layF l4 (no + 1 + sub.cnt) rest = l5 at *
    simp only [Fo.cnt]
    push_cast
    refine ⟨by omega, by omega, by omega, by omega⟩
end Go.Proofs.Ytkepbobnjplpoaa
