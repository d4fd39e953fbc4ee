/- What the spots of a tree are: how far they go, what lies beside them, what more directories change (no program in sight). -/
import Derived.Test.YtkepbobnjplpoaaLyN
namespace Go.Proofs.Ytkepbobnjplpoaa
open Go.RowKit
open Go.Tin
set_option linter.unusedVariables false
set_option linter.unusedSimpArgs false


theorem ouE_may {t : Tg} (h : mayV t.t t.c t.d = true) : ouE t.t t.c ≤ t.d.length := by
  unfold mayV at h
  simp only [Bool.and_eq_true, decide_eq_true_eq] at h
  obtain ⟨_, h1, h2, h3, _⟩ := h
  have := szT_bd t.t
  have h0 : 0 ≤ t.c * szT t.t := Int.mul_nonneg (by omega) this.1
  have e : lgE t.t t.c = t.c * szT t.t := by unfold lgE; rw [if_neg (by omega)]
  unfold ouE
  rw [e, h3]
  split
  · exact Int.le_refl _
  · exact h0
theorem tagsL_end2 (l : List Sp) (no : Int) : ∀ ts : List Tg, (∀ t ∈ ts, mayV t.t t.c t.d = true) → (∀ t ∈ ts, t.d.length ≤ 600) → endL l ≤ endL (tagsL l no ts) ∧ endL (tagsL l no ts) ≤ endL l + 601 * ts.length := by
  intro ts
  induction ts generalizing l with
  | nil => intro _ _; exact ⟨Int.le_refl _, by simp [tagsL]⟩
  | cons t ts ih =>
    intro hm hd
    rw [tagsL]
    have hb := ouE_bd t.t t.c
    have hb2 := ouE_may (hm t (List.mem_cons_self))
    have hb3 := hd t (List.mem_cons_self)
    have ih' := fun l => ih l (fun x hx => hm x (List.mem_cons_of_mem _ hx)) (fun x hx => hd x (List.mem_cons_of_mem _ hx))
    by_cases h : 0 < ouE t.t t.c
    · rw [if_pos h]
      have := ih' (wth l 3 no t.n (ouE t.t t.c))
      rw [endL_wth] at this
      have he := evenN_bd (endL l)
      simp only [List.length_cons]; omega
    · rw [if_neg h]
      have := ih' l
      simp only [List.length_cons]; omega
theorem mayD_all {ts : List Tg} {bl : List Int} {sub : Fo} (h : mayD ts bl sub = true) : ∀ t ∈ ts, mayV t.t t.c t.d = true := by
  unfold mayD at h
  simp only [Bool.and_eq_true, List.all_eq_true] at h
  exact h.2.2
theorem layF_bd2 : ∀ (f : Fo) (l : List Sp) (no : Nat), smF f → mayF f = true → endL l ≤ endL (layF l no f) ∧ endL (layF l no f) ≤ endL l + 40000 * (f.cnt : Int)
  | .nil, l, no, _, _ => by simp [layF, Fo.cnt]
  | .cons tag ts bl sub rest, l, no, h, hm => by
    obtain ⟨h1, h2, h3, h6, h4, h5⟩ := h
    rw [mayF, Bool.and_eq_true, Bool.and_eq_true] at hm
    obtain ⟨m1, m2, m3⟩ := hm
    rw [layF]
    generalize hl1 : wth l 2 no 0 (6 + 12 * (entN ts bl sub : Int)) = l1
    have e1 : endL l ≤ endL l1 ∧ endL l1 ≤ endL l + 1000 := by
      rw [← hl1, endL_wth]
      have := evenN_bd (endL l)
      have := entN_bd (bl := bl) h1 h3
      omega
    generalize hl2 : tagsL l1 no ts = l2
    have e2 := tagsL_end2 l1 no ts (mayD_all m1) h6
    rw [hl2] at e2
    have e3 := layF_bd2 sub l2 (no + 1) h4 m2
    generalize layF l2 (no + 1) sub = l3 at *
    have e4 := blobL_end l3 no bl
    generalize blobL l3 no bl = l4 at *
    have e5 := layF_bd2 rest l4 (no + 1 + sub.cnt) h5 m3
    generalize layF l4 (no + 1 + sub.cnt) rest = l5 at *
    simp only [Fo.cnt]
    push_cast
    refine ⟨by omega, by omega⟩
theorem okF_may {f : Fo} (hs : smF f) (hc : f.cnt ≤ 1000) : okF f = mayF f := by
  unfold okF
  cases hm : mayF f with
  | false => rfl
  | true =>
    have := (layF_bd2 f headL 0 hs hm).2
    rw [show endL headL = 8 from rfl] at this
    rw [Bool.true_and, decide_eq_true_eq]
    omega
theorem mayF_app : ∀ f g : Fo, mayF (f.app g) = (mayF f && mayF g)
  | .nil, g => by simp [Fo.app, mayF]
  | .cons _ ts bl s r, g => by rw [Fo.app, mayF, mayF, mayF_app r g, Bool.and_assoc, Bool.and_assoc]
theorem smF_app : ∀ {f g : Fo}, smF f → smF g → smF (f.app g)
  | .nil, g, _, h => h
  | .cons _ ts bl s r, g, h, h' => ⟨h.1, h.2.1, h.2.2.1, h.2.2.2.1, h.2.2.2.2.1, smF_app h.2.2.2.2.2 h'⟩
theorem layF_app : ∀ (f g : Fo) (l : List Sp) (no : Nat), layF l no (f.app g) = layF (layF l no f) (no + f.cnt) g
  | .nil, g, l, no => rfl
  | .cons _ ts bl s r, g, l, no => by
    rw [Fo.app, layF, layF, layF_app r g, Fo.cnt]
    congr 1
    omega
/-- A spot so many directories and places farther on. -/
def shS (k : Nat) (y : Int) (s : Sp) : Sp := ⟨s.w, s.i + k, s.t, s.a + y, s.l⟩
def Rel (A A' : List Sp) (k : Nat) (y : Int) (l l' : List Sp) : Prop := (∃ E, l = A ++ E ∧ l' = A' ++ E.map (shS k y)) ∧ evenN (endL l') = evenN (endL l) + y
theorem evenN_add {n y : Int} (h : y % 2 = 0) : evenN (n + y) = evenN n + y := by unfold evenN; omega
section
variable {A A' : List Sp} {k : Nat} {y : Int} (hy : y % 2 = 0)
include hy
theorem Rel.wth {l l' : List Sp} (h : Rel A A' k y l l') (w i t n : Int) : Rel A A' k y (wth l w i t n) (wth l' w (i + k) t n) := by
  obtain ⟨⟨E, rfl, rfl⟩, he⟩ := h
  refine ⟨⟨E ++ [⟨w, i, t, evenN (endL (A ++ E)), n⟩], ?_, ?_⟩, ?_⟩
  · exact List.append_assoc _ _ _
  · show (A' ++ E.map (shS k y)) ++ [⟨w, i + k, t, evenN (endL (A' ++ E.map (shS k y))), n⟩] = _
    rw [List.map_append, ← List.append_assoc, he]; rfl
  · rw [endL_wth, endL_wth, he, show evenN (endL (A ++ E)) + y + n = evenN (endL (A ++ E)) + n + y by omega, evenN_add hy]
theorem Rel.tags (no : Int) : ∀ (ts : List Tg) {l l' : List Sp}, Rel A A' k y l l' → Rel A A' k y (tagsL l no ts) (tagsL l' (no + k) ts)
  | [], _, _, h => h
  | t :: ts, l, l', h => by
    rw [tagsL, tagsL]
    by_cases h0 : 0 < ouE t.t t.c
    · rw [if_pos h0, if_pos h0]; exact Rel.tags no ts (h.wth hy _ _ _ _)
    · rw [if_neg h0, if_neg h0]; exact Rel.tags no ts h
theorem Rel.blob (no : Int) (bl : List Int) {l l' : List Sp} (h : Rel A A' k y l l') : Rel A A' k y (blobL l no bl) (blobL l' (no + k) bl) := by
  unfold blobL
  split
  · exact h.wth hy _ _ _ _
  · exact h
theorem Rel.lay : ∀ (f : Fo) (no : Nat) {l l' : List Sp}, Rel A A' k y l l' → Rel A A' k y (layF l no f) (layF l' (no + k) f)
  | .nil, no, _, _, h => h
  | .cons _ ts bl s r, no, l, l', h => by
    rw [layF, layF]
    have h1 := h.wth hy 2 no 0 (6 + 12 * (entN ts bl s : Int))
    have h2 := Rel.tags hy no ts h1
    have h3 := Rel.lay s (no + 1) h2
    have h4 := Rel.blob hy no bl h3
    have h5 := Rel.lay r (no + 1 + s.cnt) h4
    rw [show no + 1 + s.cnt + k = no + k + 1 + s.cnt by omega, show no + 1 + k = no + k + 1 by omega] at h5
    push_cast
    exact h5
end
theorem layF_pre : ∀ (f : Fo) (l : List Sp) (no : Nat), ∃ E, layF l no f = l ++ E := by
  have hw : ∀ (l : List Sp) (w i t n : Int), ∃ E, wth l w i t n = l ++ E := fun l w i t n => ⟨_, rfl⟩
  have ht : ∀ (no : Int) (ts : List Tg) (l : List Sp), ∃ E, tagsL l no ts = l ++ E := by
    intro no ts
    induction ts with
    | nil => intro l; exact ⟨[], by simp [tagsL]⟩
    | cons t ts ih =>
      intro l
      rw [tagsL]
      split
      · obtain ⟨E, hE⟩ := ih (wth l 3 no t.n (ouE t.t t.c))
        obtain ⟨E', hE'⟩ := hw l 3 no t.n (ouE t.t t.c)
        exact ⟨E' ++ E, by rw [hE, hE', List.append_assoc]⟩
      · exact ih l
  intro f
  induction f with
  | nil => intro l no; exact ⟨[], by simp [layF]⟩
  | cons tag ts bl s r ihs ihr =>
    intro l no
    rw [layF]
    obtain ⟨E1, h1⟩ := hw l 2 no 0 (6 + 12 * (entN ts bl s : Int))
    obtain ⟨E2, h2⟩ := ht no ts (wth l 2 no 0 (6 + 12 * (entN ts bl s : Int)))
    obtain ⟨E3, h3⟩ := ihs (tagsL (wth l 2 no 0 (6 + 12 * (entN ts bl s : Int))) no ts) (no + 1)
    have h4 : ∃ E4, blobL (layF (tagsL (wth l 2 no 0 (6 + 12 * (entN ts bl s : Int))) no ts) (no + 1) s) no bl = layF (tagsL (wth l 2 no 0 (6 + 12 * (entN ts bl s : Int))) no ts) (no + 1) s ++ E4 := by
      unfold blobL; split
      · exact hw _ _ _ _ _
      · exact ⟨[], by simp⟩
    obtain ⟨E4, h4⟩ := h4
    obtain ⟨E5, h5⟩ := ihr (blobL (layF (tagsL (wth l 2 no 0 (6 + 12 * (entN ts bl s : Int))) no ts) (no + 1) s) no bl) (no + 1 + s.cnt)
    exact ⟨E1 ++ (E2 ++ (E3 ++ (E4 ++ E5))), by rw [h5, h4, h3, h2, h1]; simp only [List.append_assoc]⟩
/-- With more directories at the chain's end. -/
theorem lay_grows (f g : Fo) : ∃ E, layF headL 0 g = headL ++ E ∧ layF headL 0 (f.app g) = layF headL 0 f ++ E.map (shS f.cnt (endL (layF headL 0 f) + endL (layF headL 0 f) % 2 - 8)) := by
  rw [layF_app, Nat.zero_add]
  have h0 : Rel headL (layF headL 0 f) f.cnt (endL (layF headL 0 f) + endL (layF headL 0 f) % 2 - 8) headL (layF headL 0 f) := by
    refine ⟨⟨[], by simp, by simp⟩, ?_⟩
    rw [show endL headL = 8 from rfl]
    unfold evenN
    omega
  have := Rel.lay (by omega) g 0 h0
  rw [Nat.zero_add] at this
  exact this.1

/-- What lies beside a spot: what LaySide asks of one, and of all behind it. -/
def sideC (L : List Di) (p : Sp) (e : Nat) (s : Sp) : Prop :=
  s.a % 2 = 0 ∧ p.a + p.l ≤ s.a ∧ s.a ≤ p.a + p.l + 1 ∧ 1 ≤ s.l ∧ 0 ≤ s.i ∧ ∃ h : s.i.toNat < L.length, (s.w = 2 → s.i = e ∧ s.l = 6 + 12 * (entN L[s.i.toNat].ts L[s.i.toNat].bl L[s.i.toNat].sub : Int)) ∧ (s.w = 4 → s.l = L[s.i.toNat].bl.length)
def nx (e : Nat) (s : Sp) : Nat := if s.w = 2 then e + 1 else e
def sideL (L : List Di) : Sp → Nat → List Sp → Nat → Prop
  | _, e, [], e' => e' = e
  | p, e, s :: r, e' => sideC L p e s ∧ sideL L s (nx e s) r e'
def lastS (p : Sp) (r : List Sp) : Sp := (p :: r).getLast (by simp)
theorem sideL_snoc {L : List Di} : ∀ (r : List Sp) (p : Sp) (e e' : Nat) (s : Sp), sideL L p e r e' → sideC L (lastS p r) e' s → sideL L p e (r ++ [s]) (nx e' s)
  | [], p, e, e', s, h, hc => by
    have h : e' = e := h
    subst h
    exact ⟨hc, rfl⟩
  | x :: r, p, e, e', s, h, hc => ⟨h.1, sideL_snoc r x (nx e x) e' s h.2 (by simpa [lastS] using hc)⟩
theorem lastS_snoc (p : Sp) (r : List Sp) (s : Sp) : lastS p (r ++ [s]) = s := by
  show ((p :: r) ++ [s]).getLast (by simp) = s
  exact List.getLast_concat
theorem endL_last (p : Sp) (r : List Sp) : endL (p :: r) = (lastS p r).a + (lastS p r).l := by
  unfold endL lastS
  rw [List.getLast?_eq_some_getLast (by simp)]
def hS : Sp := ⟨1, -1, 0, 0, 8⟩
/-- The spots so far: the header's, and what is in order behind it. -/
def Sd (L : List Di) (l : List Sp) (e : Nat) : Prop := ∃ r, l = hS :: r ∧ sideL L hS 0 r e
theorem evenN_mod (n : Int) : evenN n % 2 = 0 := by unfold evenN; omega
theorem Sd.wth {L : List Di} {l : List Sp} {e : Nat} (h : Sd L l e) (w : Int) (i : Nat) (t n : Int) (hn : 1 ≤ n) (hi : i < L.length)
    (h2 : w = 2 → i = e ∧ n = 6 + 12 * (entN L[i].ts L[i].bl L[i].sub : Int)) (h4 : w = 4 → n = L[i].bl.length) : Sd L (wth l w i t n) (if w = 2 then e + 1 else e) := by
  obtain ⟨r, rfl, hr⟩ := h
  refine ⟨r ++ [⟨w, i, t, evenN (endL (hS :: r)), n⟩], rfl, ?_⟩
  refine sideL_snoc r hS 0 e ⟨w, i, t, evenN (endL (hS :: r)), n⟩ hr ?_
  have hb := evenN_bd (endL (hS :: r))
  rw [endL_last] at hb
  refine ⟨evenN_mod _, by rw [endL_last]; exact hb.1, by rw [endL_last]; exact hb.2, hn, by show (0 : Int) ≤ (i : Int); omega, by show ((i : Int)).toNat < _; simpa using hi, ?_, ?_⟩
  · intro hw
    obtain ⟨a, b⟩ := h2 hw
    exact ⟨by rw [a], by simpa using b⟩
  · intro hw
    simpa using h4 hw
theorem Sd.tags {L : List Di} {e i : Nat} (hi : i < L.length) : ∀ (ts : List Tg) {l : List Sp}, Sd L l e → Sd L (tagsL l i ts) e
  | [], _, h => h
  | t :: ts, l, h => by
    rw [tagsL]
    by_cases h0 : 0 < ouE t.t t.c
    · rw [if_pos h0]
      exact Sd.tags hi ts (h.wth 3 i t.n _ (by omega) hi (fun h => by cases h) (fun h => by cases h))
    · rw [if_neg h0]; exact Sd.tags hi ts h
theorem Sd.blob {L : List Di} {e i : Nat} (hi : i < L.length) {l : List Sp} (h : Sd L l e) : Sd L (blobL l i L[i].bl) e := by
  unfold blobL
  split
  · exact h.wth 4 i 0 _ (by omega) hi (fun h => by cases h) (fun _ => rfl)
  · exact h
theorem drop_hd {L : List Di} {i : Nat} {d : Di} {R : List Di} (h : L.drop i = d :: R) : ∃ hi : i < L.length, L[i] = d := by
  have hi : i < L.length := by
    apply Classical.byContradiction
    intro hn
    rw [List.drop_eq_nil_of_le (by omega)] at h
    cases h
  refine ⟨hi, ?_⟩
  rw [List.drop_eq_getElem_cons hi] at h
  injection h
theorem drop_more {L : List Di} {i : Nat} {A R : List Di} (h : L.drop i = A ++ R) : L.drop (i + A.length) = R := by
  rw [← List.drop_drop, h, List.drop_left]
theorem Sd.lay {L : List Di} : ∀ (f : Fo) (no : Nat) (R : List Di) {l : List Sp}, L.drop no = flatF f ++ R → Sd L l no → Sd L (layF l no f) (no + f.cnt)
  | .nil, no, R, l, _, h => h
  | .cons tag ts bl s r, no, R, l, hd, h => by
    rw [layF]
    obtain ⟨hi, hx⟩ := drop_hd (R := flatF s ++ flatF r ++ R) (by rw [hd]; rfl)
    have h1 := h.wth 2 no 0 (6 + 12 * (entN ts bl s : Int)) (by omega) hi (fun _ => ⟨rfl, by rw [hx]⟩) (fun h => by cases h)
    rw [if_pos rfl] at h1
    have h2 := h1.tags hi ts
    have e1 : L.drop (no + 1) = flatF s ++ (flatF r ++ R) := by
      rw [← List.drop_drop, hd, flatF, List.cons_append, List.drop_succ_cons, List.drop_zero, List.append_assoc]
    have h3 := Sd.lay s (no + 1) (flatF r ++ R) e1 h2
    have h4 := h3.blob (i := no) hi
    rw [show L[no].bl = bl by rw [hx]] at h4
    have e2 := drop_more e1
    rw [flatF_len] at e2
    have h5 := Sd.lay r (no + 1 + s.cnt) R e2 h4
    rw [show no + (Fo.cons tag ts bl s r).cnt = no + 1 + s.cnt + r.cnt by rw [Fo.cnt]; omega]
    exact h5
end Go.Proofs.Ytkepbobnjplpoaa
