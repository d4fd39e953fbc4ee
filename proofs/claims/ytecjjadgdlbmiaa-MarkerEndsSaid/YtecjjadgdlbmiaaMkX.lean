/- Beginnings of a stream. -/
import Derived.Test.YtecjjadgdlbmiaaMkV
namespace Go.Proofs.Ytecjjadgdlbmiaa
open Go.RowKit
open Go.Tin
set_option linter.unusedVariables false
set_option linter.unusedSimpArgs false


theorem nth_take {l : List Int} {n i : Nat} (h : i < n) : nth (l.take n) i = nth l i := by
  unfold nth
  rw [List.getD_eq_getElem?_getD, List.getD_eq_getElem?_getD, List.getElem?_take_of_lt h]
/-- What a marker's reading answers where the bytes end too early, or as before. -/
theorem lexM_cut {l : List Int} {a cut : Nat} {m : Int} (h : lexM l a = .ok m) (hc : cut ≤ l.length) (ha : a ≤ cut) : lexM (l.take cut) a = if cut < a + 2 then .err cut 3 else .ok m := by
  obtain ⟨h1, h2, h3, h4⟩ := lexM_ok h
  have hl : (l.take cut).length = cut := by rw [List.length_take]; omega
  unfold lexM
  rw [hl]
  by_cases c1 : cut ≤ a
  · rw [if_pos c1, if_pos (by omega)]
  · rw [if_neg c1, nth_take (by omega), h2, if_neg (by decide)]
    by_cases c2 : cut ≤ a + 1
    · rw [if_pos c2, if_pos (by omega)]
    · rw [if_neg c2, nth_take (by omega), ← h3, h4, if_neg (by decide), if_neg (by omega)]
/-- The scan's end in a beginning. -/
theorem scan_cut {s R : List Int} (hs : scL s = s.length) (hR : Sep R) (j : Nat) : (j ≤ s.length + 1 ∧ (scL ((s ++ R).take j) = j ∨ (scL ((s ++ R).take j) + 1 = j ∧ nth (s ++ R) (j - 1) = 255))) ∨ (s.length + 2 ≤ j ∧ scL ((s ++ R).take j) = s.length) := by
  obtain ⟨y, t, rfl, hy, hyr⟩ := hR
  by_cases h1 : j ≤ s.length
  · left
    refine ⟨by omega, ?_⟩
    rw [List.take_append_of_le_length h1]
    rcases scL_pre s j hs h1 with h | ⟨h, h2⟩
    · exact .inl h
    · refine .inr ⟨h, ?_⟩
      have hj : j - 1 < s.length := by
        rcases Nat.eq_zero_or_pos j with h0 | h0
        · omega
        · omega
      unfold nth at h2 ⊢
      rw [List.getD_eq_getElem?_getD, List.getElem?_append_left hj, ← List.getD_eq_getElem?_getD]
      exact h2
  · by_cases h2 : j = s.length + 1
    · subst h2
      left
      refine ⟨Nat.le_refl _, .inr ?_⟩
      have ht : (s ++ 255 :: y :: t).take (s.length + 1) = s ++ [255] := by
        rw [List.take_append]
        simp [List.take_of_length_le]
      rw [ht]
      have hlast : ∀ (s : List Int), scL s = s.length → scL (s ++ [255]) = s.length := by
        intro s
        induction s with
        | nil => intro _; rfl
        | cons x s ih =>
          intro h
          cases s with
          | nil =>
            have hx : x ≠ 255 := fun e => by subst e; simp [scL] at h
            simp [scL, hx]
          | cons z s =>
            have hn : ¬ (x = 255 ∧ z ≠ 0 ∧ rstB z = false) := fun hc => by
              unfold scL at h
              rw [if_pos hc] at h
              simp at h
            have h2 : scL (z :: s) = (z :: s).length := by
              unfold scL at h
              rw [if_neg hn] at h
              simp only [List.length_cons] at h ⊢
              omega
            have h3 := ih h2
            show scL (x :: z :: (s ++ [255])) = _
            unfold scL
            rw [if_neg hn, show z :: (s ++ [255]) = (z :: s) ++ [255] from rfl, h3]
            simp
      refine ⟨by rw [hlast s hs], ?_⟩
      rw [Nat.add_sub_cancel]
      have := nth_app s (255 :: y :: t) 0
      rw [Nat.add_zero] at this
      rw [this]; rfl
    · right
      refine ⟨by omega, ?_⟩
      obtain ⟨k, rfl⟩ : ∃ k, j = s.length + (k + 2) := ⟨j - s.length - 2, by omega⟩
      rw [List.take_length_add_append]
      exact scL_app (t := t.take k) hy hyr s hs
/-- What a segment's reading answers where the bytes end too early: too short; or the reading comes to a place where it is. -/
theorem lexS_cut {P R : List Int} {x : Sg} {N i cut : Nat} (h : okAt N i x = true) (hR : aloB x.m = false → Sep R) (hc : P.length + 2 ≤ cut) (hcl : cut ≤ (P ++ (segB x ++ R)).length) :
    (lexS ((P ++ (segB x ++ R)).take cut) (P.length + 2) x.m = .err cut 3) ∨
    (∃ s' a', lexS ((P ++ (segB x ++ R)).take cut) (P.length + 2) x.m = .ok x.d s' a' ∧ a' ≤ cut ∧ cut < a' + 2 ∧ (a' < cut → nth (P ++ (segB x ++ R)) a' = 255)) ∨
    (P.length + (segB x).length ≤ cut ∧ lexS ((P ++ (segB x ++ R)).take cut) (P.length + 2) x.m = .ok x.d x.s (P.length + (segB x).length)) := by
  have hl : ((P ++ (segB x ++ R)).take cut).length = cut := by rw [List.length_take]; omega
  have h0 := lexS_at (P := P) (R := R) h hR
  cases hal : aloB x.m with
  | true =>
    right; right
    unfold lexS at h0 ⊢
    rw [hal, if_pos rfl] at h0 ⊢
    injection h0 with h1 h2 h3
    refine ⟨by omega, ?_⟩
    rw [← h1, ← h2, ← h3]
  | false =>
    have hmid : rightB x = true := by
      have he := ok_end h
      rw [hal] at he
      unfold okAt at h
      split at h
      · rename_i h1
        rw [decide_eq_true h1] at he; cases he
      · split at h
        · rename_i h1
          rw [decide_eq_true h1, Bool.or_true] at he; cases he
        · exact h
    have hd := ok_d h
    have hsep := hR hal
    have hsg : segB x = [255, x.m, lenHi x.d, lenLo x.d] ++ (x.d ++ x.s) := by unfold segB; rw [hal, if_neg (by decide)]; simp
    have hsl : (segB x).length = 4 + x.d.length + x.s.length := by rw [hsg]; simp; omega
    by_cases c1 : cut < P.length + 4
    · left
      unfold lexS
      rw [hal, if_neg (by decide), hl, if_pos (by omega)]
    obtain ⟨l, hll⟩ : ∃ l, P ++ (segB x ++ R) = l := ⟨_, rfl⟩
    have hlen : lenS l (P.length + 2) = ((x.d.length + 2 : Nat) : Int) := by
      unfold lenS
      have e0 := nth_app P (segB x ++ R) 2
      have e1 := nth_app P (segB x ++ R) 3
      rw [hll] at e0 e1
      rw [show P.length + 2 + 1 = P.length + 3 from rfl, e0, e1, hsg]
      show lenHi x.d * 256 + lenLo x.d = _
      rw [len_hl hd]; rfl
    have hlenc : lenS (l.take cut) (P.length + 2) = ((x.d.length + 2 : Nat) : Int) := by
      rw [← hlen]
      unfold lenS
      rw [nth_take (by omega), nth_take (by omega)]
    rw [hll] at hl hcl ⊢
    by_cases c2 : cut < P.length + 4 + x.d.length
    · left
      unfold lexS
      rw [hal, if_neg (by decide), hl, if_neg (by omega), hlenc, if_neg (by omega), if_pos (by omega)]
    right
    rw [lexS_app hal (by omega) hlenc (by omega) (by omega)]
    have hst : l = (P ++ [255, x.m] ++ [lenHi x.d, lenLo x.d]) ++ (x.d ++ (x.s ++ R)) := by rw [← hll, hsg]; simp
    have hp4 : (P ++ [255, x.m] ++ [lenHi x.d, lenLo x.d]).length = P.length + 2 + 2 := by simp
    have hd1 : ((l.take cut).drop (P.length + 2 + 2)).take (x.d.length + 2 - 2) = x.d := by
      rw [List.drop_take, List.take_take, Nat.min_eq_left (by omega), hst, ← hp4, List.drop_left, Nat.add_sub_cancel, List.take_left]
    have hd2 : (l.take cut).drop (P.length + 2 + (x.d.length + 2)) = (x.s ++ R).take (cut - (P.length + 4 + x.d.length)) := by
      rw [List.drop_take, hst, show P.length + 2 + (x.d.length + 2) = (P ++ [255, x.m] ++ [lenHi x.d, lenLo x.d] ++ x.d).length by simp; omega]
      rw [← List.append_assoc, List.drop_left]
      congr 1
      simp; omega
    rw [hd1, hd2]
    unfold rightB at hmid
    simp at hmid
    obtain ⟨_, _, hs⟩ := hmid
    by_cases hm : x.m = 218
    · rw [if_pos hm]
      have hsc : scL x.s = x.s.length := by
        rcases hs with h1 | h1
        · rw [h1]; rfl
        · exact h1.2
      have hsn : ∀ j, nth l (P.length + 4 + x.d.length + j) = nth (x.s ++ R) j := fun j => by
        have := nth_app (P ++ [255, x.m] ++ [lenHi x.d, lenLo x.d] ++ x.d) (x.s ++ R) j
        rw [show P ++ [255, x.m] ++ [lenHi x.d, lenLo x.d] ++ x.d ++ (x.s ++ R) = l by rw [hst]; simp] at this
        rw [← this]
        congr 1
        simp; omega
      rcases scan_cut hsc hsep (cut - (P.length + 4 + x.d.length)) with ⟨hj, hk | ⟨hk, h255⟩⟩ | ⟨hj, hk⟩
      · left
        refine ⟨_, _, rfl, by omega, by omega, fun h9 => by omega⟩
      · left
        refine ⟨_, _, rfl, by omega, by omega, fun h9 => ?_⟩
        rw [show P.length + 2 + (x.d.length + 2) + scL ((x.s ++ R).take (cut - (P.length + 4 + x.d.length))) = P.length + 4 + x.d.length + (cut - (P.length + 4 + x.d.length) - 1) by omega, hsn]
        exact h255
      · right
        rw [hk]
        refine ⟨by omega, ?_⟩
        rw [List.take_take, Nat.min_eq_left (by omega), List.take_left, hsl]
        congr 1
        omega
    · rw [if_neg hm]
      have hs0 : x.s = [] := by
        rcases hs with h1 | h1
        · exact h1
        · exact absurd h1.1 hm
      right
      rw [hsl, hs0]
      refine ⟨by simp; omega, ?_⟩
      congr 1
      simp; omega
theorem lexO_cut {N : Nat} (cut : Nat) : ∀ (L2 : List Sg) (P : List Int) (acc : List Sg) (i f : Nat), mayF N i L2 = true → i + L2.length = N → 2 ≤ N → L2 ≠ [] → (P.length = 0 ↔ i = 0) → L2.length < f →
    P.length ≤ cut → cut < (P ++ wrL L2).length → lexO ((P ++ wrL L2).take cut) f P.length acc = .err cut 3
  | [], _, _, _, _, _, _, _, h, _, _, _, _ => absurd rfl h
  | x :: L2, P, acc, i, 0, _, _, _, _, _, hf, _, _ => by simp at hf
  | x :: L2, P, acc, i, f + 1, hm, hN, h2, _, hP, hf, hc1, hc2 => by
    simp only [mayF, Bool.and_eq_true] at hm
    simp only [List.length_cons] at hN hf
    have e : P ++ wrL (x :: L2) = P ++ (segB x ++ wrL L2) := by simp [wrL]
    have hsp : aloB x.m = false → Sep (wrL L2) := fun hal => by
      cases L2 with
      | nil =>
        have he := ok_end hm.1
        rw [hal] at he
        simp at hN he
        omega
      | cons z L2 =>
        have hz := hm.2
        simp only [mayF, Bool.and_eq_true] at hz
        exact sep_next hz.1 (by omega) _
    rw [e] at hc2 ⊢
    unfold lexO
    rw [lexM_cut (lexM_at hm.1 hP) (Nat.le_of_lt hc2) hc1]
    by_cases c1 : cut < P.length + 2
    · rw [if_pos c1]
    · rw [if_neg c1]
      have hal217 := ok_217 hm.1
      have hn217 : aloB x.m = false → x.m ≠ 217 := fun h e => by rw [e] at h; cases h
      rcases lexS_cut hm.1 hsp (by omega) (Nat.le_of_lt hc2) with h9 | ⟨s', a', h9, ha1, ha2, ha3⟩ | ⟨ha1, h9⟩
      · simp only [h9]
      · simp only [h9]
        by_cases hx217 : x.m = 217
        · exfalso
          have : lexS ((P ++ (segB x ++ wrL L2)).take cut) (P.length + 2) x.m = .ok [] [] (P.length + 2) := by
            unfold lexS; rw [if_pos (by rw [hx217]; rfl)]
          rw [this] at h9
          injection h9 with _ _ h10
          have hLN := (hal217.1 hx217).2
          have hL2 : L2 = [] := List.eq_nil_of_length_eq_zero (by omega)
          rw [hL2] at hc2
          have hsl : (segB x).length = 2 := by unfold segB; rw [if_pos (by rw [hx217]; rfl)]; rfl
          simp [wrL] at hc2
          omega
        · rw [if_neg hx217]
          cases f with
          | zero => exfalso; cases L2 <;> simp at hf
          | succ f =>
            have hl : ((P ++ (segB x ++ wrL L2)).take cut).length = cut := by rw [List.length_take]; omega
            unfold lexO
            have hM : lexM ((P ++ (segB x ++ wrL L2)).take cut) a' = .err cut 3 := by
              unfold lexM
              rw [hl]
              by_cases c2 : cut ≤ a'
              · rw [if_pos c2]
              · rw [if_neg c2, nth_take (by omega), ha3 (by omega), if_neg (by decide), if_pos (by omega)]
            rw [hM]
      · simp only [h9]
        have hsl : 2 ≤ (segB x).length := by unfold segB; simp
        cases L2 with
        | nil =>
          exfalso
          simp [wrL] at hc2
          omega
        | cons z L2 =>
          rw [if_neg (fun h => by have := (hal217.1 h).2; simp at hN; omega)]
          have ih := lexO_cut cut (z :: L2) (P ++ segB x) (acc ++ [⟨x.m, x.d, x.s⟩]) (i + 1) f hm.2 (by omega) h2 (by simp) ⟨fun e => by rw [List.length_append] at e; omega, fun e => by omega⟩ (by omega) (by rw [List.length_append]; omega) (by rw [List.append_assoc]; exact hc2)
          rw [List.append_assoc, List.length_append] at ih
          exact ih
/-- **A shorter beginning of a stream ends too early.** -/
theorem of_cut {L : List Sg} (hm : mayB L = true) {cut : Nat} (hc : cut < (wrL L).length) : ofR ((wrL L).take cut) = .err cut 3 := by
  unfold mayB at hm
  rw [Bool.and_eq_true] at hm
  have h2 := of_decide_eq_true hm.1
  have hl : ((wrL L).take cut).length = cut := by rw [List.length_take]; omega
  have key : ∀ f, L.length < f → lexO ((wrL L).take cut) f 0 [] = .err cut 3 := fun f hf => by
    have := lexO_cut cut L [] [] 0 f hm.2 (by omega) h2 (by intro e; rw [e] at h2; simp at h2) (by simp) hf (Nat.zero_le _) (by simpa using hc)
    simpa using this
  unfold ofR
  rw [hl]
  -- the fuel: as many steps as bytes; more are not wanted
  have fuel : ∀ (l : List Int) (f a : Nat) (acc : List Sg), l.length < f + a → a ≤ l.length → ∀ g, l.length < g + a → lexO l f a acc = lexO l g a acc := by
    intro l f
    induction f with
    | zero => intro a acc h1 h2; omega
    | succ f ih =>
      intro a acc h1 h2 g hg
      cases g with
      | zero => omega
      | succ g =>
        unfold lexO
        cases hm : lexM l a with
        | err p q => rfl
        | ok m =>
          have h3 := (lexM_ok hm).1
          cases hs : lexS l (a + 2) m with
          | err p q => simp only [hs]
          | ok d s a' =>
            have h4 := lexS_le h3 hs
            simp only [hs]
            by_cases h217 : m = 217
            · rw [if_pos h217, if_pos h217]
            · rw [if_neg h217, if_neg h217]
              exact ih a' _ (by omega) h4.2 g (by omega)
  rw [fuel ((wrL L).take cut) (cut + 1) 0 [] (by omega) (Nat.zero_le _) (cut + 1 + L.length) (by omega)]
  exact key _ (by omega)
end Go.Proofs.Ytecjjadgdlbmiaa
