/- Segments and their stream: the plain laws. -/
import Derived.Test.YtfohajgljjffgaaMkS
namespace Go.Proofs.Ytfohajgljjffgaa
open Go.RowKit
open Go.Tin
set_option linter.unusedVariables false
set_option linter.unusedSimpArgs false


theorem scL_app {y : Int} {t : List Int} (hy : y ≠ 0) (hr : rstB y = false) : ∀ (s : List Int), scL s = s.length → scL (s ++ 255 :: y :: t) = s.length
  | [], _ => by
    show scL (255 :: y :: t) = 0
    unfold scL
    rw [if_pos ⟨rfl, hy, hr⟩]
  | [x], h => by
    have hx : x ≠ 255 := fun e => by subst e; simp [scL] at h
    show scL (x :: 255 :: y :: t) = 1
    have h0 := scL_app (t := t) hy hr [] rfl
    simp only [List.nil_append, List.length_nil] at h0
    unfold scL
    rw [if_neg (by simp [hx]), h0]
  | x :: z :: s, h => by
    have hn : ¬ (x = 255 ∧ z ≠ 0 ∧ rstB z = false) := fun hc => by
      unfold scL at h
      rw [if_pos hc] at h
      simp at h
    have h2 : scL (z :: s) = (z :: s).length := by
      unfold scL at h
      rw [if_neg hn] at h
      simp only [List.length_cons] at h ⊢
      omega
    have h3 := scL_app (t := t) hy hr (z :: s) h2
    show scL (x :: z :: (s ++ 255 :: y :: t)) = _
    unfold scL
    rw [if_neg hn]
    rw [show z :: (s ++ 255 :: y :: t) = (z :: s) ++ 255 :: y :: t from rfl, h3]
    simp
theorem scL_z {y : Int} {t : List Int} (h : scL (y :: t) = 0) : y = 255 := by
  cases t with
  | nil => unfold scL at h; by_cases hy : y = 255; exact hy; rw [if_neg hy] at h; cases h
  | cons z t =>
    unfold scL at h
    split at h
    · rename_i hc; exact hc.1
    · omega
theorem scL_take : ∀ (E : List Int), scL (E.take (scL E)) = scL E
  | [] => rfl
  | [x] => by
    by_cases hx : x = 255
    · simp [scL, hx]
    · simp [scL, hx]
  | x :: y :: t => by
    by_cases hc : x = 255 ∧ y ≠ 0 ∧ rstB y = false
    · have : scL (x :: y :: t) = 0 := by unfold scL; rw [if_pos hc]
      rw [this]; rfl
    · have e : scL (x :: y :: t) = scL (y :: t) + 1 := by conv => lhs; unfold scL; rw [if_neg hc]
      have ih := scL_take (y :: t)
      rw [e, List.take_succ_cons]
      cases hk : scL (y :: t) with
      | zero =>
        have hy := scL_z hk
        have hx : x ≠ 255 := fun h => hc ⟨h, by rw [hy]; decide, by rw [hy]; decide⟩
        simp [scL, hx]
      | succ k =>
        rw [hk] at ih
        rw [List.take_succ_cons] at ih ⊢
        unfold scL
        rw [if_neg hc, ih]
theorem scL_pre : ∀ (s : List Int) (j : Nat), scL s = s.length → j ≤ s.length → scL (s.take j) = j ∨ (scL (s.take j) + 1 = j ∧ nth s (j - 1) = 255)
  | s, 0, _, _ => .inl rfl
  | [], j + 1, _, hj => by simp at hj
  | [x], j + 1, h, hj => by
    have hx : x ≠ 255 := fun e => by subst e; simp [scL] at h
    have : j = 0 := by simpa using hj
    subst this
    exact .inl (by simp [scL, hx])
  | x :: z :: s, j + 1, h, hj => by
    have hn : ¬ (x = 255 ∧ z ≠ 0 ∧ rstB z = false) := fun hc => by
      unfold scL at h
      rw [if_pos hc] at h
      simp at h
    have h2 : scL (z :: s) = (z :: s).length := by
      unfold scL at h
      rw [if_neg hn] at h
      simp only [List.length_cons] at h ⊢
      omega
    cases j with
    | zero =>
      by_cases hx : x = 255
      · subst hx
        exact .inr ⟨by simp [scL], rfl⟩
      · exact .inl (by simp [scL, hx])
    | succ j =>
      have ih := scL_pre (z :: s) (j + 1) h2 (by simp only [List.length_cons] at hj ⊢; omega)
      rw [List.take_succ_cons, List.take_succ_cons]
      have e : scL (x :: z :: s.take j) = scL ((z :: s).take (j + 1)) + 1 := by
        conv => lhs; unfold scL; rw [if_neg hn]
        rfl
      rw [e]
      rcases ih with ih | ⟨ih, h255⟩
      · exact .inl (by omega)
      · refine .inr ⟨by omega, ?_⟩
        rw [← h255]
        rfl
theorem nth_drop (l : List Int) (i j : Nat) : nth (l.drop i) j = nth l (i + j) := by
  unfold nth
  rw [List.getD_eq_getElem?_getD, List.getD_eq_getElem?_getD, List.getElem?_drop]
theorem nth_app (P Q : List Int) (j : Nat) : nth (P ++ Q) (P.length + j) = nth Q j := by
  unfold nth
  rw [List.getD_eq_getElem?_getD, List.getD_eq_getElem?_getD, List.getElem?_append_right (by omega), Nat.add_sub_cancel_left]
theorem ok_bad {N i a : Nat} {x : Sg} (h : okAt N i x = true) (ha : a = 0 ↔ i = 0) : badM a x.m = false := by
  unfold okAt at h
  unfold badM
  by_cases hi : i = 0
  · rw [if_pos hi] at h
    unfold bareB at h
    simp at h
    rw [decide_eq_true (ha.2 hi), h.1]; rfl
  · have ha0 : ¬ a = 0 := fun e => hi (ha.1 e)
    rw [if_neg hi] at h
    rw [decide_eq_false ha0]
    split at h
    · unfold bareB at h
      simp at h
      rw [h.1]; rfl
    · unfold rightB at h
      simp at h
      have h1 := h.1
      rw [h1]
      have h2 : (x.m == 216) = false := by
        unfold hdB aloB at h1
        simp at h1
        simpa using h1.2.2.1.1
      rw [h2]; simp
theorem len_hl {d : List Int} (h : d.length ≤ 65533) : lenHi d * 256 + lenLo d = (d.length : Int) + 2 := by unfold lenHi lenLo; omega
/-- What stands behind a segment that has a scan: a marker, or its first byte. -/
def Sep (R : List Int) : Prop := ∃ y t, R = 255 :: y :: t ∧ y ≠ 0 ∧ rstB y = false
theorem lexM_at {P R : List Int} {x : Sg} {N i : Nat} (h : okAt N i x = true) (ha : P.length = 0 ↔ i = 0) : lexM (P ++ (segB x ++ R)) P.length = .ok x.m := by
  have h0 : nth (P ++ (segB x ++ R)) P.length = 255 := by
    have := nth_app P (segB x ++ R) 0
    rw [Nat.add_zero] at this
    rw [this]; unfold segB; rfl
  have h1 : nth (P ++ (segB x ++ R)) (P.length + 1) = x.m := by rw [nth_app]; unfold segB; rfl
  have hl : P.length + 2 ≤ (P ++ (segB x ++ R)).length := by
    unfold segB; simp
  unfold lexM
  rw [if_neg (by omega), h0, if_neg (by decide), if_neg (by omega), h1, ok_bad h ha, if_neg (by decide)]
theorem lexS_at {P R : List Int} {x : Sg} {N i : Nat} (h : okAt N i x = true) (hR : aloB x.m = false → Sep R) : lexS (P ++ (segB x ++ R)) (P.length + 2) x.m = .ok x.d x.s (P.length + (segB x).length) := by
  cases hal : aloB x.m with
  | true =>
    have hb : x.d = [] ∧ x.s = [] := by
      have he := ok_end h
      rw [hal] at he
      unfold okAt at h
      split at h
      · unfold bareB at h; simp at h; exact h.2
      · split at h
        · unfold bareB at h; simp at h; exact h.2
        · rename_i h1 h2
          rw [decide_eq_false h1, decide_eq_false h2] at he
          cases he
    unfold lexS segB
    rw [hal, if_pos rfl, if_pos rfl, hb.1, hb.2]
    rfl
  | false =>
    have hmid : rightB x = true := by
      have he := ok_end h
      rw [hal] at he
      unfold okAt at h
      split at h
      · rename_i h1
        rw [decide_eq_true h1] at he; cases he
      · split at h
        · rename_i h1
          rw [decide_eq_true h1, Bool.or_true] at he; cases he
        · exact h
    have hd := ok_d h
    obtain ⟨y, t, rfl, hy, hyr⟩ := hR hal
    have hsg : segB x = [255, x.m, lenHi x.d, lenLo x.d] ++ (x.d ++ x.s) := by unfold segB; rw [hal, if_neg (by decide)]; simp
    have hst : P ++ (segB x ++ 255 :: y :: t) = (P ++ [255, x.m]) ++ ([lenHi x.d, lenLo x.d] ++ (x.d ++ (x.s ++ 255 :: y :: t))) := by rw [hsg]; simp
    have hp2 : (P ++ [255, x.m]).length = P.length + 2 := by simp
    have hlen : lenS (P ++ (segB x ++ 255 :: y :: t)) (P.length + 2) = ((x.d.length + 2 : Nat) : Int) := by
      unfold lenS
      rw [hst, ← hp2]
      have e0 := nth_app (P ++ [255, x.m]) ([lenHi x.d, lenLo x.d] ++ (x.d ++ (x.s ++ 255 :: y :: t))) 0
      rw [Nat.add_zero] at e0
      rw [e0, nth_app]
      show lenHi x.d * 256 + lenLo x.d = _
      rw [len_hl hd]; rfl
    have htot : (P ++ (segB x ++ 255 :: y :: t)).length = P.length + 4 + x.d.length + x.s.length + (t.length + 2) := by rw [hsg]; simp; omega
    rw [lexS_app hal (by omega) hlen (by omega) (by omega)]
    have hd1 : ((P ++ (segB x ++ 255 :: y :: t)).drop (P.length + 2 + 2)).take (x.d.length + 2 - 2) = x.d := by
      rw [hst, show P.length + 2 + 2 = (P ++ [255, x.m] ++ [lenHi x.d, lenLo x.d]).length by simp, ← List.append_assoc, List.drop_left, Nat.add_sub_cancel, List.take_left]
    have hd2 : (P ++ (segB x ++ 255 :: y :: t)).drop (P.length + 2 + (x.d.length + 2)) = x.s ++ 255 :: y :: t := by
      rw [hst, show P.length + 2 + (x.d.length + 2) = (P ++ [255, x.m] ++ ([lenHi x.d, lenLo x.d] ++ x.d)).length by simp; omega]
      rw [show P ++ [255, x.m] ++ ([lenHi x.d, lenLo x.d] ++ (x.d ++ (x.s ++ 255 :: y :: t))) = (P ++ [255, x.m] ++ ([lenHi x.d, lenLo x.d] ++ x.d)) ++ (x.s ++ 255 :: y :: t) by simp, List.drop_left]
    rw [hd1, hd2]
    unfold rightB at hmid
    simp at hmid
    obtain ⟨_, _, hs⟩ := hmid
    have hsl : (segB x).length = 4 + x.d.length + x.s.length := by rw [hsg]; simp; omega
    by_cases hm : x.m = 218
    · rw [if_pos hm]
      have hsc : scL x.s = x.s.length := by
        rcases hs with h1 | h1
        · rw [h1]; rfl
        · exact h1.2
      rw [scL_app hy hyr x.s hsc, List.take_left, hsl]
      congr 1
      omega
    · rw [if_neg hm]
      have hs0 : x.s = [] := by
        rcases hs with h1 | h1
        · exact h1
        · exact absurd h1.1 hm
      rw [hs0, hsl, hs0]
      congr 1
      simp; omega
/-- What follows: the next segment's beginning. -/
theorem sep_next {N i : Nat} {x : Sg} (h : okAt N i x = true) (hi : i ≠ 0) (R : List Int) : Sep (segB x ++ R) := by
  refine ⟨x.m, (if aloB x.m = true then [] else [lenHi x.d, lenLo x.d] ++ (x.d ++ x.s)) ++ R, by unfold segB; rfl, ?_, ?_⟩
  · unfold okAt at h
    rw [if_neg hi] at h
    split at h
    · unfold bareB at h; simp at h; omega
    · unfold rightB hdB at h; simp at h; omega
  · unfold okAt at h
    rw [if_neg hi] at h
    split at h
    · unfold bareB at h; simp at h; rw [h.1]; rfl
    · unfold rightB hdB at h; simp at h; exact h.1.2.2.2
theorem ok_217 {N i : Nat} {x : Sg} (h : okAt N i x = true) : x.m = 217 ↔ (i ≠ 0 ∧ i + 1 = N) := by
  unfold okAt at h
  split at h
  · rename_i h0
    unfold bareB at h; simp at h
    omega
  · rename_i h0
    split at h
    · rename_i h1
      unfold bareB at h; simp at h
      omega
    · rename_i h1
      unfold rightB hdB aloB at h; simp at h
      have := h.1.2.2.1.2
      constructor
      · intro e; exact absurd e this
      · intro e; exact absurd e.2 h1
theorem lexO_wr {N : Nat} (R : List Int) : ∀ (L2 : List Sg) (P : List Int) (acc : List Sg) (i f : Nat), mayF N i L2 = true → i + L2.length = N → 2 ≤ N → L2 ≠ [] → (P.length = 0 ↔ i = 0) → L2.length ≤ f →
    lexO (P ++ (wrL L2 ++ R)) f P.length acc = .ok (acc ++ L2) (P.length + (wrL L2).length)
  | [], _, _, _, _, _, _, _, h, _, _ => absurd rfl h
  | x :: L2, P, acc, i, 0, _, _, _, _, _, hf => by simp at hf
  | x :: L2, P, acc, i, f + 1, hm, hN, h2, _, hP, hf => by
    simp only [mayF, Bool.and_eq_true] at hm
    simp only [List.length_cons] at hN hf
    have e : P ++ (wrL (x :: L2) ++ R) = P ++ (segB x ++ (wrL L2 ++ R)) := by simp [wrL]
    have hsp : aloB x.m = false → Sep (wrL L2 ++ R) := fun hal => by
      cases L2 with
      | nil =>
        have he := ok_end hm.1
        rw [hal] at he
        simp at hN he
        omega
      | cons z L2 =>
        have hz := hm.2
        simp only [mayF, Bool.and_eq_true] at hz
        rw [show wrL (z :: L2) ++ R = segB z ++ (wrL L2 ++ R) by simp [wrL]]
        exact sep_next hz.1 (by omega) _
    rw [e]
    unfold lexO
    rw [lexM_at hm.1 hP]
    simp only [lexS_at hm.1 hsp]
    have h217 := ok_217 hm.1
    cases L2 with
    | nil =>
      rw [if_pos (h217.2 ⟨by simp at hN; omega, by simpa using hN⟩)]
      simp [wrL]
    | cons z L2 =>
      rw [if_neg (fun h => by have := (h217.1 h).2; simp at hN; omega)]
      have hsl : 2 ≤ (segB x).length := by unfold segB; simp
      have ih := lexO_wr R (z :: L2) (P ++ segB x) (acc ++ [x]) (i + 1) f hm.2 (by omega) h2 (by simp) ⟨fun e => by rw [List.length_append] at e; omega, fun e => by omega⟩ (by simpa using hf)
      rw [List.append_assoc] at ih
      rw [List.length_append] at ih
      rw [show (⟨x.m, x.d, x.s⟩ : Sg) = x from rfl, ih]
      simp [wrL]
      omega
theorem wr_two {N : Nat} : ∀ (L : List Sg), 2 * L.length ≤ (wrL L).length
  | [] => by simp [wrL]
  | x :: L => by
    have := wr_two (N := N) L
    have hsl : 2 ≤ (segB x).length := by unfold segB; simp
    simp only [wrL, List.length_cons, List.length_append]
    omega
/-- **The stream of segments, read.** -/
theorem of_wr {L : List Sg} (hm : mayB L = true) (R : List Int) : ofR (wrL L ++ R) = .ok L (wrL L).length := by
  unfold mayB at hm
  rw [Bool.and_eq_true] at hm
  have h2 := of_decide_eq_true hm.1
  have h1 := wr_two (N := 0) L
  have := lexO_wr R L [] [] 0 ((wrL L ++ R).length + 1) hm.2 (by omega) h2 (by intro e; rw [e] at h2; simp at h2) (by simp) (by rw [List.length_append]; omega)
  simpa [ofR] using this
theorem lexO_fin (l : List Int) (P Q : Nat → List Sg → Prop) (step : ∀ a acc m d s a', P a acc → a + 2 ≤ l.length → lexM l a = .ok m → lexS l (a + 2) m = .ok d s a' → m ≠ 217 → P a' (acc ++ [⟨m, d, s⟩]))
    (last : ∀ a acc d s a', P a acc → a + 2 ≤ l.length → lexM l a = .ok 217 → lexS l (a + 2) 217 = .ok d s a' → Q a' (acc ++ [⟨217, d, s⟩])) :
    ∀ f a acc L e, a ≤ l.length → P a acc → lexO l f a acc = .ok L e → Q e L
  | 0, a, acc, L, e, ha, hP, h => by simp [lexO] at h
  | f + 1, a, acc, L, e, ha, hP, h => by
    unfold lexO at h
    cases hm : lexM l a with
    | err p q => rw [hm] at h; cases h
    | ok m =>
      rw [hm] at h
      have h2 := (lexM_ok hm).1
      cases hs : lexS l (a + 2) m with
      | err p q => simp only [hs] at h; cases h
      | ok d s a' =>
        simp only [hs] at h
        have h3 := lexS_le h2 hs
        split at h
        · rename_i h217
          subst h217
          injection h with h4 h5
          subst h4; subst h5
          exact last a acc d s a' hP h2 hm hs
        · rename_i h217
          exact lexO_fin l P Q step last f a' _ L e h3.2 (step a acc m d s a' hP h2 hm hs h217) h
theorem take_two {l : List Int} {a : Nat} (h : a + 2 ≤ l.length) : (l.drop a).take 2 = [nth l a, nth l (a + 1)] := by
  rw [drop_nth (show a < l.length by omega), drop_nth (show a + 1 < l.length by omega)]
  rfl
theorem take_cut (l : List Int) {a b : Nat} (h : a ≤ b) : l.take b = l.take a ++ (l.drop a).take (b - a) := by
  conv => lhs; rw [show b = a + (b - a) by omega]
  rw [List.take_add]
/-- What one step reads is a segment, and its bytes. -/
theorem step_seg {l : List Int} (hby : Byts l) {a : Nat} {m : Int} {d s : List Int} {a' : Nat} (h2 : a + 2 ≤ l.length) (hm : lexM l a = .ok m) (hs : lexS l (a + 2) m = .ok d s a') :
    segB ⟨m, d, s⟩ = (l.drop a).take (a' - a) ∧ (aloB m = true → d = [] ∧ s = []) ∧ (aloB m = false → d.length ≤ 65533 ∧ (s = [] ∨ m = 218) ∧ scL s = s.length) := by
  obtain ⟨_, e0, e1, _⟩ := lexM_ok hm
  have ht := take_two h2
  rw [e0, ← e1] at ht
  cases hal : aloB m with
  | true =>
    unfold lexS at hs
    rw [hal, if_pos rfl] at hs
    injection hs with h3 h4 h5
    subst h3; subst h4; subst h5
    refine ⟨?_, fun _ => ⟨rfl, rfl⟩, nofun⟩
    unfold segB
    rw [hal, if_pos rfl, Nat.add_sub_cancel_left, ht]
    rfl
  | false =>
    have hs0 := hs
    unfold lexS at hs
    rw [hal, if_neg (by decide)] at hs
    split at hs
    · cases hs
    rename_i g1
    split at hs
    · cases hs
    rename_i g2
    split at hs
    · cases hs
    rename_i g3
    have hb2 := hby.nth (a + 2)
    have hb3 := hby.nth (a + 3)
    have hN : lenS l (a + 2) = nth l (a + 2) * 256 + nth l (a + 3) := rfl
    obtain ⟨N, hNN⟩ := Int.eq_ofNat_of_zero_le (show 0 ≤ lenS l (a + 2) by rw [hN]; omega)
    rw [hNN] at g2 g3 hs
    simp only [Int.toNat_natCast] at hs
    have hN2 : 2 ≤ N := by omega
    have hNl : a + 2 + N ≤ l.length := by omega
    have hN65 : N ≤ 65535 := by rw [hN] at hNN; omega
    have hdl : ((l.drop (a + 2 + 2)).take (N - 2)).length = N - 2 := by rw [List.length_take, List.length_drop]; omega
    have hhi : lenHi ((l.drop (a + 2 + 2)).take (N - 2)) = nth l (a + 2) := by
      unfold lenHi
      rw [hdl]
      omega
    have hlo : lenLo ((l.drop (a + 2 + 2)).take (N - 2)) = nth l (a + 3) := by
      unfold lenLo
      rw [hdl]
      omega
    have ht2 := take_two (l := l) (a := a + 2) (by omega)
    have hhead : (l.drop a).take 4 = [255, m, nth l (a + 2), nth l (a + 3)] := by
      rw [show (4 : Nat) = 2 + 2 from rfl, List.take_add, ht, List.drop_drop, ht2]
      rfl
    have hbody : (l.drop a).take (2 + N) = [255, m, nth l (a + 2), nth l (a + 3)] ++ (l.drop (a + 2 + 2)).take (N - 2) := by
      rw [show 2 + N = 4 + (N - 2) by omega, List.take_add, hhead, List.drop_drop]
    split at hs
    · rename_i h218
      injection hs with h3 h4 h5
      subst h3; subst h4; subst h5
      refine ⟨?_, fun h => (by cases h), fun _ => ⟨by rw [hdl]; omega, .inr h218, by rw [scL_take, List.length_take]; have := scL_le (l.drop (a + 2 + N)); omega⟩⟩
      unfold segB
      simp only [hal, Bool.false_eq_true, if_false, hhi, hlo]
      rw [show a + 2 + N + scL (l.drop (a + 2 + N)) - a = (2 + N) + scL (l.drop (a + 2 + N)) by omega, List.take_add, hbody, List.drop_drop, show a + (2 + N) = a + 2 + N by omega]
      simp
    · rename_i h218
      injection hs with h3 h4 h5
      subst h3; subst h4; subst h5
      refine ⟨?_, fun h => (by cases h), fun _ => ⟨by rw [hdl]; omega, .inl rfl, rfl⟩⟩
      unfold segB
      simp only [hal, Bool.false_eq_true, if_false, hhi, hlo]
      rw [show a + 2 + N - a = 2 + N by omega, hbody]
      simp
theorem mayF_of {N : Nat} : ∀ (L : List Sg) (i : Nat), (∀ j x, L[j]? = some x → okAt N (i + j) x = true) → mayF N i L = true
  | [], _, _ => rfl
  | y :: L, i, h => by
    simp only [mayF, Bool.and_eq_true]
    exact ⟨h 0 y rfl, mayF_of L (i + 1) fun j x hx => by have := h (j + 1) x (by simpa using hx); rwa [show i + 1 + j = i + (j + 1) by omega]⟩
/-- Segments that have been read, the last one not yet. -/
def preS (acc : List Sg) : Prop := ∀ j x, acc[j]? = some x → if j = 0 then bareB x 216 = true else rightB x = true
/-- **What is read of any bytes may be, and its stream is these bytes, up to the end.** -/
theorem ofR_back {l : List Int} (hby : Byts l) {L : List Sg} {e : Nat} (h : ofR l = .ok L e) : mayB L = true ∧ wrL L = l.take e ∧ e ≤ l.length := by
  have hbm : ∀ {a : Nat} {m : Int} {acc : List Sg}, (a = 0 ↔ acc = []) → badM a m = false → (acc = [] → m = 216) ∧ (acc ≠ [] → m ≠ 216 ∧ (m = 217 ∨ hdB m = true)) := by
    intro a m acc ha hb
    unfold badM at hb
    simp only [Bool.or_eq_false_iff, bne_eq_false_iff_eq] at hb
    refine ⟨fun e => ?_, fun e => ?_⟩
    · have h0 := ha.2 e
      have := hb.1
      rw [decide_eq_true h0] at this
      simpa using this.symm
    · have h0 : ¬ a = 0 := fun e0 => e (ha.1 e0)
      rw [decide_eq_false h0] at hb
      have h1 : m ≠ 216 := by simpa using hb.1.symm
      refine ⟨h1, ?_⟩
      by_cases h217 : m = 217
      · exact .inl h217
      · right
        have := hb.2
        simp [h217] at this
        exact this
  refine lexO_fin l (fun a acc => wrL acc = l.take a ∧ a ≤ l.length ∧ (a = 0 ↔ acc = []) ∧ preS acc) (fun e L => mayB L = true ∧ wrL L = l.take e ∧ e ≤ l.length) ?_ ?_ (l.length + 1) 0 [] L e (Nat.zero_le _) ⟨rfl, Nat.zero_le _, by simp, fun j x hx => by simp at hx⟩ h
  · rintro a acc m d s a' ⟨hw, hal, ha0, hp⟩ h2 hm hs h217
    obtain ⟨h3, h4, h5⟩ := step_seg hby h2 hm hs
    have hle := lexS_le h2 hs
    obtain ⟨b1, b2⟩ := hbm ha0 (lexM_ok hm).2.2.2
    refine ⟨?_, hle.2, ⟨fun e => by omega, fun e => by simp at e⟩, fun j x hx => ?_⟩
    · rw [wrL_app, hw, show wrL [⟨m, d, s⟩] = segB ⟨m, d, s⟩ by simp [wrL], h3, ← take_cut l (by omega)]
    · by_cases hj : j < acc.length
      · rw [List.getElem?_append_left hj] at hx
        exact hp j x hx
      · rw [List.getElem?_append_right (by omega)] at hx
        have hj2 : j = acc.length := by
          have := (List.getElem?_eq_some_iff.1 hx).1
          simp at this
          omega
        subst hj2
        rw [Nat.sub_self] at hx
        obtain rfl : (⟨m, d, s⟩ : Sg) = x := by simpa using hx
        by_cases hacc : acc = []
        · subst hacc
          have h216 := b1 rfl
          have := h4 (by rw [h216]; rfl)
          rw [if_pos List.length_nil]
          unfold bareB
          rw [h216, this.1, this.2]; rfl
        · have hne : ¬ acc.length = 0 := fun e => hacc (List.eq_nil_of_length_eq_zero e)
          rw [if_neg hne]
          obtain ⟨n216, hh⟩ := b2 hacc
          have hhd : hdB m = true := by
            rcases hh with h | h
            · exact absurd h h217
            · exact h
          have hal2 : aloB m = false := by unfold aloB; simp [n216, h217]
          obtain ⟨c1, c2, c3⟩ := h5 hal2
          unfold rightB
          rw [hhd, decide_eq_true c1]
          rcases c2 with c2 | c2
          · rw [c2]; rfl
          · rw [c2, decide_eq_true c3]; simp
  · rintro a acc d s a' ⟨hw, hal, ha0, hp⟩ h2 hm hs
    obtain ⟨h3, h4, h5⟩ := step_seg hby h2 hm hs
    have hle := lexS_le h2 hs
    obtain ⟨b1, b2⟩ := hbm ha0 (lexM_ok hm).2.2.2
    have hacc : acc ≠ [] := fun e => by have := b1 e; omega
    have hne : 0 < acc.length := by
      rcases Nat.eq_zero_or_pos acc.length with h | h
      · exact absurd (List.eq_nil_of_length_eq_zero h) hacc
      · exact h
    have hds := h4 rfl
    refine ⟨?_, ?_, hle.2⟩
    · unfold mayB
      rw [decide_eq_true (by rw [List.length_append]; simp; omega), Bool.true_and]
      refine mayF_of _ 0 fun j x hx => ?_
      rw [Nat.zero_add, List.length_append]
      by_cases hj : j < acc.length
      · rw [List.getElem?_append_left hj] at hx
        have := hp j x hx
        unfold okAt
        split
        · rename_i hj0
          rw [if_pos hj0] at this; exact this
        · rename_i hj0
          rw [if_neg hj0] at this
          rw [if_neg (by simp; omega)]; exact this
      · rw [List.getElem?_append_right (by omega)] at hx
        have hj2 : j = acc.length := by
          have := (List.getElem?_eq_some_iff.1 hx).1
          simp at this
          omega
        subst hj2
        rw [Nat.sub_self] at hx
        obtain rfl : (⟨217, d, s⟩ : Sg) = x := by simpa using hx
        unfold okAt
        rw [if_neg (by omega), if_pos (by simp)]
        unfold bareB
        rw [hds.1, hds.2]; rfl
    · rw [wrL_app, hw, show wrL [⟨217, d, s⟩] = segB ⟨217, d, s⟩ by simp [wrL], h3, ← take_cut l (by omega)]
end Go.Proofs.Ytfohajgljjffgaa
