/- Stripped images, and what is put in: the plain laws. -/
import Derived.Test.YtfohajgljjffgaaCoI
namespace Go.Proofs.Ytfohajgljjffgaa
open Go.RowKit
open Go.Tin
set_option linter.unusedVariables false
set_option linter.unusedSimpArgs false


theorem img_wr {K : List Sg} (hm : mayB K = true) (hs : K.any sosB = true) : imgE (wrL K) = 0 ∧ imgL (wrL K) = K := by
  have h := of_wr hm []
  rw [List.append_nil] at h
  unfold imgE imgL
  rw [h]
  simp only []
  rw [if_neg (by rw [hs]; simp), if_neg (by rw [hs]; simp)]
  exact ⟨rfl, rfl⟩
theorem sos_na {x : Sg} (h : sosB x = true) : isApp x = false := by
  unfold sosB at h
  unfold isApp appB
  have : x.m = 218 := by simpa using h
  rw [this]; rfl
theorem sos_filter {L : List Sg} (h : L.any sosB = true) : (L.filter notApp).any sosB = true := by
  obtain ⟨x, hx, hs⟩ := List.any_eq_true.1 h
  exact List.any_eq_true.2 ⟨x, List.mem_filter.2 ⟨hx, by unfold notApp; have := sos_na hs; unfold isApp at this; rw [this]; rfl⟩, hs⟩
theorem na_any (L : List Sg) : (L.filter notApp).any isApp = false := by
  cases h : (L.filter notApp).any isApp with
  | false => rfl
  | true =>
    obtain ⟨x, hx, hs⟩ := List.any_eq_true.1 h
    have := (List.mem_filter.1 hx).2
    unfold notApp at this
    unfold isApp at hs
    rw [hs] at this; cases this
theorem ia_any (L : List Sg) : (L.filter isApp).any notApp = false := by
  cases h : (L.filter isApp).any notApp with
  | false => rfl
  | true =>
    obtain ⟨x, hx, hs⟩ := List.any_eq_true.1 h
    have := (List.mem_filter.1 hx).2
    unfold isApp at this
    unfold notApp at hs
    rw [this] at hs; cases hs
theorem filter_all {q : Sg → Bool} {L : List Sg} (h : ∀ x ∈ L, q x = true) : L.filter q = L := List.filter_eq_self.2 h
theorem filter_none {q : Sg → Bool} {L : List Sg} (h : ∀ x ∈ L, q x = false) : L.filter q = [] := by
  rw [List.filter_eq_nil_iff]; intro x hx; rw [h x hx]; decide
theorem any_no {q : Sg → Bool} {L : List Sg} (h : L.any q = false) : ∀ x ∈ L, q x = false := fun x hx => by
  cases hq : q x with
  | false => rfl
  | true => rw [List.any_eq_true.2 ⟨x, hx, hq⟩] at h; cases h
theorem na_iff (x : Sg) : notApp x = !isApp x := rfl
/-- What is put in: it may be. -/
theorem put_may {F M : List Sg} (hF : mayB F = true) (hM : ∀ s ∈ M, rightB s = true) : mayB (F.take 1 ++ (M ++ F.drop 1)) = true := by
  obtain ⟨x, K, y, rfl, hx, hy, hK⟩ := may_iff.1 hF
  refine may_iff.2 ⟨x, M ++ K, y, by simp, hx, hy, fun s hs => ?_⟩
  rcases List.mem_append.1 hs with h | h
  · exact hM s h
  · exact hK s h
theorem wrL_parts (q : Sg → Bool) (L : List Sg) : (wrL (L.filter q)).length + (wrL (L.filter fun s => !q s)).length = (wrL L).length := by
  induction L with
  | nil => simp [wrL]
  | cons x L ih =>
    rw [List.filter_cons, List.filter_cons]
    cases q x <;> simp [wrL] <;> omega
theorem app_right {L : List Sg} (hm : mayB L = true) : ∀ s ∈ L.filter isApp, rightB s = true := fun s hs => by
  obtain ⟨x, M, y, rfl, hx, hy, hM⟩ := may_iff.1 hm
  obtain ⟨h1, h2⟩ := List.mem_filter.1 hs
  rcases List.mem_cons.1 h1 with rfl | h1
  · rw [isApp_no (.inl (bare_m hx))] at h2; cases h2
  · rcases List.mem_append.1 h1 with h1 | h1
    · exact hM s h1
    · rw [List.mem_singleton.1 h1, isApp_no (.inr (bare_m hy))] at h2; cases h2
/-- How many APPs stand right behind the first one. -/
def aheadN (L : List Sg) : Nat := ((L.drop 1).takeWhile isApp).length
/-- **An image, stripped.** -/
theorem strips {l : List Int} (hby : Byts l) (h0 : imgE l = 0) :
    imgE (stL l) = 0 ∧ stL (stL l) = stL l ∧ isB (stL l) = true ∧ pOK (stL l) (apL l) = true ∧ (pB (stL l) (apL l)).length = l.length ∧ isB l = decide ((apL l).length = 0) ∧ ((apL l).length ≤ aheadN (imgL l) → pB (stL l) (apL l) = l) := by
  obtain ⟨hm, hw, ho, hs⟩ := img_ok hby h0
  obtain ⟨L, hL⟩ : ∃ L, imgL l = L := ⟨_, rfl⟩
  have hst : stL l = wrL (L.filter notApp) := by unfold stL; rw [if_pos h0, hL]
  have hap : apL l = L.filter isApp := by unfold apL; rw [hL]
  rw [hL] at hm hw hs ⊢
  have hmf : mayB (L.filter notApp) = true := by rw [filt_na]; exact may_filter hm isApp (fun _ h => isApp_no h)
  obtain ⟨i1, i2⟩ := img_wr hmf (sos_filter hs)
  have hff : (L.filter notApp).filter notApp = L.filter notApp := by rw [List.filter_filter]; congr 1; funext s; simp
  have hisB : isB (stL l) = true := by unfold isB; rw [hst, i1, i2, na_any]; rfl
  have hpg : putG (stL l) (apL l) = (L.filter notApp).take 1 ++ (L.filter isApp ++ (L.filter notApp).drop 1) := by unfold putG; rw [hst, i2, hap]
  have hpok : pOK (stL l) (apL l) = true := by
    unfold pOK
    rw [hisB, hpg, put_may hmf (app_right hm), hap, ia_any]; rfl
  have hpb : pB (stL l) (apL l) = wrL ((L.filter notApp).take 1 ++ (L.filter isApp ++ (L.filter notApp).drop 1)) := by rw [(p_yes hpok).1, hpg]
  refine ⟨by rw [hst]; exact i1, ?_, hisB, hpok, ?_, ?_, ?_⟩
  · rw [hst]
    unfold stL
    rw [if_pos i1, i2, hff]
  · rw [hpb, wrL_app, wrL_app, List.length_append, List.length_append]
    have e1 : (wrL (L.filter notApp)).length = (wrL ((L.filter notApp).take 1)).length + (wrL ((L.filter notApp).drop 1)).length := by
      conv => lhs; rw [← List.take_append_drop 1 (L.filter notApp)]
      rw [wrL_app, List.length_append]
    have e2 := wrL_parts isApp L
    rw [← filt_na] at e2
    rw [hw] at e2
    omega
  · unfold isB
    rw [h0, hL, hap, ← some_is L]
    simp only [beq_self_eq_true, Bool.true_and]
    congr 2
    congr 2
    funext s; unfold someF isApp; cases appB s.m <;> rfl
  · intro hah
    obtain ⟨x, K, y, rfl, hx, hy, hK⟩ := may_iff.1 hm
    have hx0 : isApp x = false := isApp_no (.inl (bare_m hx))
    rw [hap] at hah
    unfold aheadN at hah
    simp only [List.drop_succ_cons, List.drop_zero] at hah
    obtain ⟨T, hT⟩ : ∃ T, K ++ [y] = T := ⟨_, rfl⟩
    rw [hT] at hah hpb hw
    have hsplit := List.takeWhile_append_dropWhile (p := isApp) (l := T)
    have htw : ∀ s ∈ T.takeWhile isApp, isApp s = true := fun s hs => by
      have := List.all_takeWhile (p := isApp) (l := T)
      exact List.all_eq_true.1 this s hs
    have hf1 : (x :: T).filter isApp = T.takeWhile isApp ++ (T.dropWhile isApp).filter isApp := by
      rw [List.filter_cons, hx0, if_neg (by decide)]
      conv => lhs; rw [← hsplit]
      rw [List.filter_append, filter_all htw]
    have hdn : (T.dropWhile isApp).filter isApp = [] := by
      rw [hf1, List.length_append] at hah
      exact List.eq_nil_of_length_eq_zero (by omega)
    have hdf : ∀ s ∈ T.dropWhile isApp, isApp s = false := fun s hs => by
      cases hq : isApp s with
      | false => rfl
      | true =>
        have := List.mem_filter.2 ⟨hs, hq⟩
        rw [hdn] at this; cases this
    have hf2 : (x :: T).filter notApp = x :: T.dropWhile isApp := by
      rw [List.filter_cons, na_iff, hx0, if_pos (by rfl)]
      conv => lhs; rw [← hsplit]
      rw [List.filter_append, filter_none (fun s hs => by rw [na_iff, htw s hs]; rfl), filter_all (fun s hs => by rw [na_iff, hdf s hs]; rfl), List.nil_append]
    rw [hpb, hf1, hf2, hdn, List.append_nil, ← hw]
    congr 1
    simp only [List.take_succ_cons, List.take_zero, List.drop_succ_cons, List.drop_zero]
    rw [hsplit]; rfl
end Go.Proofs.Ytfohajgljjffgaa
