/- Strip, Apps. -/
import Derived.Test.YtfohajgljjffgaaCoC
namespace Go.Proofs.Ytfohajgljjffgaa
open Go.RowKit
open Go.Tin
set_option linter.unusedVariables false
set_option linter.unusedSimpArgs false


theorem may_iff {L : List Sg} : mayB L = true ↔ ∃ x M y, L = x :: (M ++ [y]) ∧ bareB x 216 = true ∧ bareB y 217 = true ∧ ∀ s ∈ M, rightB s = true := by
  constructor
  · intro hm
    have h2 : 2 ≤ L.length := by unfold mayB at hm; rw [Bool.and_eq_true] at hm; exact of_decide_eq_true hm.1
    cases L with
    | nil => simp at h2
    | cons x T =>
      have hT : T ≠ [] := fun e => by subst e; simp at h2
      have hs := List.dropLast_concat_getLast hT
      have hn : (x :: T).length = T.length + 1 := rfl
      have hTl : 1 ≤ T.length := by simp at h2; omega
      have hy : (x :: T)[T.length]? = some (T.getLast hT) := by
        obtain ⟨k, hk⟩ : ∃ k, T.length = k + 1 := ⟨T.length - 1, by omega⟩
        rw [hk, List.getElem?_cons_succ, List.getLast_eq_getElem, List.getElem?_eq_getElem (by omega)]
        simp [hk]
      have hsp := may_split hn hTl (x := x) rfl hy
      rw [hm] at hsp
      have hsp := hsp.symm
      simp only [Bool.and_eq_true, Bool.not_eq_true', List.drop_succ_cons, List.drop_zero] at hsp
      refine ⟨x, T.dropLast, T.getLast hT, by rw [hs], hsp.1, hsp.2.1, fun s hs' => ?_⟩
      rw [List.dropLast_eq_take] at hs'
      cases hr : rightB s with
      | true => rfl
      | false =>
        have : (T.take (T.length - 1)).any (fun s => !rightB s) = true := List.any_eq_true.2 ⟨s, hs', by rw [hr]; rfl⟩
        rw [hsp.2.2] at this; cases this
  · rintro ⟨x, M, y, rfl, h1, h2, h3⟩
    have hy : (x :: (M ++ [y]))[M.length + 1]? = some y := by simp
    rw [may_split (n := M.length + 1) (by simp) (by omega) (x := x) rfl hy, h1, h2]
    simp only [List.drop_succ_cons, List.drop_zero, Nat.add_sub_cancel, List.take_left, Bool.true_and, Bool.not_eq_true']
    cases ha : M.any (fun s => !rightB s) with
    | false => rfl
    | true =>
      obtain ⟨s, hs, hr⟩ := List.any_eq_true.1 ha
      rw [h3 s hs] at hr; cases hr
theorem bare_m {x : Sg} {m : Int} (h : bareB x m = true) : x.m = m := by unfold bareB at h; simp at h; exact h.1
theorem may_filter {L : List Sg} (hm : mayB L = true) (q : Sg → Bool) (h1 : ∀ x : Sg, x.m = 216 ∨ x.m = 217 → q x = false) : mayB (L.filter fun s => !q s) = true := by
  obtain ⟨x, M, y, rfl, hx, hy, hM⟩ := may_iff.1 hm
  refine may_iff.2 ⟨x, M.filter (fun s => !q s), y, ?_, hx, hy, fun s hs => hM s (List.mem_filter.1 hs).1⟩
  rw [List.filter_cons, if_pos (by rw [h1 x (.inl (bare_m hx))]; rfl), List.filter_append]
  simp [h1 y (.inr (bare_m hy))]
theorem wrL_filter (q : Sg → Bool) (L : List Sg) : (wrL (L.filter q)).length ≤ (wrL L).length := by
  induction L with
  | nil => simp [wrL]
  | cons x L ih =>
    rw [List.filter_cons]
    split
    · simp only [wrL, List.length_append]; omega
    · simp only [wrL, List.length_append]; omega
theorem isApp_no {x : Sg} (h : x.m = 216 ∨ x.m = 217) : isApp x = false := by
  unfold isApp appB
  rcases h with h | h <;> rw [h] <;> rfl
theorem img_ok {l : List Int} (hby : Byts l) (h : imgE l = 0) : mayB (imgL l) = true ∧ wrL (imgL l) = l ∧ ofR l = .ok (imgL l) l.length ∧ (imgL l).any sosB = true := by
  unfold imgE at h
  unfold imgL
  cases hr : ofR l with
  | err p q =>
    rw [hr] at h
    have := ofR_err hr
    simp only [] at h
    omega
  | ok L a =>
    rw [hr] at h
    simp only [] at h ⊢
    split at h
    · cases h
    · rename_i hn
      rw [if_neg hn]
      obtain ⟨h1, h2, h3⟩ := ofR_back hby hr
      have ha : a = l.length := by
        by_cases hlt : (a : Int) < l.length
        · exact absurd (.inl hlt) hn
        · omega
      refine ⟨h1, by rw [h2, ha, List.take_length], by rw [ha], ?_⟩
      cases hs : L.any sosB with
      | true => rfl
      | false => exact absurd (.inr hs) hn
def stL (l : List Int) : List Int := if imgE l = 0 then wrL ((imgL l).filter notApp) else []
def apL (l : List Int) : List Sg := (imgL l).filter isApp
theorem filt_na (L : List Sg) : L.filter notApp = L.filter fun s => !isApp s := rfl
theorem filt_ia (L : List Sg) : L.filter isApp = L.filter fun s => !notApp s := by
  congr 1; funext s; unfold notApp isApp; rw [Bool.not_not]
theorem by_filter {L : List Sg} (h : BySg L) (q : Sg → Bool) : BySg (L.filter q) := fun s hs => h s (List.mem_filter.1 hs).1
set_option maxRecDepth 100000 in
theorem strip_any (A : Option Addr) (l : List Int) (cap : Nat) (w : World) (hs : Sl .u8 w A l) (hcap : l.length ≤ cap) (hl : l.length ≤ 100000) (hby : Byts l) :
    Calls Try.prog 8 #[.slice A l.length cap] w fun e w' => ∃ A' c', e = .returned (.tuple #[.slice A' (stL l).length c', .int .i64 (imgE l)]) ∧ Own .u8 5 w' w.heap.size (.slice A' (stL l).length c') (stL l) ∧ Byts (stL l) ∧ Below w.heap.size w w' := by
  have HI := Lib.hid (image_any A l cap w hs hcap (by omega) hby)
  have HBY := Lib.hid (img_by hby (show l.length ≤ 1000000 by omega))
  have HOK := Lib.hid (fun h => img_ok hby h)
  have HST := Lib.hid (show stL l = if imgE l = 0 then wrL ((imgL l).filter notApp) else [] from rfl)
  clear hs hby
  go_enter Try.func8, Try.ntmps8
  go_wp2_with fail
  refine HI.out.mono ?_
  rintro e w1 ⟨A1, c1, xs, rfl, ho, hsv, hb⟩
  by_cases h0 : imgE l = 0
  · have hok := HOK.out h0
    have n0 : (imgE l != 0) = false := by rw [h0]; rfl
    have HE := Lib.hid h0
    rw [if_pos h0] at HST
    have hL : (imgL l).length ≤ 1000000 := by have := HBY.out.2.1; omega
    have HMF := Lib.hid (may_filter hok.1 isApp (fun _ h => isApp_no h))
    have HWL := Lib.hid (show (wrL ((imgL l).filter fun s => !isApp s)).length ≤ 900000 by have := wrL_filter (fun s => !isApp s) (imgL l); rw [hok.2.1] at this; omega)
    have HB1 := Lib.hid (HBY.out.1)
    clear h0 hok HOK HBY HI
    generalize imgL l = L at *
    generalize hEE : imgE l = E at *
    have HEQ := Lib.hid hEE
    clear hEE
    go_wp2_with fail
    refine (delete_any 26 (hcf 26 Try.f26 _ Try.func26 (by kernel_rfl) rfl) isApp A1 c1 L xs w1 w.heap.size hb.size ho hsv HB1.out hL appq).mono ?_
    rintro e w2 ⟨A2, c2, ys, rfl, ho2, hsv2, hb2⟩
    rw [filt_na] at HST
    have HB2 := Lib.hid (by_filter HB1.out fun s => !isApp s)
    have hL2 : (L.filter fun s => !isApp s).length ≤ 1000000 := Nat.le_trans (List.length_filter_le _ _) hL
    generalize (L.filter fun s => !isApp s) = K at *
    have HS2 := Lib.hid (SegS.own ho2 hsv2 HB2.out)
    have hc2 : K.length ≤ c2 := ho2.sl'.2.2.1
    have HBW := Lib.hid ((hb.mono (Nat.le_refl _)).trans hb2)
    clear ho hsv hb ho2 hsv2 hb2
    go_wp2_with fail
    refine (write_any A2 c2 K w2 HS2.out hL2 hc2 (fun _ => HWL.out)).mono ?_
    rintro e w3 (⟨hm, _⟩ | ⟨_, A3, c3, rfl, ho3, hby3, hb3⟩)
    · rw [HMF.out] at hm; cases hm
    go_wp2_with fail
    go_ret2
    rw [HST.out]
    exact ⟨A3, c3, by rw [HEQ.out, HE.out]; rfl, ho3.mono HBW.out.size, hby3, HBW.out.trans (hb3.mono HBW.out.size)⟩
  · have n0 : (imgE l != 0) = true := by rw [bne_iff_ne]; exact h0
    rw [if_neg h0] at HST
    clear h0 HOK HBY HI ho hsv
    generalize imgL l = L at *
    generalize hEE : imgE l = E at *
    have HEQ := Lib.hid hEE
    clear hEE
    go_wp2_with fail
    go_ret2
    rw [HST.out]
    exact ⟨none, 0, by rw [HEQ.out]; rfl, Own.nil_ _ _ _ _, fun x hx => (by cases hx), hb⟩
set_option maxRecDepth 100000 in
theorem capps_any (A : Option Addr) (l : List Int) (cap : Nat) (w : World) (hs : Sl .u8 w A l) (hcap : l.length ≤ cap) (hl : l.length ≤ 100000) (hby : Byts l) :
    Calls Try.prog 9 #[.slice A l.length cap] w fun e w' => ∃ A' c' xs, e = .returned (.tuple #[.slice A' (apL l).length c', .int .i64 (imgE l)]) ∧ OwnV 36 3 w' w.heap.size (.slice A' (apL l).length c') (apL l).length xs ∧ SgV (fun v d => Own .u8 5 w' w.heap.size v d) xs (apL l) ∧ Below w.heap.size w w' := by
  have HI := Lib.hid (image_any A l cap w hs hcap (by omega) hby)
  have HBY := Lib.hid (img_by hby (show l.length ≤ 1000000 by omega))
  have HAP := Lib.hid (show apL l = (imgL l).filter isApp from rfl)
  clear hs hby
  go_enter Try.func9, Try.ntmps9
  go_wp2_with fail
  refine HI.out.mono ?_
  rintro e w1 ⟨A1, c1, xs, rfl, ho, hsv, hb⟩
  by_cases h0 : imgE l = 0
  · have n0 : (imgE l != 0) = false := by rw [h0]; rfl
    have HE := Lib.hid h0
    have hL : (imgL l).length ≤ 1000000 := by have := HBY.out.2.1; omega
    have HB1 := Lib.hid (HBY.out.1)
    clear h0 HBY HI
    generalize imgL l = L at *
    generalize hEE : imgE l = E at *
    have HEQ := Lib.hid hEE
    clear hEE
    go_wp2_with fail
    refine (delete_any 27 (hcf 27 Try.f27 _ Try.func27 (by kernel_rfl) rfl) notApp A1 c1 L xs w1 w.heap.size hb.size ho hsv HB1.out hL otherq).mono ?_
    rintro e w2 ⟨A2, c2, ys, rfl, ho2, hsv2, hb2⟩
    rw [filt_ia] at HAP
    generalize (L.filter fun s => !notApp s) = K at *
    go_wp2_with fail
    go_ret2
    rw [HAP.out]
    exact ⟨A2, c2, ys, by rw [HEQ.out, HE.out]; rfl, ho2, hsv2, hb.trans hb2⟩
  · have n0 : (imgE l != 0) = true := by rw [bne_iff_ne]; exact h0
    have hnil := HBY.out.2.2
    have hL0 : imgL l = [] := by rcases hnil with h | h; exact absurd h h0; exact h.2
    rw [hL0] at HAP
    clear h0 hnil hL0 HBY HI ho hsv
    generalize imgL l = L at *
    generalize hEE : imgE l = E at *
    have HEQ := Lib.hid hEE
    clear hEE
    go_wp2_with fail
    go_ret2
    rw [HAP.out]
    exact ⟨none, 0, [], by rw [HEQ.out]; rfl, OwnV.nil_ _ _ _ _, .nil, hb⟩
end Go.Proofs.Ytfohajgljjffgaa
