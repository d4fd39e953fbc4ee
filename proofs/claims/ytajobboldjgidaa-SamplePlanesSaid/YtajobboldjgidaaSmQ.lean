/- The reference's Fits. -/
import Derived.Test.YtajobboldjgidaaSmO
namespace Go.Proofs.Ytajobboldjgidaa
open Go.RowKit
open Go.Tin
set_option linter.unusedVariables false
set_option linter.unusedSimpArgs false


set_option maxRecDepth 100000 in
set_option maxHeartbeats 8000000 in
theorem fits_any (k : Int) (L : List Pn) (A : Option Addr) (c : Nat) (w : World) (hs : PlS w A L) (hn : L.length ≤ 1000000) :
    Calls Try.prog 21 #[.slice A L.length c, .int .i64 k] w fun e w' => e = .returned (.bool (okPt k L)) ∧ Below w.heap.size w w' := by
  have HS := Lib.hid hs
  clear hs
  cases hk : okK k with
  | false =>
    have HE := Lib.hid (show okPt k L = false by unfold okPt; rw [hk]; rfl)
    have h0 : fH k = 0 := by
      unfold okK at hk
      unfold fH
      simp only [Bool.and_eq_false_iff, decide_eq_false_iff_not] at hk
      simp only [if_neg (show ¬ k = 1 by omega), if_neg (show ¬ k = 2 by omega), if_neg (show ¬ k = 3 by omega)]
    have H0 := Lib.hid h0
    clear hk h0
    go_enter Try.func21, Try.ntmps21
    go_wp2_with fail
    refine (rfactors_any k w).mono ?_
    rintro e w' ⟨rfl, rfl⟩
    rw [H0.out]
    go_wp2_with fail
    go_ret
    exact ⟨ret_bool HE.out.symm, brefl w⟩
  | true =>
  obtain ⟨⟨x0, x1⟩, y0, y1⟩ := fHV_bd hk
  have n0 : (fH k == 0) = false := by rw [beq_eq_false_iff_ne]; omega
  by_cases h3 : L.length = 3
  case neg =>
    have HE := Lib.hid (show okPt k L = false by unfold okPt; rw [hk, decide_eq_false h3]; rfl)
    have j1 : ((L.length : Int) != 3) = true := by rw [bne_iff_ne]; omega
    clear hk
    go_enter Try.func21, Try.ntmps21
    go_wp2_with fail
    refine (rfactors_any k w).mono ?_
    rintro e w' ⟨rfl, rfl⟩
    go_wp2_with fail
    go_ret
    exact ⟨ret_bool HE.out.symm, brefl w⟩
  obtain ⟨p, q, r, rfl⟩ : ∃ p q r, L = [p, q, r] := by
    match L, h3 with
    | [p, q, r], _ => exact ⟨p, q, r, rfl⟩
  clear h3
  obtain ⟨b, off, A0, c0, A1, c1, A2, c2, rfl, hlt, hr0, hr1, hr2, ⟨hv0, hv1, hv2⟩, hl0, hl1, hl2⟩ := PlS.three HS.out
  obtain ⟨W, H, v⟩ := p
  obtain ⟨W1, H1, v1⟩ := q
  obtain ⟨W2, H2, v2⟩ := r
  dsimp only at *
  have HE := Lib.hid (show okPt k [⟨W, H, v⟩, ⟨W1, H1, v1⟩, ⟨W2, H2, v2⟩] = (!(!mayP W H v || (!mayP W1 H1 v1 || (!mayP W2 H2 v2 || false))) && (decide (W1 = ptV W (fH k)) && decide (H1 = ptV H (fV k)) && ((decide (W2 = ptV W (fH k)) && decide (H2 = ptV H (fV k))) && true))) by unfold okPt; rw [hk]; rfl)
  have HR0 := Lib.hid hr0
  have HR1 := Lib.hid hr1
  have HR2 := Lib.hid hr2
  have HV0 := Lib.hid hv0
  have HV1 := Lib.hid hv1
  have HV2 := Lib.hid hv2
  clear hr0 hr1 hr2 hv0 hv1 hv2 HS hk hn
  have HFX := Lib.hid (rfl : fH k = fH k)
  have HB := Lib.hid (brefl w)
  go_enter Try.func21, Try.ntmps21

  go_wp2_with fail
  refine (rfactors_any k w).mono ?_
  rintro e w' ⟨rfl, rfl⟩
  have HL := Lib.hid (rng_keep HB.out hlt HR0.out)
  go_wp2_with ((with_reducible refine wpl_loadv rtP ?_ (.tmp 23) ?_ b off ?_ [.int .i64 W, .int .i64 H, .slice A0 v.length c0] ?_ HL.out ?_); rfl; rfl; rfl; rfl; simp only [Act.put, List.setIfInBounds_toArray, List.set_cons_succ, List.set_cons_zero])
  clear HL
  refine (rmayP_any W H A0 c0 v _ (HV0.out.keep HB.out) hl0).mono ?_
  rintro e x1 ⟨rfl, hb⟩
  replace HB := Lib.hid (HB.out.trans (hb.mono HB.out.size))
  clear hb
  cases hm0 : mayP W H v with
  | false =>
    have HF := Lib.hid (show okPt k [⟨W, H, v⟩, ⟨W1, H1, v1⟩, ⟨W2, H2, v2⟩] = false by rw [HE.out, hm0]; simp)
    clear HE
    go_wp2_with fail
    go_ret
    exact ⟨ret_bool HF.out.symm, HB.out⟩
  | true =>
  have HL := Lib.hid (rng_keep HB.out hlt HR1.out)
  go_wp2_with ((with_reducible refine wpl_loadv rtP ?_ (.tmp 30) ?_ b (off + 3) ?_ [.int .i64 W1, .int .i64 H1, .slice A1 v1.length c1] ?_ HL.out ?_); rfl; rfl; rfl; rfl; simp only [Act.put, List.setIfInBounds_toArray, List.set_cons_succ, List.set_cons_zero])
  clear HL
  refine (rmayP_any W1 H1 A1 c1 v1 _ (HV1.out.keep HB.out) hl1).mono ?_
  rintro e x2 ⟨rfl, hb⟩
  replace HB := Lib.hid (HB.out.trans (hb.mono HB.out.size))
  clear hb
  cases hm1 : mayP W1 H1 v1 with
  | false =>
    have HF := Lib.hid (show okPt k [⟨W, H, v⟩, ⟨W1, H1, v1⟩, ⟨W2, H2, v2⟩] = false by rw [HE.out, hm0, hm1]; simp)
    clear HE
    go_wp2_with fail
    go_ret
    exact ⟨ret_bool HF.out.symm, HB.out⟩
  | true =>
  have HL := Lib.hid (rng_keep HB.out hlt HR2.out)
  go_wp2_with ((with_reducible refine wpl_loadv rtP ?_ (.tmp 37) ?_ b (off + 6) ?_ [.int .i64 W2, .int .i64 H2, .slice A2 v2.length c2] ?_ HL.out ?_); rfl; rfl; rfl; rfl; simp only [Act.put, List.setIfInBounds_toArray, List.set_cons_succ, List.set_cons_zero])
  clear HL
  refine (rmayP_any W2 H2 A2 c2 v2 _ (HV2.out.keep HB.out) hl2).mono ?_
  rintro e x3 ⟨rfl, hb⟩
  replace HB := Lib.hid (HB.out.trans (hb.mono HB.out.size))
  clear hb
  cases hm2 : mayP W2 H2 v2 with
  | false =>
    have HF := Lib.hid (show okPt k [⟨W, H, v⟩, ⟨W1, H1, v1⟩, ⟨W2, H2, v2⟩] = false by rw [HE.out, hm0, hm1, hm2]; simp)
    clear HE
    go_wp2_with fail
    go_ret
    exact ⟨ret_bool HF.out.symm, HB.out⟩
  | true =>
  rw [hm0, hm1, hm2] at HE
  obtain ⟨W0a, W0b⟩ := mayP_W hm0
  obtain ⟨H0a, H0b⟩ := mayP_H hm0
  replace HE := Lib.hid (show okPt k [⟨W, H, v⟩, ⟨W1, H1, v1⟩, ⟨W2, H2, v2⟩] = (decide (W1 = ptV W (fH k)) && decide (H1 = ptV H (fV k)) && (decide (W2 = ptV W (fH k)) && decide (H2 = ptV H (fV k)))) by rw [HE.out]; simp)
  clear hm0 hm1 hm2
  go_wp2_with fail
  have SZ : x3.heap.size ≤ x3.drew.heap.size := Nat.le_refl _
  have hb := ud' (brefl x3)
  replace HB := Lib.hid (HB.out.trans (hb.mono HB.out.size))
  clear hb
  refine Tin.reg_begin (x3.heap.size) 14 (by rfl) (by kernel_rfl) ?_
  have HBS : w.heap.size ≤ x3.heap.size := HB.out.size
  have kW : ∀ p : Bel (x3.heap.size) x3.drew, p.w'.cell? ⟨b, off, none⟩ = some (.int .i64 W) := fun p => rng_keep (HB.out.trans (p.h.mono HBS)) hlt HR0.out 0 _ rfl
  have kH : ∀ p : Bel (x3.heap.size) x3.drew, p.w'.cell? ⟨b, off + 1, none⟩ = some (.int .i64 H) := fun p => rng_keep (HB.out.trans (p.h.mono HBS)) hlt HR0.out 1 _ rfl
  refine Tin.reg_quiets [0, 1, 2, 3, 4, 6, 7, 8, 9, 10] _ 4 rfl (by simp only [Tin.pick, List.map_cons, List.map_nil, Array.getD_eq_getD_getElem?, List.getElem?_toArray, List.getElem?_cons_zero, List.getElem?_cons_succ, Option.getD_some]; rfl) (by kernel_rfl) (by kernel_rfl) ?_
  repeat (first | go_big_quiet_step (fail))
  refine wpQuiet_nil ?_
  clear kW kH
  refine Tin.reg_one 5 _ rfl (by kernel_rfl) ?_
  try simp only [List.getElem_toArray, List.getElem_cons_succ, List.getElem_cons_zero]
  go_wp2_with fail
  refine (rparts_any W (fH k) _ (by omega) (by omega)).mono ?_
  rintro e w' ⟨rfl, rfl⟩
  go_wp2_with fail
  refine ⟨x3.heap.size, Below.refl _ _, Nat.le_refl _, ?_⟩
  refine Tin.reg_one 11 _ rfl (by kernel_rfl) ?_
  try simp only [List.getElem_toArray, List.getElem_cons_succ, List.getElem_cons_zero]
  go_wp2_with fail
  refine (rparts_any H (fV k) _ (by omega) (by omega)).mono ?_
  rintro e w' ⟨rfl, rfl⟩
  go_wp2_with fail
  refine ⟨x3.heap.size, Below.refl _ _, Nat.le_refl _, ?_⟩
  refine Tin.reg_quiets [12, 13] _ 0 rfl (by simp only [Tin.pick, List.map_cons, List.map_nil, Array.getD_eq_getD_getElem?, List.getElem?_toArray, List.getElem?_cons_zero, List.getElem?_cons_succ, Option.getD_some]; rfl) (by kernel_rfl) (by kernel_rfl) ?_
  repeat (first | go_big_quiet_step (fail))
  refine wpQuiet_nil ?_
  generalize ptV W (fH k) = P at *
  generalize ptV H (fV k) = Q at *
  have m0 : x3.drew.cell? ⟨b, off + 3, none⟩ = some (.int .i64 W1) := rng_keep HB.out hlt HR1.out 0 _ rfl
  have m1 : x3.drew.cell? ⟨b, off + 3 + 1, none⟩ = some (.int .i64 H1) := rng_keep HB.out hlt HR1.out 1 _ rfl
  have m2 : x3.drew.cell? ⟨b, off + 6, none⟩ = some (.int .i64 W2) := rng_keep HB.out hlt HR2.out 0 _ rfl
  have m3 : x3.drew.cell? ⟨b, off + 6 + 1, none⟩ = some (.int .i64 H2) := rng_keep HB.out hlt HR2.out 1 _ rfl
  refine Tin.reg_done (by kernel_rfl) ?_
  by_cases h0 : W1 = P
  case neg =>
    have j0 : (W1 == P) = false := by rw [beq_eq_false_iff_ne]; exact h0
    have HF := Lib.hid (show okPt k [⟨W, H, v⟩, ⟨W1, H1, v1⟩, ⟨W2, H2, v2⟩] = false by rw [HE.out, decide_eq_false h0]; simp)
    clear HE
    clear h0
    go_wp2_with fail
    go_ret
    exact ⟨ret_bool HF.out.symm, HB.out⟩
  by_cases h1 : H1 = Q
  case neg =>
    have j1 : (H1 == Q) = false := by rw [beq_eq_false_iff_ne]; exact h1
    have HF := Lib.hid (show okPt k [⟨W, H, v⟩, ⟨W1, H1, v1⟩, ⟨W2, H2, v2⟩] = false by rw [HE.out, decide_eq_true h0, decide_eq_false h1]; simp)
    clear HE
    have j0 : (W1 == P) = true := by rw [beq_iff_eq]; exact h0
    clear h0 h1
    go_wp2_with fail
    go_ret
    exact ⟨ret_bool HF.out.symm, HB.out⟩
  by_cases h2 : W2 = P
  case neg =>
    have j2 : (W2 == P) = false := by rw [beq_eq_false_iff_ne]; exact h2
    have HF := Lib.hid (show okPt k [⟨W, H, v⟩, ⟨W1, H1, v1⟩, ⟨W2, H2, v2⟩] = false by rw [HE.out, decide_eq_true h0, decide_eq_true h1, decide_eq_false h2]; simp)
    clear HE
    have j0 : (W1 == P) = true := by rw [beq_iff_eq]; exact h0
    have j1 : (H1 == Q) = true := by rw [beq_iff_eq]; exact h1
    clear h0 h1 h2
    go_wp2_with fail
    go_ret
    exact ⟨ret_bool HF.out.symm, HB.out⟩
  by_cases h3 : H2 = Q
  case neg =>
    have j3 : (H2 == Q) = false := by rw [beq_eq_false_iff_ne]; exact h3
    have HF := Lib.hid (show okPt k [⟨W, H, v⟩, ⟨W1, H1, v1⟩, ⟨W2, H2, v2⟩] = false by rw [HE.out, decide_eq_true h0, decide_eq_true h1, decide_eq_true h2, decide_eq_false h3]; simp)
    clear HE
    have j0 : (W1 == P) = true := by rw [beq_iff_eq]; exact h0
    have j1 : (H1 == Q) = true := by rw [beq_iff_eq]; exact h1
    have j2 : (W2 == P) = true := by rw [beq_iff_eq]; exact h2
    clear h0 h1 h2 h3
    go_wp2_with fail
    go_ret
    exact ⟨ret_bool HF.out.symm, HB.out⟩
  have HF := Lib.hid (show okPt k [⟨W, H, v⟩, ⟨W1, H1, v1⟩, ⟨W2, H2, v2⟩] = true by rw [HE.out, decide_eq_true h0, decide_eq_true h1, decide_eq_true h2, decide_eq_true h3]; rfl)
  clear HE
  have j0 : (W1 == P) = true := by rw [beq_iff_eq]; exact h0
  have j1 : (H1 == Q) = true := by rw [beq_iff_eq]; exact h1
  have j2 : (W2 == P) = true := by rw [beq_iff_eq]; exact h2
  have j3 : (H2 == Q) = true := by rw [beq_iff_eq]; exact h3
  clear h0 h1 h2 h3
  go_wp2_with fail
  go_ret
  exact ⟨ret_bool HF.out.symm, HB.out⟩
end Go.Proofs.Ytajobboldjgidaa
