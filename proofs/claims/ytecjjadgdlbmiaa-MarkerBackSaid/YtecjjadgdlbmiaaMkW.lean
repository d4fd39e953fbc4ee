/- MarkerBack: the walk. -/
import Derived.Test.YtecjjadgdlbmiaaMkU
import Derived.Test.YtecjjadgdlbmiaaMkV
namespace Go.Proofs.Ytecjjadgdlbmiaa
open Go.RowKit
open Go.Tin
set_option linter.unusedVariables false
set_option linter.unusedSimpArgs false


set_option maxRecDepth 100000 in
set_option maxHeartbeats 16000000 in
theorem mback_any (A : Option Addr) (len cap : Nat) (Ab : Option Addr) (lenb capb : Nat) (lb : List Int) (w : World) (ft : Fits w (.slice 3 segSh) [.slice A len cap]) (sz : Sized w (.slice 3 segSh) [.slice A len cap]) (hrb : IsRow .u8 w Ab lenb capb lb) :
    Calls Try.prog 5 #[.slice A len cap, .slice Ab lenb capb] w fun e w' => e = .returned (.bool true) ∧ Below w.heap.size w w' := by
  obtain ⟨L, xs, rfl, h1, h2, hlc, hcm⟩ := segs_of_fits ft sz
  obtain ⟨hsb, hlenb, hlcb, hcmb, hwfb⟩ := Sl.of_row hrb
  have hbyb := byts_wf hwfb
  generalize lb.take lenb = lb at *
  subst hlenb
  clear hwfb hrb ft sz
  unfold maxLen at hcmb
  have HV := Lib.hid (vast_any A cap L xs w h1 (sgv_n h2) (by omega))
  have H1 := Lib.hid h1
  have H2 := Lib.hid h2
  have HBB := Lib.hid hbyb
  have HSB := Lib.hid hsb
  clear h1 h2 hbyb hsb
  go_enter Try.func5, Try.ntmps5
  go_wp2_with fail
  refine HV.out.mono ?_
  rintro e w' ⟨rfl, rfl⟩
  cases hv : vastB L with
  | true =>
    clear hv
    go_wp2_with fail
    refine (awake_any _).mono ?_
    rintro e w9 ⟨rfl, hb9⟩
    go_wp2_with fail
    go_ret
    exact ⟨rfl, hb9⟩
  | false =>
  by_cases h3 : 3000 < lb.length
  · have i3 : (3000 : Int) < (lb.length : Int) := by omega
    go_wp2_with fail
    refine (awake_any _).mono ?_
    rintro e w9 ⟨rfl, hb9⟩
    go_wp2_with fail
    go_ret
    exact ⟨rfl, hb9⟩
  have i3 : (lb.length : Int) ≤ 3000 := by omega
  have hlb : lb.length ≤ 3000 := by omega
  clear h3
  have hvn := vast_no hv
  have hll : L.length ≤ 1000000 := by omega
  have HS := Lib.hid (show SegS w A L from ⟨xs, H1.out, sgv_s H2.out hvn.2.2⟩)
  have HML := Lib.hid (fun hm => may_len (L := L) hm hv)
  have HWL := Lib.hid (fun hm => Nat.le_trans (may_len (L := L) hm hv) (show 3160 ≤ 900000 by decide))
  clear hv hvn H1 H2
  go_wp2_with fail
  refine (write_any A cap L w HS.out hll hlc HWL.out).mono ?_
  rintro e v1 (⟨hm, rfl, hb1⟩ | ⟨hm, A1, c1, rfl, ho1, hby1, hb1⟩)
  · have HM := Lib.hid hm
    have HB1 := Lib.hid hb1
    clear hm hb1
    go_wp2_with fail
    refine (gmay_any A cap L v1 (HS.out.keep HB1.out) hll hlc).mono ?_
    rintro e v2 ⟨rfl, hb2⟩
    rw [HM.out]
    have HBV := Lib.hid (HB1.out.trans (hb2.mono HB1.out.size))
    clear hb2
    go_wp2_with fail
    refine (of_any Ab lb capb v2 (HSB.out.keep HBV.out) hlcb (by omega) HBB.out).mono ?_
    intro e v7 hp
    obtain ⟨T, hT⟩ : ∃ T, ofR lb = T := ⟨_, rfl⟩
    rw [hT] at hp
    cases T with
    | err p q =>
      obtain ⟨rfl, hb7⟩ := hp
      obtain ⟨hp0, hp1, hpq⟩ := ofR_err hT
      clear hT
      rcases hpq with rfl | ⟨rfl, rfl⟩
      · go_wp2_with fail
        refine (awake_any _).mono ?_
        rintro e w9 ⟨rfl, hb9⟩
        go_wp2_with fail
        go_ret
        exact ⟨rfl, HBV.out.trans ((hb7.mono HBV.out.size).trans (hb9.mono (Nat.le_trans HBV.out.size hb7.size)))⟩
      · go_wp2_with fail
        refine (awake_any _).mono ?_
        rintro e w9 ⟨rfl, hb9⟩
        go_wp2_with fail
        go_ret
        exact ⟨rfl, HBV.out.trans ((hb7.mono HBV.out.size).trans (hb9.mono (Nat.le_trans HBV.out.size hb7.size)))⟩
    | ok M a =>
      obtain ⟨A7, c7, ys, rfl, ho7, hs7, hb7⟩ := hp
      obtain ⟨hmM, hwM, haM⟩ := ofR_back HBB.out hT
      have hBy := ofR_by HBB.out (show lb.length ≤ 1000000 by omega) hT
      have HS7 := Lib.hid (SegS.own ho7 hs7 hBy.1)
      have hc7 : M.length ≤ c7 := ho7.sl'.2.2.1
      have hM7 : M.length ≤ 1000000 := by have := hBy.2.1; omega
      have HB7 := Lib.hid (HBV.out.trans (hb7.mono HBV.out.size))
      have HMM := Lib.hid hmM
      clear hT ho7 hs7 hb7 hBy hmM
      go_wp2_with fail
      refine (write_any A7 c7 M v7 HS7.out hM7 hc7 (fun _ => by rw [hwM, List.length_take]; omega)).mono ?_
      rintro e v8 (⟨hm8, _⟩ | ⟨_, A8, c8, rfl, ho8, hby8, hb8⟩)
      · rw [HMM.out] at hm8; cases hm8
      obtain ⟨X, hX⟩ : ∃ X, lb.take a = X := ⟨_, rfl⟩
      have HXL := Lib.hid (show a = X.length by rw [← hX, List.length_take]; omega)
      have HB8 := Lib.hid (HB7.out.trans (hb8.mono HB7.out.size))
      rw [hwM, hX] at ho8 ⊢
      have HSX := Lib.hid (show Sl .u8 v8.drew Ab X by rw [← hX]; exact ((HSB.out.keep HB8.out).take a))
      have HO8 := Lib.hid (show Sl .u8 v8.drew A8 X from ho8.sl'.2)
      have HB9 := Lib.hid (ud' HB8.out)
      have j9 : (a : Int) ≤ (lb.length : Int) := by omega
      have j8 : (a : Int) ≤ (capb : Int) := by omega
      have j7 : a ≤ capb := by omega
      clear hwM hX ho8 hb8
      have KB := Lib.hid (fun (W : World) (h : ∃ p : Bel v8.heap.size v8.drew, W = p.w') => HO8.out.keep (show Below v8.drew.heap.size v8.drew W from inBel_iff.1 h))
      have KB2 := Lib.hid (fun (W : World) (h : ∃ p : Bel v8.heap.size v8.drew, W = p.w') => HSX.out.keep (show Below v8.drew.heap.size v8.drew W from inBel_iff.1 h))
      go_wp2_with fail
      refine Tin.reg_begin v8.heap.size 21 (by rfl) (by kernel_rfl) ?_
      refine Tin.reg_quiets [0, 1, 2, 3, 4, 5, 6, 7, 8, 9, 10, 11, 12, 13, 14, 15, 16, 17] _ 3 rfl (by simp only [Tin.pick, List.map_cons, List.map_nil, Array.getD_eq_getD_getElem?, List.getElem?_toArray, List.getElem?_cons_zero, List.getElem?_cons_succ, Option.getD_some]; rfl) (by kernel_rfl) (by kernel_rfl) ?_
      repeat (first | ((with_reducible refine wpq_str (P := Try.prog) Try.underlying22 Try.underlying5 Try.underlying9 ?_ (.tmp 119) ?_ A8 (X) (X).length c8 ?_ ?_ KB.out ?_); rfl; rfl; rfl; rfl; simp only [Act.put, List.setIfInBounds_toArray, List.set_cons_succ, List.set_cons_zero]) | ((with_reducible refine wpq_str (P := Try.prog) Try.underlying22 Try.underlying5 Try.underlying9 ?_ (.tmp 123) ?_ Ab X a capb ?_ ?_ KB2.out ?_); rfl; rfl; exact HXL.out; rfl; simp only [Act.put, List.setIfInBounds_toArray, List.set_cons_succ, List.set_cons_zero]) | go_big_quiet_step (fail))
      refine wpQuiet_nil ?_
      refine Tin.reg_one 18 _ rfl (by kernel_rfl) ?_
      try simp only [List.getElem_toArray, List.getElem_cons_succ, List.getElem_cons_zero]
      go_wp2_with fail
      refine (awake_any _).mono ?_
      rintro e v9 ⟨rfl, hb9⟩
      go_wp2_with fail
      refine ⟨v8.heap.size, hb9, Nat.le_refl _, ?_⟩
      refine Tin.reg_quiets [19, 20] _ 0 rfl (by simp only [Tin.pick, List.map_cons, List.map_nil, Array.getD_eq_getD_getElem?, List.getElem?_toArray, List.getElem?_cons_zero, List.getElem?_cons_succ, Option.getD_some]; rfl) (by kernel_rfl) (by kernel_rfl) ?_
      repeat (first | go_big_quiet_step (fail))
      refine wpQuiet_nil ?_
      refine Tin.reg_done (by kernel_rfl) ?_
      go_wp2_with fail
      go_ret
      exact ⟨rfl, HB9.out.trans (hb9.mono HB9.out.size)⟩
  · have HM := Lib.hid hm
    have HB1 := Lib.hid hb1
    clear hm hb1
    go_wp2_with fail
    refine (gmay_any A cap L v1 (HS.out.keep HB1.out) hll hlc).mono ?_
    rintro e v2 ⟨rfl, hb2⟩
    rw [HM.out]
    have HBV := Lib.hid (HB1.out.trans (hb2.mono HB1.out.size))
    have HO1 := Lib.hid (ho1.keep hb2)
    have HBY1 := Lib.hid hby1
    have hwl := HML.out HM.out
    clear hb2 ho1 hby1
    have HE0 := Lib.hid (Own.new0 (k := .u8) (e := 5) v2)
    have HBA := Lib.hid (ba (brefl v2) (.cells #[] 5))
    have HBA2 := Lib.hid (HBV.out.trans (HBA.out.mono HBV.out.size))
    have HO1A := Lib.hid (HO1.out.keep HBA.out)
    go_wp2_with (first | (at_builtin; refine Tin.wpl_app bt5 _ rfl (.tmp 38) (.tmp 39) rfl v2.heap.size _ [] rfl HE0.out A1 (wrL L).length c1 (wrL L) rfl HO1A.out.sl'.2 rfl (by simp; omega) (by simp; omega) (by simp) ?_; intro x1 v3 ho hg hw; rw [List.nil_append] at ho; obtain ⟨A3, c3, rfl⟩ := own_form ho; have HO3 := Lib.hid ho; have HB3 := Lib.hid (HE0.out.grown HBA.out (by simp) hg); have HBW3 := Lib.hid (HBV.out.trans (HB3.out.mono HBV.out.size)); clear ho hg hw) | (at_builtin; refine Tin.wpl_app bt5 _ rfl (.tmp 40) (.tmp 41) rfl v2.heap.size _ (wrL L) rfl HO3.out Ab lb.length capb lb rfl (HSB.out.keep HBW3.out) rfl (by omega) (by omega) HB3.out.size ?_; intro x1 v4 ho hg hw; obtain ⟨A4, c4, rfl⟩ := own_form ho; have HO4 := Lib.hid ho; have HB4 := Lib.hid (HO3.out.grown HB3.out HB3.out.size hg); clear ho hg hw))
    try rw [← List.length_append]
    have HBW4 := Lib.hid (HBV.out.trans (HB4.out.mono HBV.out.size))
    have hc4 : (wrL L ++ lb).length ≤ c4 := by obtain ⟨_, _, he, _, h1, _⟩ := HO4.out.sl; injection he with _ _ h2; omega
    refine (of_any A4 (wrL L ++ lb) c4 v4 HO4.out.sl'.2 hc4 (by rw [List.length_append]; omega) (HBY1.out.app HBB.out)).mono ?_
    intro e v5 hp
    rw [of_wr HM.out lb] at hp
    obtain ⟨A5, c5, ys5, rfl, ho5, hs5, hb5⟩ := hp
    have HB5 := Lib.hid (HBW4.out.trans (hb5.mono HBW4.out.size))
    have HBYL := Lib.hid (show BySg L by obtain ⟨zs, _, hz⟩ := HS.out; exact hz.bys)
    have HS5 := Lib.hid (SegS.own ho5 hs5 HBYL.out)
    clear ho5 hs5 hb5
    go_wp2_with fail
    refine (alike_any A5 A c5 cap L L v5 HS5.out (HS.out.keep HB5.out) hll hll).mono ?_
    rintro e v6 ⟨rfl, hb6⟩
    rw [eqG_refl]
    have HB6 := Lib.hid (HB5.out.trans (hb6.mono HB5.out.size))
    clear hb6 HBV
    have HBV := HB6
    go_wp2_with fail
    refine (of_any Ab lb capb v6 (HSB.out.keep HBV.out) hlcb (by omega) HBB.out).mono ?_
    intro e v7 hp
    obtain ⟨T, hT⟩ : ∃ T, ofR lb = T := ⟨_, rfl⟩
    rw [hT] at hp
    cases T with
    | err p q =>
      obtain ⟨rfl, hb7⟩ := hp
      obtain ⟨hp0, hp1, hpq⟩ := ofR_err hT
      clear hT
      rcases hpq with rfl | ⟨rfl, rfl⟩
      · go_wp2_with fail
        refine (awake_any _).mono ?_
        rintro e w9 ⟨rfl, hb9⟩
        go_wp2_with fail
        go_ret
        exact ⟨rfl, HBV.out.trans ((hb7.mono HBV.out.size).trans (hb9.mono (Nat.le_trans HBV.out.size hb7.size)))⟩
      · go_wp2_with fail
        refine (awake_any _).mono ?_
        rintro e w9 ⟨rfl, hb9⟩
        go_wp2_with fail
        go_ret
        exact ⟨rfl, HBV.out.trans ((hb7.mono HBV.out.size).trans (hb9.mono (Nat.le_trans HBV.out.size hb7.size)))⟩
    | ok M a =>
      obtain ⟨A7, c7, ys, rfl, ho7, hs7, hb7⟩ := hp
      obtain ⟨hmM, hwM, haM⟩ := ofR_back HBB.out hT
      have hBy := ofR_by HBB.out (show lb.length ≤ 1000000 by omega) hT
      have HS7 := Lib.hid (SegS.own ho7 hs7 hBy.1)
      have hc7 : M.length ≤ c7 := ho7.sl'.2.2.1
      have hM7 : M.length ≤ 1000000 := by have := hBy.2.1; omega
      have HB7 := Lib.hid (HBV.out.trans (hb7.mono HBV.out.size))
      have HMM := Lib.hid hmM
      clear hT ho7 hs7 hb7 hBy hmM
      go_wp2_with fail
      refine (write_any A7 c7 M v7 HS7.out hM7 hc7 (fun _ => by rw [hwM, List.length_take]; omega)).mono ?_
      rintro e v8 (⟨hm8, _⟩ | ⟨_, A8, c8, rfl, ho8, hby8, hb8⟩)
      · rw [HMM.out] at hm8; cases hm8
      obtain ⟨X, hX⟩ : ∃ X, lb.take a = X := ⟨_, rfl⟩
      have HXL := Lib.hid (show a = X.length by rw [← hX, List.length_take]; omega)
      have HB8 := Lib.hid (HB7.out.trans (hb8.mono HB7.out.size))
      rw [hwM, hX] at ho8 ⊢
      have HSX := Lib.hid (show Sl .u8 v8.drew Ab X by rw [← hX]; exact ((HSB.out.keep HB8.out).take a))
      have HO8 := Lib.hid (show Sl .u8 v8.drew A8 X from ho8.sl'.2)
      have HB9 := Lib.hid (ud' HB8.out)
      have j9 : (a : Int) ≤ (lb.length : Int) := by omega
      have j8 : (a : Int) ≤ (capb : Int) := by omega
      have j7 : a ≤ capb := by omega
      clear hwM hX ho8 hb8
      have KB := Lib.hid (fun (W : World) (h : ∃ p : Bel v8.heap.size v8.drew, W = p.w') => HO8.out.keep (show Below v8.drew.heap.size v8.drew W from inBel_iff.1 h))
      have KB2 := Lib.hid (fun (W : World) (h : ∃ p : Bel v8.heap.size v8.drew, W = p.w') => HSX.out.keep (show Below v8.drew.heap.size v8.drew W from inBel_iff.1 h))
      go_wp2_with fail
      refine Tin.reg_begin v8.heap.size 21 (by rfl) (by kernel_rfl) ?_
      refine Tin.reg_quiets [0, 1, 2, 3, 4, 5, 6, 7, 8, 9, 10, 11, 12, 13, 14, 15, 16, 17] _ 3 rfl (by simp only [Tin.pick, List.map_cons, List.map_nil, Array.getD_eq_getD_getElem?, List.getElem?_toArray, List.getElem?_cons_zero, List.getElem?_cons_succ, Option.getD_some]; rfl) (by kernel_rfl) (by kernel_rfl) ?_
      repeat (first | ((with_reducible refine wpq_str (P := Try.prog) Try.underlying22 Try.underlying5 Try.underlying9 ?_ (.tmp 119) ?_ A8 (X) (X).length c8 ?_ ?_ KB.out ?_); rfl; rfl; rfl; rfl; simp only [Act.put, List.setIfInBounds_toArray, List.set_cons_succ, List.set_cons_zero]) | ((with_reducible refine wpq_str (P := Try.prog) Try.underlying22 Try.underlying5 Try.underlying9 ?_ (.tmp 123) ?_ Ab X a capb ?_ ?_ KB2.out ?_); rfl; rfl; exact HXL.out; rfl; simp only [Act.put, List.setIfInBounds_toArray, List.set_cons_succ, List.set_cons_zero]) | go_big_quiet_step (fail))
      refine wpQuiet_nil ?_
      refine Tin.reg_one 18 _ rfl (by kernel_rfl) ?_
      try simp only [List.getElem_toArray, List.getElem_cons_succ, List.getElem_cons_zero]
      go_wp2_with fail
      refine (awake_any _).mono ?_
      rintro e v9 ⟨rfl, hb9⟩
      go_wp2_with fail
      refine ⟨v8.heap.size, hb9, Nat.le_refl _, ?_⟩
      refine Tin.reg_quiets [19, 20] _ 0 rfl (by simp only [Tin.pick, List.map_cons, List.map_nil, Array.getD_eq_getD_getElem?, List.getElem?_toArray, List.getElem?_cons_zero, List.getElem?_cons_succ, Option.getD_some]; rfl) (by kernel_rfl) (by kernel_rfl) ?_
      repeat (first | go_big_quiet_step (fail))
      refine wpQuiet_nil ?_
      refine Tin.reg_done (by kernel_rfl) ?_
      go_wp2_with fail
      go_ret
      exact ⟨rfl, HB9.out.trans (hb9.mono HB9.out.size)⟩
end Go.Proofs.Ytecjjadgdlbmiaa
