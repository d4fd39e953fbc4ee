/- CoreTells: the walk. -/
import Derived.Test.YtfohajgljjffgaaCoI
import Derived.Test.YtfohajgljjffgaaMkT
namespace Go.Proofs.Ytfohajgljjffgaa
open Go.RowKit
open Go.Tin
set_option linter.unusedVariables false
set_option linter.unusedSimpArgs false


theorem some_t (L : List Sg) : L.filter (someF true) = L.filter isApp := by
  congr 1; funext s; unfold someF isApp; cases appB s.m <;> rfl
theorem some_f (L : List Sg) : L.filter (someF false) = L.filter notApp := by
  congr 1; funext s; unfold someF notApp; cases appB s.m <;> rfl
set_option maxRecDepth 100000 in
set_option maxHeartbeats 16000000 in
theorem ctells_any (A : Option Addr) (len cap : Nat) (l : List Int) (m : Int) (w : World) (hr : IsRow .u8 w A len cap l) (wm : (Lit.int .i64 m).wf = true) :
    Calls Try.prog 3 #[.slice A len cap, .int .i64 m] w fun e w' => e = .returned (.bool true) ∧ Below w.heap.size w w' := by
  obtain ⟨hs, hlen, hlc, hcm, hwf⟩ := Sl.of_row hr
  have hby := byts_wf hwf
  generalize l.take len = l at *
  subst hlen
  clear hwf hr wm
  unfold maxLen at hcm
  have HBY := Lib.hid hby
  have HS := Lib.hid hs
  clear hby hs
  by_cases h3 : 3000 < l.length
  · have i3 : (3000 : Int) < (l.length : Int) := by omega
    go_enter Try.func3, Try.ntmps3
    go_wp2_with fail
    refine (awake_any _).mono ?_
    rintro e w9 ⟨rfl, hb9⟩
    go_wp2_with fail
    go_ret
    exact ⟨rfl, hb9⟩
  have hl : l.length ≤ 3000 := by omega
  have i3 : (l.length : Int) ≤ 3000 := by omega
  clear h3
  have HE0 := Lib.hid (Own.new0 (k := .u8) (e := 5) w)
  have HBA := Lib.hid (ba (brefl w) (.cells #[] 5))
  have HSA := Lib.hid (HS.out.keep HBA.out)
  go_enter Try.func3, Try.ntmps3
  go_wp2_with (at_builtin; refine Tin.wpl_app bt5 _ rfl (.tmp 18) (.tmp 19) rfl w.heap.size _ [] rfl HE0.out A l.length cap l rfl HSA.out rfl (by simp; omega) (by simp; omega) (by simp) ?_; intro x1 v1 ho hg hw; rw [List.nil_append] at ho; obtain ⟨A1, c1, rfl⟩ := own_form ho; have HO := Lib.hid ho; have HB1 := Lib.hid (HE0.out.grown HBA.out (by simp) hg); clear ho hg hw)
  clear HE0 HBA HSA
  have hc1 : l.length ≤ c1 := by obtain ⟨_, _, he, _, h1, _⟩ := HO.out.sl; injection he with _ _ h2; omega
  have HIB := Lib.hid (img_by HBY.out (show l.length ≤ 1000000 by omega))
  have HOK := Lib.hid (fun h => img_ok HBY.out h)
  refine (strip_any A1 l c1 v1 HO.out.sl'.2 hc1 (by omega) HBY.out).mono ?_
  rintro e v2 ⟨A2, c2, rfl, ho2, hy2, hb2⟩
  have HO2 := Lib.hid ho2
  have HB12 := Lib.hid hb2
  clear ho2 hy2 hb2
  go_wp2_with fail
  refine (capps_any A1 l c1 v2 (HO.out.sl'.2.keep HB12.out) hc1 (by omega) HBY.out).mono ?_
  rintro e v3 ⟨A3, c3, xs, rfl, ho3, hs3, hb3⟩
  have HO3 := Lib.hid ho3
  have HS3 := Lib.hid hs3
  have HB23 := Lib.hid hb3
  have HB13 := Lib.hid (HB12.out.trans (hb3.mono HB12.out.size))
  have HB03 := Lib.hid (HB1.out.trans (HB13.out.mono HB1.out.size))
  clear ho3 hs3 hb3
  go_wp2_with fail
  refine (rimage_any A l cap v3 (HS.out.keep HB03.out) hlc (by omega) HBY.out).mono ?_
  rintro e v4 ⟨A4, c4, ys, rfl, ho4, hs4, hb4⟩
  have HSG4 := Lib.hid (SegS.own ho4 hs4 HIB.out.1)
  have HB34 := Lib.hid hb4
  have HB14 := Lib.hid (HB13.out.trans (hb4.mono HB13.out.size))
  clear ho4 hs4 hb4
  go_wp2_with fail
  refine (app_any m _).mono ?_
  rintro e w' ⟨rfl, rfl⟩
  go_wp2_with fail
  refine (rapp_any m _).mono ?_
  rintro e w' ⟨rfl, rfl⟩
  go_wp2_with fail
  refine (is_any A1 l c1 v4 (HO.out.sl'.2.keep HB14.out) hc1 (by omega) HBY.out).mono ?_
  rintro e v5 ⟨rfl, hb5⟩
  have HB15 := Lib.hid (HB14.out.trans (hb5.mono HB14.out.size))
  have HB45 := Lib.hid hb5
  have HB05 := Lib.hid (HB1.out.trans (HB15.out.mono HB1.out.size))
  clear hb5
  go_wp2_with fail
  refine (ris_any A l cap v5 (HS.out.keep HB05.out) hlc (by omega) HBY.out).mono ?_
  rintro e v6 ⟨rfl, hb6⟩
  have HB16 := Lib.hid (HB15.out.trans (hb6.mono HB15.out.size))
  have HB06 := Lib.hid (HB1.out.trans (HB16.out.mono HB1.out.size))
  have HB36 := Lib.hid (HB34.out.trans ((HB45.out.trans (hb6.mono HB45.out.size)).mono HB34.out.size))
  have HSG6 := Lib.hid ((HSG4.out.keep HB45.out).keep hb6)
  have HO26 := Lib.hid (HO2.out.keep (HB23.out.trans (HB36.out.mono HB23.out.size)))
  have HO36 := Lib.hid (HO3.out.keep HB36.out)
  have HS36 := Lib.hid (SgV.mono (fun _ _ h => h.keep HB36.out) HS3.out)
  have k1 := Lib.hid (str_run Try.underlying22 Try.underlying5 Try.underlying9 (HO.out.sl'.2.keep HB16.out) l.length c1 rfl)
  have k2 := Lib.hid (str_run Try.underlying22 Try.underlying5 Try.underlying9 (HS.out.keep HB06.out) l.length cap rfl)
  clear hb6 HSG4 HO2 HO3 HS3
  have HST := Lib.hid (show stL l = if imgE l = 0 then wrL ((imgL l).filter notApp) else [] from rfl)
  have HAP := Lib.hid (show apL l = (imgL l).filter isApp from rfl)
  generalize strOf l = S1 at *
  by_cases h0 : imgE l = 0
  case neg =>
    have n0 : (imgE l != 0) = true := by rw [bne_iff_ne]; exact h0
    have hnil : imgL l = [] := by rcases HIB.out.2.2 with h | h; exact absurd h h0; exact h.2
    have HS0 := Lib.hid (show (stL l).length = 0 by rw [HST.out, if_neg h0]; rfl)
    have HA0 := Lib.hid (show (apL l).length = 0 by rw [HAP.out, hnil]; rfl)
    rw [HS0.out, HA0.out]
    clear h0 hnil HOK HIB HST HAP HO26 HO36 HS36 HSG6 HS0 HA0
    generalize imgL l = L at *
    generalize imgE l = E at *
    generalize isB l = I at *
    go_wp2_with fail
    rw [k1.out]
    simp only [Result.andThen]
    rw [Oper.upon_value]
    go_wp2_with fail
    rw [k2.out]
    simp only [Result.andThen]
    rw [Oper.upon_value]
    go_wp2_with fail
    refine (awake_any _).mono ?_
    rintro e w9 ⟨rfl, hb9⟩
    go_wp2_with fail
    go_ret
    exact ⟨rfl, HB06.out.trans (hb9.mono HB06.out.size)⟩
  have hok := HOK.out h0
  have HMF := Lib.hid (show mayB ((imgL l).filter (someF false)) = true by rw [some_f, filt_na]; exact may_filter hok.1 isApp (fun _ h => isApp_no h))
  have HST2 := Lib.hid (show stL l = wrL ((imgL l).filter (someF false)) by rw [HST.out, if_pos h0, some_f])
  have HAP2 := Lib.hid (show apL l = (imgL l).filter (someF true) by rw [HAP.out, some_t])
  have HWL := Lib.hid (show (wrL ((imgL l).filter (someF false))).length ≤ 3000 by have := wrL_filter (someF false) (imgL l); rw [hok.2.1] at this; omega)
  have hL : (imgL l).length ≤ 3000 := by have := HIB.out.2.1; omega
  have HIM := Lib.hid HIB.out.1
  rw [h0]
  clear h0 hok HOK HIB HST HAP
  rw [HST2.out] at HO26 ⊢
  rw [HAP2.out] at HO36 HS36 ⊢
  clear HST2 HAP2
  generalize imgL l = L at *
  generalize isB l = I at *
  have hLa : (L.filter (someF true)).length ≤ 3000 := Nat.le_trans (List.length_filter_le _ _) hL
  have hLo : (L.filter (someF false)).length ≤ 3000 := Nat.le_trans (List.length_filter_le _ _) hL
  go_wp2_with fail
  rw [k1.out]
  simp only [Result.andThen]
  rw [Oper.upon_value]
  go_wp2_with fail
  rw [k2.out]
  simp only [Result.andThen]
  rw [Oper.upon_value]
  clear k1 k2
  go_wp2_with fail
  have HSD := Lib.hid (show Sl .u8 v6.drew A2 (wrL (L.filter (someF false))) from HO26.out.sl'.2)
  have KB := Lib.hid (fun (W : World) (h : ∃ p : Bel v6.heap.size v6.drew, W = p.w') => HSD.out.keep (show Below v6.drew.heap.size v6.drew W from inBel_iff.1 h))
  have HBD := Lib.hid (ud' (brefl v6))
  have HSGD := Lib.hid (HSG6.out.keep HBD.out)
  refine Tin.reg_begin v6.heap.size 14 (by rfl) (by kernel_rfl) ?_
  refine Tin.reg_quiets [0, 1, 2] _ 11 rfl (by simp only [Tin.pick, List.map_cons, List.map_nil, Array.getD_eq_getD_getElem?, List.getElem?_toArray, List.getElem?_cons_zero, List.getElem?_cons_succ, Option.getD_some]; rfl) (by kernel_rfl) (by kernel_rfl) ?_
  repeat (first | ((with_reducible refine wpq_str (P := Try.prog) Try.underlying22 Try.underlying5 Try.underlying9 ?_ (.tmp 76) ?_ A2 (wrL (L.filter (someF false))) (wrL (L.filter (someF false))).length c2 ?_ ?_ KB.out ?_); rfl; rfl; rfl; rfl; simp only [Act.put, List.setIfInBounds_toArray, List.set_cons_succ, List.set_cons_zero]) | go_big_quiet_step (fail))
  refine wpQuiet_nil ?_
  refine Tin.reg_one 3 _ rfl (by kernel_rfl) ?_
  try simp only [List.getElem_toArray, List.getElem_cons_succ, List.getElem_cons_zero]
  go_wp2_with fail
  refine (some_any A4 c4 L false v6.drew HSGD.out (by omega)).mono ?_
  rintro e v7 ⟨A7, c7, zs7, rfl, ho7, hs7, hb7⟩
  go_wp2_with fail
  have HB67 := Lib.hid (show Below v6.heap.size v6 v7 from HBD.out.trans hb7)
  refine ⟨v6.heap.size, hb7, Nat.le_refl _, ?_⟩
  have HSG7 := Lib.hid (show SegS v7 A7 (L.filter (someF false)) from ⟨zs7, ho7.sl'.2.1, hs7⟩)
  clear ho7 hs7 hb7
  refine Tin.reg_one 4 _ rfl (by kernel_rfl) ?_
  try simp only [List.getElem_toArray, List.getElem_cons_succ, List.getElem_cons_zero]
  go_wp2_with fail
  refine (rwrite_any A7 c7 (L.filter (someF false)) v7 HSG7.out (by omega) HMF.out (by have := HWL.out; omega)).mono ?_
  rintro e v8 ⟨A8, c8, rfl, ho8, _, hb8⟩
  go_wp2_with fail
  have HB68 := Lib.hid (HB67.out.trans (hb8.mono HB67.out.size))
  have HO8 := Lib.hid ho8
  have KB2 := Lib.hid (fun (W : World) (h : ∃ p : Bel v8.heap.size v8, W = p.w') => HO8.out.sl'.2.keep (inBel_iff.1 h))
  refine ⟨v8.heap.size, hb8.mono HB67.out.size, HB68.out.size, ?_⟩
  clear ho8 hb8
  refine Tin.reg_quiets [5, 6, 7, 8, 9] _ 4 rfl (by simp only [Tin.pick, List.map_cons, List.map_nil, Array.getD_eq_getD_getElem?, List.getElem?_toArray, List.getElem?_cons_zero, List.getElem?_cons_succ, Option.getD_some]; rfl) (by kernel_rfl) (by kernel_rfl) ?_
  repeat (first | ((with_reducible refine wpq_str (P := Try.prog) Try.underlying22 Try.underlying5 Try.underlying9 ?_ (.tmp 80) ?_ A8 (wrL (L.filter (someF false))) (wrL (L.filter (someF false))).length c8 ?_ ?_ KB2.out ?_); rfl; rfl; rfl; rfl; simp only [Act.put, List.setIfInBounds_toArray, List.set_cons_succ, List.set_cons_zero]) | go_big_quiet_step (fail))
  refine wpQuiet_nil ?_
  refine Tin.reg_one 10 _ rfl (by kernel_rfl) ?_
  try simp only [List.getElem_toArray, List.getElem_cons_succ, List.getElem_cons_zero]
  go_wp2_with fail
  refine (some_any A4 c4 L true v8 (HSG6.out.keep HB68.out) (by omega)).mono ?_
  rintro e v9 ⟨A9, c9, zs9, rfl, ho9, hs9, hb9⟩
  go_wp2_with fail
  have HB69 := Lib.hid (HB68.out.trans (hb9.mono HB68.out.size))
  have HSG9 := Lib.hid (show SegS v9 A9 (L.filter (someF true)) from ⟨zs9, ho9.sl'.2.1, hs9⟩)
  refine ⟨v8.heap.size, hb9, Nat.le_refl _, ?_⟩
  have HS9 := Lib.hid (show SegS v9 A3 (L.filter (someF true)) from SegS.keep (SegS.own HO36.out HS36.out (by_filter HIM.out _)) HB69.out)
  have H89 := hb9.size
  clear ho9 hs9 hb9
  refine Tin.reg_one 11 _ rfl (by kernel_rfl) ?_
  try simp only [List.getElem_toArray, List.getElem_cons_succ, List.getElem_cons_zero]
  go_wp2_with fail
  refine (same_any A3 A9 c3 c9 (L.filter (someF true)) (L.filter (someF true)) v9 HS9.out HSG9.out (by omega) (by omega)).mono ?_
  rintro e v10 ⟨rfl, hb10⟩
  rw [eqG_refl]
  go_wp2_with fail
  refine ⟨v8.heap.size, hb10.mono H89, Nat.le_refl _, ?_⟩
  have HB6X := Lib.hid (HB69.out.trans (hb10.mono HB69.out.size))
  clear hb10
  refine Tin.reg_quiets [12, 13] _ 0 rfl (by simp only [Tin.pick, List.map_cons, List.map_nil, Array.getD_eq_getD_getElem?, List.getElem?_toArray, List.getElem?_cons_zero, List.getElem?_cons_succ, Option.getD_some]; rfl) (by kernel_rfl) (by kernel_rfl) ?_
  repeat (first | go_big_quiet_step (fail))
  refine wpQuiet_nil ?_
  refine Tin.reg_done (by kernel_rfl) ?_
  have HBX := Lib.hid (HB16.out.trans (HB6X.out.mono HB16.out.size))
  have HOX := Lib.hid (HO36.out.keep HB6X.out)
  have HCX := Lib.hid (SgV.mono (fun _ _ h => ClrB.own (Own.mono (Own.keep h HB6X.out) HB12.out.size)) HS36.out)
  have HCS := Lib.hid (ClrB.own (HO26.out.keep HB6X.out))
  clear HB67 HB68 HB69 HSG7 HSG9 HS9 HO8 KB KB2 HSD HSGD HSG6
  go_wp2_with fail
  obtain ⟨K, hK⟩ : ∃ K, L.filter (someF true) = K := ⟨_, rfl⟩
  rw [hK] at HOX HCX hLa ⊢
  clear hK
  obtain ⟨N, hN⟩ : ∃ N, K.length = N := ⟨_, rfl⟩
  rw [hN] at HOX hLa ⊢
  have HN := Lib.hid hN
  clear hN
  generalize (wrL (L.filter (someF false))).length = sn at *
  have HROW := Lib.hid (show (A3 = none ∧ N = 0) ∨ ∃ q cur, A3 = some ⟨q, 0, none⟩ ∧ N * 3 ≤ cur.size ∧ v10.heap[q]? = some (.cells cur 36 (0, 0)) ∧ cur.toList.take (N * 3) = xs by
    rcases HOX.out.2 with ⟨he, h0⟩ | ⟨q, cap', cur, he, _, hh, hn, _, hsz, htk⟩
    · injection he with h1 _ _
      exact .inl ⟨h1, h0⟩
    · injection he with h1 _ _
      exact .inr ⟨q, cur, h1, by rw [hsz]; exact Nat.mul_le_mul_right _ hn, hh, htk⟩)
  go_loopw [13] (fun s13 wr => ∃ i : Nat, i ≤ N ∧ s13 = .int .i64 (i : Int) ∧ ((A3 = none ∧ N = 0) ∨ ∃ q cur, A3 = some ⟨q, 0, none⟩ ∧ N * 3 ≤ cur.size ∧ wr.heap[q]? = some (.cells cur 36 (0, 0)) ∧ cur.toList.take (N * 3) = xs) ∧ SgV (fun v _ => ClrB wr v1.heap.size v) xs K ∧ ClrB wr v1.heap.size (.slice A2 sn c2) ∧ Below v1.heap.size v1 wr) (fun s13 _ => N - (intOf s13).toNat)
  case atStart => exact ⟨0, by omega, rfl, HROW.out, HCX.out, HCS.out, HBX.out⟩
  case round =>
    obtain ⟨i, hi, rfl, hrow, hclr, hcs, hb⟩ := hrel
    have HB := Lib.hid hb
    have HCSR := Lib.hid hcs
    have HSZ := Lib.hid hb.size
    by_cases hil : i < N
    case neg =>
      obtain rfl : i = N := by omega
      clear hrow hclr hb hcs
      go_wp2_with (refine wpl_clr _ rfl (.tmp 100) rfl v1.heap.size (.slice A2 sn c2) rfl HCSR.out HSZ.out ?_; intro w8 hc8 hb8 hr8; have HB8 := Lib.hid (HB.out.trans hb8); have HB08 := Lib.hid (HB1.out.trans (HB8.out.mono HB1.out.size)); have k1 := Lib.hid (str_run Try.underlying22 Try.underlying5 Try.underlying9 (HO.out.sl'.2.keep HB8.out) l.length c1 rfl); have k2 := Lib.hid (str_run Try.underlying22 Try.underlying5 Try.underlying9 (HS.out.keep HB08.out) l.length cap rfl); clear hc8 hb8 hr8)
      rw [k1.out]
      simp only [Result.andThen]
      rw [Oper.upon_value]
      go_wp2_with fail
      rw [k2.out]
      simp only [Result.andThen]
      rw [Oper.upon_value]
      generalize strOf l = S2 at *
      go_wp2_with fail
      refine (awake_any _).mono ?_
      rintro e w9 ⟨rfl, hb9⟩
      go_wp2_with fail
      go_ret
      exact ⟨rfl, HB08.out.trans (hb9.mono HB08.out.size)⟩
    have i1 : (i : Int) < (N : Int) := by omega
    obtain ⟨q, cur, rfl, hcs2, hh, htk⟩ : ∃ q cur, A3 = some ⟨q, 0, none⟩ ∧ N * 3 ≤ cur.size ∧ wr.heap[q]? = some (.cells cur 36 (0, 0)) ∧ cur.toList.take (N * 3) = xs := by
      rcases hrow with ⟨_, h⟩ | h
      · omega
      · exact h
    obtain ⟨V, U2, hx, hV, _⟩ := hclr.at_ i (by rw [HN.out]; exact hil)
    have hel3 : ∀ j (z : Value), [.int .i64 (K[i]'(by rw [HN.out]; exact hil)).m, V, U2][j]? = some z → cur[i * 3 + j]? = some z := fun j z hz => by
      have hj : j < 3 := (List.getElem?_eq_some_iff.1 hz).1
      rw [← hx, List.getElem?_take_of_lt hj, List.getElem?_drop, ← htk, List.getElem?_take_of_lt (by omega), Array.getElem?_toList] at hz
      exact hz
    have kv : wr.cell? ⟨q, i * 3 + 1, none⟩ = some V := by rw [cell_of_row wr q _ cur _ _ hh]; exact hel3 1 V rfl
    have HH := Lib.hid hh
    have HCV := Lib.hid hV
    have HCL := Lib.hid hclr
    have HTK := Lib.hid htk
    clear hrow hclr hb hx hel3 hh hV htk hcs
    go_wp2_with (refine wpl_clr _ rfl (.tmp 99) rfl v1.heap.size V rfl HCV.out HSZ.out ?_; intro w8 hc8 hb8 hr8; have HC8 := Lib.hid hc8; have HB8 := Lib.hid hb8; have HR8 := Lib.hid (hr8 q cur _ HH.out (by decide)); clear hc8 hb8 hr8)
    exact ⟨⟨i + 1, by omega, rfl, .inr ⟨q, cur, rfl, hcs2, HR8.out, HTK.out⟩, SgV.mono (fun v d h => HC8.out _ h) HCL.out, HC8.out _ HCSR.out, HB.out.trans HB8.out⟩, by simp only [intOf]; omega⟩
end Go.Proofs.Ytfohajgljjffgaa
