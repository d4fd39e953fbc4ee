/- MarkerWrites: the walk. -/
import Derived.Test.YtecjjadgdlbmiaaMkS
namespace Go.Proofs.Ytecjjadgdlbmiaa
open Go.RowKit
open Go.Tin
set_option linter.unusedVariables false
set_option linter.unusedSimpArgs false


set_option maxRecDepth 100000 in
set_option maxHeartbeats 16000000 in
theorem mwrites_any (A : Option Addr) (len cap : Nat) (m : Int) (w : World) (ft : Fits w (.slice 3 segSh) [.slice A len cap]) (sz : Sized w (.slice 3 segSh) [.slice A len cap]) (wm : (Lit.int .i64 m).wf = true) :
    Calls Try.prog 4 #[.slice A len cap, .int .i64 m] w fun e w' => e = .returned (.bool true) ∧ Below w.heap.size w w' := by
  obtain ⟨L, xs, rfl, h1, h2, hlc, hcm⟩ := segs_of_fits ft sz
  clear ft sz wm
  have HV := Lib.hid (vast_any A cap L xs w h1 (sgv_n h2) (by omega))
  have H1 := Lib.hid h1
  have H2 := Lib.hid h2
  clear h1 h2
  go_enter Try.func4, Try.ntmps4
  go_wp2_with fail
  refine HV.out.mono ?_
  rintro e w' ⟨rfl, rfl⟩
  cases hv : vastB L with
  | true =>
    clear hv
    go_wp2_with fail
    refine (awake_any _).mono ?_
    rintro e w9 ⟨rfl, hb9⟩
    go_wp2_with fail
    go_ret
    exact ⟨rfl, hb9⟩
  | false =>
  have hvn := vast_no hv
  have hll : L.length ≤ 1000000 := by omega
  have HS := Lib.hid (show SegS w A L from ⟨xs, H1.out, sgv_s H2.out hvn.2.2⟩)
  have HBY := Lib.hid (sgv_s H2.out hvn.2.2).bys
  have HWL := Lib.hid (fun hm => Nat.le_trans (may_len (L := L) hm hv) (show 3160 ≤ 900000 by decide))
  clear hv hvn H1 H2
  go_wp2_with fail
  refine (own_any A cap L w HS.out hll).mono ?_
  rintro e v1 ⟨A1, c1, ys, rfl, ho, hsv, hb1⟩
  have HS1 := Lib.hid (SegS.own ho hsv HBY.out)
  have hc1 : L.length ≤ c1 := ho.sl'.2.2.1
  have HB1 := Lib.hid hb1
  clear ho hsv hb1
  go_wp2_with fail
  refine (write_any A1 c1 L v1 HS1.out hll hc1 HWL.out).mono ?_
  rintro e v2 (⟨hm, rfl, hb2⟩ | ⟨hm, A2, c2, rfl, ho2, hby2, hb2⟩)
  · have HM := Lib.hid hm
    have HB2 := Lib.hid (HB1.out.trans (hb2.mono HB1.out.size))
    have HS2 := Lib.hid (HS1.out.keep hb2)
    have HSA := Lib.hid (HS.out.keep HB2.out)
    clear hm hb2
    go_wp2_with fail
    refine (rgmay_any A cap L v2 HSA.out hll).mono ?_
    rintro e v3 ⟨rfl, hb3⟩
    rw [HM.out]
    have HB3 := Lib.hid (HB2.out.trans (hb3.mono HB2.out.size))
    replace HS2 := Lib.hid (HS2.out.keep hb3)
    replace HSA := Lib.hid (HSA.out.keep hb3)
    clear hb3
    go_wp2_with fail
    refine (gmay_any A1 c1 L v3 HS2.out hll hc1).mono ?_
    rintro e v4 ⟨rfl, hb4⟩
    rw [HM.out]
    have HB4 := Lib.hid (HB3.out.trans (hb4.mono HB3.out.size))
    replace HS2 := Lib.hid (HS2.out.keep hb4)
    replace HSA := Lib.hid (HSA.out.keep hb4)
    clear hb4
    go_wp2_with fail
    refine (alo_any m _).mono ?_
    rintro e w' ⟨rfl, rfl⟩
    by_cases m1 : m = 216
    · have e1 : (m == 216) = true := by rw [m1]; rfl
      rw [show aloB m = true by unfold aloB; rw [e1]; rfl]
      clear m1
      go_wp2_with fail
      refine (same_any A1 A c1 cap L L v4 HS2.out HSA.out hll hll).mono ?_
      rintro e v5 ⟨rfl, hb5⟩
      rw [eqG_refl]
      have HB5 := Lib.hid (HB4.out.trans (hb5.mono HB4.out.size))
      clear hb5
      go_wp2_with fail
      refine (awake_any _).mono ?_
      rintro e w9 ⟨rfl, hb9⟩
      go_wp2_with fail
      go_ret
      exact ⟨rfl, HB5.out.trans (hb9.mono HB5.out.size)⟩
    have e1 : (m == 216) = false := by simpa using m1
    by_cases m2 : m = 217
    · have e2 : (m == 217) = true := by rw [m2]; rfl
      rw [show aloB m = true by unfold aloB; rw [e1, e2]; rfl]
      clear m1 m2
      go_wp2_with fail
      refine (same_any A1 A c1 cap L L v4 HS2.out HSA.out hll hll).mono ?_
      rintro e v5 ⟨rfl, hb5⟩
      rw [eqG_refl]
      have HB5 := Lib.hid (HB4.out.trans (hb5.mono HB4.out.size))
      clear hb5
      go_wp2_with fail
      refine (awake_any _).mono ?_
      rintro e w9 ⟨rfl, hb9⟩
      go_wp2_with fail
      go_ret
      exact ⟨rfl, HB5.out.trans (hb9.mono HB5.out.size)⟩
    have e2 : (m == 217) = false := by simpa using m2
    rw [show aloB m = false by unfold aloB; rw [e1, e2]; rfl]
    clear m1 m2
    go_wp2_with fail
    refine (same_any A1 A c1 cap L L v4 HS2.out HSA.out hll hll).mono ?_
    rintro e v5 ⟨rfl, hb5⟩
    rw [eqG_refl]
    have HB5 := Lib.hid (HB4.out.trans (hb5.mono HB4.out.size))
    clear hb5
    go_wp2_with fail
    refine (awake_any _).mono ?_
    rintro e w9 ⟨rfl, hb9⟩
    go_wp2_with fail
    go_ret
    exact ⟨rfl, HB5.out.trans (hb9.mono HB5.out.size)⟩
  · have HM := Lib.hid hm
    have HB2 := Lib.hid (HB1.out.trans (hb2.mono HB1.out.size))
    have HS2 := Lib.hid (HS1.out.keep hb2)
    have HSA := Lib.hid (HS.out.keep HB2.out)
    have HO := Lib.hid ho2
    have HBB := Lib.hid hby2
    clear ho2 hby2
    clear hm hb2
    go_wp2_with fail
    refine (rgmay_any A cap L v2 HSA.out hll).mono ?_
    rintro e v3 ⟨rfl, hb3⟩
    rw [HM.out]
    have HB3 := Lib.hid (HB2.out.trans (hb3.mono HB2.out.size))
    replace HS2 := Lib.hid (HS2.out.keep hb3)
    replace HSA := Lib.hid (HSA.out.keep hb3)
    replace HO := Lib.hid (HO.out.keep hb3)
    clear hb3
    go_wp2_with fail
    refine (gmay_any A1 c1 L v3 HS2.out hll hc1).mono ?_
    rintro e v4 ⟨rfl, hb4⟩
    rw [HM.out]
    have HB4 := Lib.hid (HB3.out.trans (hb4.mono HB3.out.size))
    replace HS2 := Lib.hid (HS2.out.keep hb4)
    replace HSA := Lib.hid (HSA.out.keep hb4)
    replace HO := Lib.hid (HO.out.keep hb4)
    clear hb4
    go_wp2_with fail
    refine (alo_any m _).mono ?_
    rintro e w' ⟨rfl, rfl⟩
    by_cases m1 : m = 216
    · have e1 : (m == 216) = true := by rw [m1]; rfl
      rw [show aloB m = true by unfold aloB; rw [e1]; rfl]
      clear m1
      go_wp2_with fail
      refine (same_any A1 A c1 cap L L v4 HS2.out HSA.out hll hll).mono ?_
      rintro e v5 ⟨rfl, hb5⟩
      rw [eqG_refl]
      have HB5 := Lib.hid (HB4.out.trans (hb5.mono HB4.out.size))
      replace HSA := Lib.hid (HSA.out.keep hb5)
      replace HO := Lib.hid (HO.out.keep hb5)
      clear hb5
      go_wp2_with fail
      have HSL := Lib.hid (show Sl .u8 v5.drew A2 (wrL L) from HO.out.sl'.2)
      have HSD := Lib.hid (HSA.out.keep (ud' (brefl v5)))
      have HB6 := Lib.hid (ud' HB5.out)
      have KB := Lib.hid (fun (W : World) (h : ∃ p : Bel v5.heap.size v5.drew, W = p.w') => HSL.out.keep (show Below v5.drew.heap.size v5.drew W from inBel_iff.1 h))
      refine Tin.reg_begin v5.heap.size 14 (by rfl) (by kernel_rfl) ?_
      refine Tin.reg_quiets [0, 1, 2, 3, 4, 5] _ 8 rfl (by simp only [Tin.pick, List.map_cons, List.map_nil, Array.getD_eq_getD_getElem?, List.getElem?_toArray, List.getElem?_cons_zero, List.getElem?_cons_succ, Option.getD_some]; rfl) (by kernel_rfl) (by kernel_rfl) ?_
      repeat (first | ((with_reducible refine wpq_str (P := Try.prog) Try.underlying22 Try.underlying5 Try.underlying9 ?_ (.tmp 57) ?_ A2 (wrL L) (wrL L).length c2 ?_ ?_ KB.out ?_); rfl; rfl; rfl; rfl; simp only [Act.put, List.setIfInBounds_toArray, List.set_cons_succ, List.set_cons_zero]) | go_big_quiet_step (fail))
      refine wpQuiet_nil ?_
      refine Tin.reg_one 6 _ rfl (by kernel_rfl) ?_
      try simp only [List.getElem_toArray, List.getElem_cons_succ, List.getElem_cons_zero]
      go_wp2_with fail
      refine (rwrite_any A cap L v5.drew HSD.out hll HM.out (HWL.out HM.out)).mono ?_
      rintro e v6 ⟨A6, c6, rfl, ho6, _, hb6⟩
      go_wp2_with fail
      have HB7 := Lib.hid (HB6.out.trans (hb6.mono HB6.out.size))
      have HO6 := Lib.hid ho6
      have KB2 := Lib.hid (fun (W : World) (h : ∃ p : Bel v6.heap.size v6, W = p.w') => HO6.out.sl'.2.keep (inBel_iff.1 h))
      refine ⟨v6.heap.size, hb6, hb6.size, ?_⟩
      clear hb6 ho6
      refine Tin.reg_quiets [7, 8, 9, 10] _ 3 rfl (by simp only [Tin.pick, List.map_cons, List.map_nil, Array.getD_eq_getD_getElem?, List.getElem?_toArray, List.getElem?_cons_zero, List.getElem?_cons_succ, Option.getD_some]; rfl) (by kernel_rfl) (by kernel_rfl) ?_
      repeat (first | ((with_reducible refine wpq_str (P := Try.prog) Try.underlying22 Try.underlying5 Try.underlying9 ?_ (.tmp 60) ?_ A6 (wrL L) (wrL L).length c6 ?_ ?_ KB2.out ?_); rfl; rfl; rfl; rfl; simp only [Act.put, List.setIfInBounds_toArray, List.set_cons_succ, List.set_cons_zero]) | go_big_quiet_step (fail))
      refine wpQuiet_nil ?_
      refine Tin.reg_one 11 _ rfl (by kernel_rfl) ?_
      try simp only [List.getElem_toArray, List.getElem_cons_succ, List.getElem_cons_zero]
      go_wp2_with fail
      refine (awake_any _).mono ?_
      rintro e v7 ⟨rfl, hb7⟩
      go_wp2_with fail
      refine ⟨v6.heap.size, hb7, Nat.le_refl _, ?_⟩
      refine Tin.reg_quiets [12, 13] _ 0 rfl (by simp only [Tin.pick, List.map_cons, List.map_nil, Array.getD_eq_getD_getElem?, List.getElem?_toArray, List.getElem?_cons_zero, List.getElem?_cons_succ, Option.getD_some]; rfl) (by kernel_rfl) (by kernel_rfl) ?_
      repeat (first | go_big_quiet_step (fail))
      refine wpQuiet_nil ?_
      refine Tin.reg_done (by kernel_rfl) ?_
      go_wp2_with fail
      go_ret
      exact ⟨rfl, HB7.out.trans (hb7.mono HB7.out.size)⟩
    have e1 : (m == 216) = false := by simpa using m1
    by_cases m2 : m = 217
    · have e2 : (m == 217) = true := by rw [m2]; rfl
      rw [show aloB m = true by unfold aloB; rw [e1, e2]; rfl]
      clear m1 m2
      go_wp2_with fail
      refine (same_any A1 A c1 cap L L v4 HS2.out HSA.out hll hll).mono ?_
      rintro e v5 ⟨rfl, hb5⟩
      rw [eqG_refl]
      have HB5 := Lib.hid (HB4.out.trans (hb5.mono HB4.out.size))
      replace HSA := Lib.hid (HSA.out.keep hb5)
      replace HO := Lib.hid (HO.out.keep hb5)
      clear hb5
      go_wp2_with fail
      have HSL := Lib.hid (show Sl .u8 v5.drew A2 (wrL L) from HO.out.sl'.2)
      have HSD := Lib.hid (HSA.out.keep (ud' (brefl v5)))
      have HB6 := Lib.hid (ud' HB5.out)
      have KB := Lib.hid (fun (W : World) (h : ∃ p : Bel v5.heap.size v5.drew, W = p.w') => HSL.out.keep (show Below v5.drew.heap.size v5.drew W from inBel_iff.1 h))
      refine Tin.reg_begin v5.heap.size 14 (by rfl) (by kernel_rfl) ?_
      refine Tin.reg_quiets [0, 1, 2, 3, 4, 5] _ 8 rfl (by simp only [Tin.pick, List.map_cons, List.map_nil, Array.getD_eq_getD_getElem?, List.getElem?_toArray, List.getElem?_cons_zero, List.getElem?_cons_succ, Option.getD_some]; rfl) (by kernel_rfl) (by kernel_rfl) ?_
      repeat (first | ((with_reducible refine wpq_str (P := Try.prog) Try.underlying22 Try.underlying5 Try.underlying9 ?_ (.tmp 57) ?_ A2 (wrL L) (wrL L).length c2 ?_ ?_ KB.out ?_); rfl; rfl; rfl; rfl; simp only [Act.put, List.setIfInBounds_toArray, List.set_cons_succ, List.set_cons_zero]) | go_big_quiet_step (fail))
      refine wpQuiet_nil ?_
      refine Tin.reg_one 6 _ rfl (by kernel_rfl) ?_
      try simp only [List.getElem_toArray, List.getElem_cons_succ, List.getElem_cons_zero]
      go_wp2_with fail
      refine (rwrite_any A cap L v5.drew HSD.out hll HM.out (HWL.out HM.out)).mono ?_
      rintro e v6 ⟨A6, c6, rfl, ho6, _, hb6⟩
      go_wp2_with fail
      have HB7 := Lib.hid (HB6.out.trans (hb6.mono HB6.out.size))
      have HO6 := Lib.hid ho6
      have KB2 := Lib.hid (fun (W : World) (h : ∃ p : Bel v6.heap.size v6, W = p.w') => HO6.out.sl'.2.keep (inBel_iff.1 h))
      refine ⟨v6.heap.size, hb6, hb6.size, ?_⟩
      clear hb6 ho6
      refine Tin.reg_quiets [7, 8, 9, 10] _ 3 rfl (by simp only [Tin.pick, List.map_cons, List.map_nil, Array.getD_eq_getD_getElem?, List.getElem?_toArray, List.getElem?_cons_zero, List.getElem?_cons_succ, Option.getD_some]; rfl) (by kernel_rfl) (by kernel_rfl) ?_
      repeat (first | ((with_reducible refine wpq_str (P := Try.prog) Try.underlying22 Try.underlying5 Try.underlying9 ?_ (.tmp 60) ?_ A6 (wrL L) (wrL L).length c6 ?_ ?_ KB2.out ?_); rfl; rfl; rfl; rfl; simp only [Act.put, List.setIfInBounds_toArray, List.set_cons_succ, List.set_cons_zero]) | go_big_quiet_step (fail))
      refine wpQuiet_nil ?_
      refine Tin.reg_one 11 _ rfl (by kernel_rfl) ?_
      try simp only [List.getElem_toArray, List.getElem_cons_succ, List.getElem_cons_zero]
      go_wp2_with fail
      refine (awake_any _).mono ?_
      rintro e v7 ⟨rfl, hb7⟩
      go_wp2_with fail
      refine ⟨v6.heap.size, hb7, Nat.le_refl _, ?_⟩
      refine Tin.reg_quiets [12, 13] _ 0 rfl (by simp only [Tin.pick, List.map_cons, List.map_nil, Array.getD_eq_getD_getElem?, List.getElem?_toArray, List.getElem?_cons_zero, List.getElem?_cons_succ, Option.getD_some]; rfl) (by kernel_rfl) (by kernel_rfl) ?_
      repeat (first | go_big_quiet_step (fail))
      refine wpQuiet_nil ?_
      refine Tin.reg_done (by kernel_rfl) ?_
      go_wp2_with fail
      go_ret
      exact ⟨rfl, HB7.out.trans (hb7.mono HB7.out.size)⟩
    have e2 : (m == 217) = false := by simpa using m2
    rw [show aloB m = false by unfold aloB; rw [e1, e2]; rfl]
    clear m1 m2
    go_wp2_with fail
    refine (same_any A1 A c1 cap L L v4 HS2.out HSA.out hll hll).mono ?_
    rintro e v5 ⟨rfl, hb5⟩
    rw [eqG_refl]
    have HB5 := Lib.hid (HB4.out.trans (hb5.mono HB4.out.size))
    replace HSA := Lib.hid (HSA.out.keep hb5)
    replace HO := Lib.hid (HO.out.keep hb5)
    clear hb5
    go_wp2_with fail
    have HSL := Lib.hid (show Sl .u8 v5.drew A2 (wrL L) from HO.out.sl'.2)
    have HSD := Lib.hid (HSA.out.keep (ud' (brefl v5)))
    have HB6 := Lib.hid (ud' HB5.out)
    have KB := Lib.hid (fun (W : World) (h : ∃ p : Bel v5.heap.size v5.drew, W = p.w') => HSL.out.keep (show Below v5.drew.heap.size v5.drew W from inBel_iff.1 h))
    refine Tin.reg_begin v5.heap.size 14 (by rfl) (by kernel_rfl) ?_
    refine Tin.reg_quiets [0, 1, 2, 3, 4, 5] _ 8 rfl (by simp only [Tin.pick, List.map_cons, List.map_nil, Array.getD_eq_getD_getElem?, List.getElem?_toArray, List.getElem?_cons_zero, List.getElem?_cons_succ, Option.getD_some]; rfl) (by kernel_rfl) (by kernel_rfl) ?_
    repeat (first | ((with_reducible refine wpq_str (P := Try.prog) Try.underlying22 Try.underlying5 Try.underlying9 ?_ (.tmp 57) ?_ A2 (wrL L) (wrL L).length c2 ?_ ?_ KB.out ?_); rfl; rfl; rfl; rfl; simp only [Act.put, List.setIfInBounds_toArray, List.set_cons_succ, List.set_cons_zero]) | go_big_quiet_step (fail))
    refine wpQuiet_nil ?_
    refine Tin.reg_one 6 _ rfl (by kernel_rfl) ?_
    try simp only [List.getElem_toArray, List.getElem_cons_succ, List.getElem_cons_zero]
    go_wp2_with fail
    refine (rwrite_any A cap L v5.drew HSD.out hll HM.out (HWL.out HM.out)).mono ?_
    rintro e v6 ⟨A6, c6, rfl, ho6, _, hb6⟩
    go_wp2_with fail
    have HB7 := Lib.hid (HB6.out.trans (hb6.mono HB6.out.size))
    have HO6 := Lib.hid ho6
    have KB2 := Lib.hid (fun (W : World) (h : ∃ p : Bel v6.heap.size v6, W = p.w') => HO6.out.sl'.2.keep (inBel_iff.1 h))
    refine ⟨v6.heap.size, hb6, hb6.size, ?_⟩
    clear hb6 ho6
    refine Tin.reg_quiets [7, 8, 9, 10] _ 3 rfl (by simp only [Tin.pick, List.map_cons, List.map_nil, Array.getD_eq_getD_getElem?, List.getElem?_toArray, List.getElem?_cons_zero, List.getElem?_cons_succ, Option.getD_some]; rfl) (by kernel_rfl) (by kernel_rfl) ?_
    repeat (first | ((with_reducible refine wpq_str (P := Try.prog) Try.underlying22 Try.underlying5 Try.underlying9 ?_ (.tmp 60) ?_ A6 (wrL L) (wrL L).length c6 ?_ ?_ KB2.out ?_); rfl; rfl; rfl; rfl; simp only [Act.put, List.setIfInBounds_toArray, List.set_cons_succ, List.set_cons_zero]) | go_big_quiet_step (fail))
    refine wpQuiet_nil ?_
    refine Tin.reg_one 11 _ rfl (by kernel_rfl) ?_
    try simp only [List.getElem_toArray, List.getElem_cons_succ, List.getElem_cons_zero]
    go_wp2_with fail
    refine (awake_any _).mono ?_
    rintro e v7 ⟨rfl, hb7⟩
    go_wp2_with fail
    refine ⟨v6.heap.size, hb7, Nat.le_refl _, ?_⟩
    refine Tin.reg_quiets [12, 13] _ 0 rfl (by simp only [Tin.pick, List.map_cons, List.map_nil, Array.getD_eq_getD_getElem?, List.getElem?_toArray, List.getElem?_cons_zero, List.getElem?_cons_succ, Option.getD_some]; rfl) (by kernel_rfl) (by kernel_rfl) ?_
    repeat (first | go_big_quiet_step (fail))
    refine wpQuiet_nil ?_
    refine Tin.reg_done (by kernel_rfl) ?_
    go_wp2_with fail
    go_ret
    exact ⟨rfl, HB7.out.trans (hb7.mono HB7.out.size)⟩
end Go.Proofs.Ytecjjadgdlbmiaa
