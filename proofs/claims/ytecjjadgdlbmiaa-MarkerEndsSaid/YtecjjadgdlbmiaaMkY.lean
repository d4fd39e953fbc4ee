/- MarkerEnds: the walk. -/
import Derived.Test.YtecjjadgdlbmiaaMkU
import Derived.Test.YtecjjadgdlbmiaaMkX
import Derived.Test.YtecjjadgdlbmiaaMkT
namespace Go.Proofs.Ytecjjadgdlbmiaa
open Go.RowKit
open Go.Tin
set_option linter.unusedVariables false
set_option linter.unusedSimpArgs false


theorem wf_of {n : Int} (h : -9223372036854775808 ≤ n ∧ n ≤ 9223372036854775807) : (Lit.int .i64 n).wf = true := by
  change (decide (IntKind.i64.min ≤ n) && decide (n ≤ IntKind.i64.max)) = true
  rw [min64, max64, Bool.and_eq_true]
  exact ⟨decide_eq_true h.1, decide_eq_true h.2⟩
set_option maxRecDepth 100000 in
set_option maxHeartbeats 16000000 in
theorem mends_any (A : Option Addr) (len cap : Nat) (Am : Option Addr) (lenm capm : Nat) (Ab : Option Addr) (lenb capb : Nat) (lb : List Int) (cut : Int) (w : World) (ft : Fits w (.slice 3 segSh) [.slice A len cap]) (sz : Sized w (.slice 3 segSh) [.slice A len cap]) (ftm : Fits w (.slice 3 segSh) [.slice Am lenm capm]) (szm : Sized w (.slice 3 segSh) [.slice Am lenm capm]) (hrb : IsRow .u8 w Ab lenb capb lb) (wc : (Lit.int .i64 cut).wf = true) :
    Calls Try.prog 6 #[.slice A len cap, .slice Am lenm capm, .slice Ab lenb capb, .int .i64 cut] w fun e w' => e = .returned (.bool true) ∧ Below w.heap.size w w' := by
  obtain ⟨L, xs, rfl, h1, h2, hlc, hcm⟩ := segs_of_fits ft sz
  obtain ⟨M, xm, rfl, h1m, h2m, hlm, hcmm⟩ := segs_of_fits ftm szm
  obtain ⟨hsb, hlenb, hlcb, hcmb, hwfb⟩ := Sl.of_row hrb
  have hbyb := byts_wf hwfb
  generalize lb.take lenb = lb at *
  subst hlenb
  clear hwfb hrb ft sz ftm szm wc
  unfold maxLen at hcmb
  have HV := Lib.hid (vast_any A cap L xs w h1 (sgv_n h2) (by omega))
  have HVM := Lib.hid (vast_any Am capm M xm w h1m (sgv_n h2m) (by omega))
  have H1 := Lib.hid h1
  have H2 := Lib.hid h2
  have H1M := Lib.hid h1m
  have H2M := Lib.hid h2m
  have HBB := Lib.hid hbyb
  have HSB := Lib.hid hsb
  clear h1 h2 h1m h2m hbyb hsb
  go_enter Try.func6, Try.ntmps6
  go_wp2_with fail
  refine HV.out.mono ?_
  rintro e w' ⟨rfl, rfl⟩
  cases hv : vastB L with
  | true =>
    clear hv
    go_wp2_with fail
    refine (awake_any _).mono ?_
    rintro e w9 ⟨rfl, hb9⟩
    go_wp2_with fail
    go_ret
    exact ⟨rfl, hb9⟩
  | false =>
  go_wp2_with fail
  refine HVM.out.mono ?_
  rintro e w' ⟨rfl, rfl⟩
  cases hvm : vastB M with
  | true =>
    clear hvm
    go_wp2_with fail
    refine (awake_any _).mono ?_
    rintro e w9 ⟨rfl, hb9⟩
    go_wp2_with fail
    go_ret
    exact ⟨rfl, hb9⟩
  | false =>
  by_cases h3 : 300 < lb.length
  · have i3 : (300 : Int) < (lb.length : Int) := by omega
    go_wp2_with fail
    refine (awake_any _).mono ?_
    rintro e w9 ⟨rfl, hb9⟩
    go_wp2_with fail
    go_ret
    exact ⟨rfl, hb9⟩
  have i3 : (lb.length : Int) ≤ 300 := by omega
  have hlb : lb.length ≤ 300 := by omega
  clear h3
  have hvn := vast_no hv
  have hvnm := vast_no hvm
  have hll : L.length ≤ 1000000 := by omega
  have hlM : M.length ≤ 1000000 := by omega
  have HS := Lib.hid (show SegS w A L from ⟨xs, H1.out, sgv_s H2.out hvn.2.2⟩)
  have HSM := Lib.hid (show SegS w Am M from ⟨xm, H1M.out, sgv_s H2M.out hvnm.2.2⟩)
  have HML := Lib.hid (fun hm => may_len (L := L) hm hv)
  have HMM := Lib.hid (fun hm => may_len (L := M) hm hvm)
  have HWL := Lib.hid (fun hm => Nat.le_trans (may_len (L := L) hm hv) (show 3160 ≤ 900000 by decide))
  have HWM := Lib.hid (fun hm => Nat.le_trans (may_len (L := M) hm hvm) (show 3160 ≤ 900000 by decide))
  clear hv hvn hvm hvnm H1 H2 H1M H2M HV HVM
  go_wp2_with fail
  refine (write_any A cap L w HS.out hll hlc HWL.out).mono ?_
  rintro e v1 (⟨hm, rfl, hb1⟩ | ⟨hm, A1, c1, rfl, ho1, hby1, hb1⟩)
  · have HB1 := Lib.hid hb1
    clear hm hb1
    go_wp2_with fail
    refine (write_any Am capm M v1 (HSM.out.keep HB1.out) hlM hlm HWM.out).mono ?_
    rintro e v2 (⟨hm, rfl, hb2⟩ | ⟨hm, A2, c2, rfl, ho2, hby2, hb2⟩)
    · have HB2 := Lib.hid (HB1.out.trans (hb2.mono HB1.out.size))
      clear hm hb2
      go_wp2_with fail
      refine (awake_any _).mono ?_
      rintro e w9 ⟨rfl, hb9⟩
      go_wp2_with fail
      go_ret
      exact ⟨rfl, HB2.out.trans (hb9.mono HB2.out.size)⟩
    · have HB2 := Lib.hid (HB1.out.trans (hb2.mono HB1.out.size))
      clear hm hb2 ho2 hby2
      go_wp2_with fail
      refine (awake_any _).mono ?_
      rintro e w9 ⟨rfl, hb9⟩
      go_wp2_with fail
      go_ret
      exact ⟨rfl, HB2.out.trans (hb9.mono HB2.out.size)⟩
  have HM := Lib.hid hm
  have HO1 := Lib.hid ho1
  have HBY1 := Lib.hid hby1
  have HB1 := Lib.hid hb1
  clear hm ho1 hby1 hb1
  go_wp2_with fail
  refine (write_any Am capm M v1 (HSM.out.keep HB1.out) hlM hlm HWM.out).mono ?_
  rintro e v2 (⟨hm, rfl, hb2⟩ | ⟨hm, A2, c2, rfl, ho2, hby2, hb2⟩)
  · have HB2 := Lib.hid (HB1.out.trans (hb2.mono HB1.out.size))
    clear hm hb2
    go_wp2_with fail
    refine (awake_any _).mono ?_
    rintro e w9 ⟨rfl, hb9⟩
    go_wp2_with fail
    go_ret
    exact ⟨rfl, HB2.out.trans (hb9.mono HB2.out.size)⟩
  have HM2 := Lib.hid hm
  have HO2 := Lib.hid (ho2.mono HB1.out.size)
  have HBY2 := Lib.hid hby2
  have HB2 := Lib.hid (HB1.out.trans (hb2.mono HB1.out.size))
  replace HO1 := Lib.hid (HO1.out.keep hb2)
  have hwl := HML.out HM.out
  have hwm := HMM.out HM2.out
  clear hm ho2 hby2 hb2
  obtain ⟨X, hX⟩ : ∃ X, wrL L = X := ⟨_, rfl⟩
  obtain ⟨Y, hY⟩ : ∃ Y, wrL M = Y := ⟨_, rfl⟩
  have HOF := Lib.hid (fun R => of_wr (L := L) HM.out R)
  have HOM := Lib.hid (fun R => of_wr (L := M) HM2.out R)
  have HCU := Lib.hid (fun c (h : c < (wrL L).length) => of_cut (L := L) HM.out h)
  rw [hX] at HO1 HBY1 hwl HCU ⊢
  simp only [hX] at HOF
  rw [hY] at HO2 HBY2 hwm ⊢
  simp only [hY] at HOM
  clear hX hY
  have HE0 := Lib.hid (Own.new0 (k := .u8) (e := 5) v2)
  have HBA := Lib.hid (ba (brefl v2) (.cells #[] 5))
  have HSBA := Lib.hid (HSB.out.keep (HB2.out.trans (HBA.out.mono HB2.out.size)))
  go_wp2_with (first | (at_builtin; refine Tin.wpl_app bt5 _ rfl (.tmp 51) (.tmp 52) rfl v2.heap.size _ [] rfl HE0.out Ab lb.length capb lb rfl HSBA.out rfl (by simp; omega) (by simp; omega) (by simp) ?_; intro x1 v3 ho hg hw; rw [List.nil_append] at ho; obtain ⟨A3, c3, rfl⟩ := own_form ho; have HO3 := Lib.hid ho; have HB3 := Lib.hid (HE0.out.grown HBA.out (by simp) hg); clear ho hg hw) | (at_builtin; refine Tin.wpl_app bt5 _ rfl (.tmp 53) (.tmp 54) rfl v2.heap.size _ lb rfl HO3.out A1 X.length c1 X rfl (HO1.out.keep HB3.out).sl'.2 rfl (by omega) (by omega) HB3.out.size ?_; intro x1 v4 ho hg hw; obtain ⟨A4, c4, rfl⟩ := own_form ho; have HO4 := Lib.hid ho; have HB4 := Lib.hid (HO3.out.grown HB3.out HB3.out.size hg); clear ho hg hw) | (at_builtin; refine Tin.wpl_app bt5 _ rfl (.tmp 55) (.tmp 56) rfl v2.heap.size (.slice A4 (lb.length + X.length) c4) (lb ++ X) rfl (by have := HO4.out; rw [List.length_append] at this; exact this) A2 Y.length c2 Y rfl (HO2.out.keep HB4.out).sl'.2 rfl (by rw [List.length_append]; omega) (by rw [List.length_append]; omega) HB4.out.size ?_; intro x1 v5 ho hg hw; obtain ⟨A5, c5, rfl⟩ := own_form ho; have HO5 := Lib.hid ho; have HB5 := Lib.hid ((show Own .u8 5 v4 v2.heap.size (.slice A4 (lb.length + X.length) c4) (lb ++ X) by have := HO4.out; rw [List.length_append] at this; exact this).grown HB4.out HB4.out.size hg); clear ho hg hw))
  obtain ⟨K, hK⟩ : ∃ K, lb ++ X ++ Y = K := ⟨_, rfl⟩
  have hKl : K.length = lb.length + X.length + Y.length := by rw [← hK, List.length_append, List.length_append]
  have HBK := Lib.hid (show Byts K by rw [← hK]; exact (HBB.out.app HBY1.out).app HBY2.out)
  have HD1 := Lib.hid (show K.drop lb.length = X ++ Y by rw [← hK, List.append_assoc, List.drop_left])
  have HD2 := Lib.hid (show K.drop (lb.length + X.length) = Y ++ [] by rw [← hK, ← List.length_append, List.drop_left, List.append_nil])
  rw [hK] at HO5
  clear hK
  have HBW5 := Lib.hid (HB2.out.trans (HB5.out.mono HB2.out.size))
  rw [show lb.length + (X.length + Y.length) = K.length by omega]
  have HKL := Lib.hid hKl
  have hKn : K.length ≤ 1000000 := by omega
  clear hKl
  have hc5 : K.length ≤ c5 := by obtain ⟨_, _, he, _, h1, _⟩ := HO5.out.sl; injection he with _ _ h2; omega
  refine (end_any A5 K c5 (lb.length : Int) v5 HO5.out.sl'.2 hc5 hKn HBK.out (wf_of (by have := HKL.out; omega))).mono ?_
  rintro e v6 ⟨rfl, hb6⟩
  have he1 : endN K (lb.length : Int) = (lb.length : Int) + (X.length : Int) ∧ endB K (lb.length : Int) = true := by
    have h := ends_at (l := K) (k := lb.length) (by have := HKL.out; omega)
    rw [HD1.out, HOF.out Y] at h
    exact h
  rw [he1.1, he1.2]
  clear he1
  have HB6 := Lib.hid (HBW5.out.trans (hb6.mono HBW5.out.size))
  have HX6 := Lib.hid hb6
  have HO6 := Lib.hid (HO5.out.keep hb6)
  clear hb6
  go_wp2_with fail
  refine (end_any A5 K c5 ((lb.length : Int) + (X.length : Int)) v6 HO6.out.sl'.2 hc5 hKn HBK.out (wf_of (by have := HKL.out; omega))).mono ?_
  rintro e v7 ⟨rfl, hb7⟩
  have he2 : endN K ((lb.length : Int) + (X.length : Int)) = (K.length : Int) ∧ endB K ((lb.length : Int) + (X.length : Int)) = true := by
    have h := ends_at (l := K) (k := lb.length + X.length) (by have := HKL.out; omega)
    rw [HD2.out, HOM.out [], show ((lb.length + X.length : Nat) : Int) = (lb.length : Int) + (X.length : Int) by omega] at h
    refine ⟨h.1.trans ?_, h.2⟩
    show ((lb.length : Int) + (X.length : Int)) + (Y.length : Int) = _
    have := HKL.out
    omega
  rw [he2.1, he2.2]
  clear he2
  have HB7 := Lib.hid (HB6.out.trans (hb7.mono HB6.out.size))
  have hb5x : Below v5.heap.size v5 v7 := HX6.out.trans (hb7.mono HX6.out.size)
  clear hb7
  by_cases k0 : 0 ≤ cut
  case neg =>
    have j0 : cut < 0 := by omega
    go_wp2_with fail
    refine (awake_any _).mono ?_
    rintro e w9 ⟨rfl, hb9⟩
    go_wp2_with fail
    go_ret
    exact ⟨rfl, HB7.out.trans (hb9.mono HB7.out.size)⟩
  by_cases k1 : cut < X.length
  case neg =>
    have j1 : (X.length : Int) ≤ cut := by omega
    go_wp2_with fail
    refine (awake_any _).mono ?_
    rintro e w9 ⟨rfl, hb9⟩
    go_wp2_with fail
    go_ret
    exact ⟨rfl, HB7.out.trans (hb9.mono HB7.out.size)⟩
  obtain ⟨n, rfl⟩ := Int.eq_ofNat_of_zero_le k0
  have hn : n < X.length := by omega
  have j0 : (0 : Int) ≤ (n : Int) := by omega
  have j1 : (n : Int) < (X.length : Int) := k1
  have hcx : X.length ≤ c1 := by obtain ⟨_, _, he, _, h1, _⟩ := HO1.out.sl; injection he with _ _ h2; omega
  have j2 : (n : Int) ≤ (c1 : Int) := by omega
  have HR := Lib.hid (HCU.out n hn)
  obtain ⟨Z, hZ⟩ : ∃ Z, X.take n = Z := ⟨_, rfl⟩
  have HZL := Lib.hid (show n = Z.length by rw [← hZ, List.length_take]; omega)
  have HSZ := Lib.hid (show Sl .u8 v7 A1 Z by
    rw [← hZ]
    have h9 : Below v2.heap.size v2 v7 := HB5.out.trans ((hb5x).mono HB5.out.size)
    exact ((HO1.out.keep h9).sl'.2).take n)
  have HBZ := Lib.hid (show Byts Z by rw [← hZ]; exact HBY1.out.take n)
  rw [hZ] at HR
  clear hZ k0 k1
  go_wp2_with fail
  rw [HZL.out]
  refine (of_any A1 Z c1 v7 HSZ.out (by rw [← HZL.out]; omega) (by rw [← HZL.out]; omega) HBZ.out).mono ?_
  intro e v8 hp
  rw [HR.out] at hp
  obtain ⟨rfl, hb8⟩ := hp
  rw [← HZL.out]
  have HB8 := Lib.hid (HB7.out.trans (hb8.mono HB7.out.size))
  go_wp2_with fail
  refine (awake_any _).mono ?_
  rintro e w9 ⟨rfl, hb9⟩
  go_wp2_with fail
  go_ret
  exact ⟨rfl, HB8.out.trans (hb9.mono HB8.out.size)⟩
end Go.Proofs.Ytecjjadgdlbmiaa
