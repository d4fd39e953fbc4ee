/- The walk of TypesMakes. -/
import Derived.Test.YtmdcdmgbillehaaTzM
import Derived.Test.YtmdcdmgbillehaaLb
namespace Go.Proofs.Ytmdcdmgbillehaa
open Go.RowKit
open Go.Tin
set_option linter.unusedVariables false
set_option linter.unusedSimpArgs false


theorem sv_ratio : SV Try.prog 23 55 2 16 := SV.of Try.underlying23 (by kernel_rfl) (by decide)
theorem ron_le (k : Int) (l : List Int) : (ronL k l).length ≤ 4 * l.length := by
  unfold ronL
  split
  · unfold rofL
    split
    · exact nmsL_le k l
    · simp
  · simp
theorem ra_le (k : Int) (n : Nat) (zs : List Int) : (raL k n zs).length ≤ 8 * n := by
  unfold raL
  split
  · unfold rmL
    split
    · exact rtpL_le k zs n
    · simp
  · simp
theorem ot_le (s : ByteArray) : (otL s).length ≤ s.size + 1 := by
  unfold otL
  split
  · rw [ot_len]; exact Nat.le_refl _
  · simp
theorem smV_rf (t c : Int) (l : List Int) : smV t c l t c l = true := by simp [smV]
set_option maxRecDepth 100000 in
set_option maxHeartbeats 8000000 in
theorem makes_any (k : Int) (A : Option Addr) (len cap : Nat) (l : List Int) (A' : Option Addr) (m cap' : Nat) (s : ByteArray) (w : World) (wk : (Lit.int .i64 k).wf = true) (hr : IsRow .i64 w A len cap l) (ft : Fits w (.slice 2 (.fld 0 0 1 (.int .i64) (.fld 1 1 1 (.int .i64) .unit))) [.slice A' m cap']) (hsz : s.size ≤ maxLen) :
    Calls Try.prog 3 #[.int .i64 k, .slice A len cap, .slice A' m cap', .string s] w fun e w' => e = .returned (.bool true) ∧ Below w.heap.size w w' := by
  obtain ⟨hs, hlen, hlc, hcm, hwf⟩ := Sl.of_row hr
  generalize l.take len = l at *
  subst hlen
  obtain ⟨zs, hf, hzl, hmc, hmm, -, -⟩ := flat_of_fits (flat_two w .i64) ft
  have HSZ := Lib.hid (show SlV w A' (iv zs) from SlV.ofSl hf)
  have HZL := Lib.hid hzl
  have HS := Lib.hid hs
  clear hwf hr hlc wk hs hf hzl ft
  unfold maxLen at hcm hmm hsz
  have HB := Lib.hid (brefl w)
  by_cases i1 : 150 < l.length
  · have i1'' : (150 : Int) < (l.length : Int) := by omega
    go_enter Try.func3, Try.ntmps3
    go_wp2_with fail
    refine (awake_any _).mono ?_
    rintro e w1 ⟨rfl, hb⟩
    go_wp2_with fail
    go_ret
    exact ⟨rfl, hb⟩
  have i1' : (l.length : Int) ≤ 150 := by omega
  clear i1
  by_cases i2 : 150 < m
  · have i2'' : (150 : Int) < (m : Int) := by omega
    go_enter Try.func3, Try.ntmps3
    go_wp2_with fail
    refine (awake_any _).mono ?_
    rintro e w1 ⟨rfl, hb⟩
    go_wp2_with fail
    go_ret
    exact ⟨rfl, hb⟩
  have i2' : (m : Int) ≤ 150 := by omega
  clear i2
  by_cases i3 : 600 < s.size
  · have i3'' : (600 : Int) < (s.size : Int) := by omega
    go_enter Try.func3, Try.ntmps3
    go_wp2_with fail
    refine (awake_any _).mono ?_
    rintro e w1 ⟨rfl, hb⟩
    go_wp2_with fail
    go_ret
    exact ⟨rfl, hb⟩
  have i3' : (s.size : Int) ≤ 600 := by omega
  clear i3
  have HE1 := Lib.hid (show Own .i64 3 (w.alloc (.cells #[] 3)) w.heap.size (.slice (some ⟨w.heap.size, 0, none⟩) 0 0) [] from Own.new0 w)
  have hb0 := ba (brefl w) (.cells #[] 3)
  have HSA := Lib.hid (HS.out.keep hb0)
  clear hb0
  go_enter Try.func3, Try.ntmps3
  go_wp2_with (first | (at_builtin; refine Tin.wpl_app bt3 _ rfl (.tmp 37) (.tmp 38) rfl w.heap.size _ [] rfl HE1.out A l.length cap l rfl HSA.out rfl (by simp; omega) (by simp; omega) (by simp) ?_; intro x1 w1 ho1 hg1 hw1; rw [List.nil_append] at ho1; obtain ⟨A1, c1, rfl⟩ := own_form ho1; have HO1 := Lib.hid ho1; have hb1 : Below w.heap.size w w1 := (ba (brefl w) (.cells #[] 3)).grown hg1 (by simp) (fun q hq => by have e' : w.heap.size = q := Option.some.inj hq; omega); have HB1 := Lib.hid hb1; have HSB := Lib.hid (HSZ.out.keep (hb1.trans ((ba (brefl w1) (.cells #[] 55)).mono hb1.size))); have HE2 := Lib.hid (show OwnV 55 2 (w1.alloc (.cells #[] 55)) w1.heap.size (.slice (some ⟨w1.heap.size, 0, none⟩) 0 0) 0 [] from OwnV.new0 _ _ w1); clear ho1 hg1 hw1 hb1) | (at_builtin; refine Tin.wplv_app sv_ratio _ rfl (.tmp 40) (.tmp 41) rfl w1.heap.size _ 0 [] rfl HE2.out A' m cap' (iv zs) rfl (by simp [HZL.out]) HSB.out (by intro u hu; obtain ⟨z, _, rfl⟩ := List.mem_map.1 hu; rfl) (by omega) (by omega) (by simp) ?_; intro A2 c2 w2 ho2 hg2 hw2; have HO2 := Lib.hid ho2; have hb2 : Below w1.heap.size w1 w2 := (ba (brefl w1) (.cells #[] 55)).grown hg2 (by simp) (fun q hq => by have e' : w1.heap.size = q := Option.some.inj hq; omega); have HO1' := Lib.hid (HO1.out.keep hb2); have HB2 := Lib.hid (HB1.out.trans (hb2.mono HB1.out.size)); clear ho2 hg2 hw2 hb2))
  have hx2 := HB2.out
  replace HS := Lib.hid (HS.out.keep hx2)
  replace HSZ := Lib.hid (HSZ.out.keep hx2)
  clear hx2
  have HV2 := Lib.hid (show SlV w2 A2 (iv zs) by simpa using HO2.out.sl'.2.1)
  replace HB := HB2
  clear HO1 HO2 HB1 HSA HSB HE1 HE2 HB2
  have HN1 := Lib.hid (fun (W : World) (A : Option Addr) (c : Nat) (h : Sl .i64 W A l) => onum_any k A l c W h (by omega))
  have HN2 := Lib.hid (fun (W : World) (A : Option Addr) (c : Nat) (h : Sl .i64 W A l) => ron_any k A l c W h (by omega))
  have HLN := Lib.hid (show (ronL k l).length ≤ 1000 by have := ron_le k l; omega)
  generalize on (ronB k l) k = r0 at *
  generalize on (ronB k l) (l.length : Int) = r1 at *
  generalize ronL k l = RL at *
  generalize ronB k l = RB at *
  have HR1 := Lib.hid (fun (W : World) (A : Option Addr) (c : Nat) (h : SlV W A (iv zs)) => orat_any k A m c zs W h HZL.out (by omega))
  have HR2 := Lib.hid (fun (W : World) (A : Option Addr) (c : Nat) (h : SlV W A (iv zs)) => rorat_any k A m c zs W h HZL.out (by omega))
  have HLR := Lib.hid (show (raL k m zs).length ≤ 2000 by have := ra_le k m zs; omega)
  generalize on (raB k m zs) k = s0 at *
  generalize on (raB k m zs) (m : Int) = s1 at *
  generalize raL k m zs = SL at *
  generalize raB k m zs = SB at *
  have HT1 := Lib.hid (fun (W : World) => otext_any s W (by omega))
  have HT2 := Lib.hid (fun (W : World) => rotext_any s W (by omega))
  have HLT := Lib.hid (show (otL s).length ≤ 1000 by have := ot_le s; omega)
  generalize on (otB s) 2 = t0 at *
  generalize on (otB s) ((s.size : Int) + 1) = t1 at *
  generalize otL s = TL at *
  generalize otB s = TB at *
  refine (HN1.out _ _ _ HO1'.out.sl'.2).mono ?_
  rintro e v1 ⟨B1, d1, rfl, hv1_0, hb⟩
  replace HS := Lib.hid (HS.out.keep hb)
  replace HSZ := Lib.hid (HSZ.out.keep hb)
  replace HO1' := Lib.hid (HO1'.out.keep hb)
  replace HV2 := Lib.hid (HV2.out.keep hb)
  replace HB := Lib.hid (HB.out.trans (hb.mono HB.out.size))
  have HP1 := Lib.hid hv1_0
  clear hv1_0 hb
  simp only [vrow]
  have hb := (ba (brefl v1) (.cells (vrow r0 r1 B1 RL.length d1) 27))
  have R11 := (alloc1 v1 (.cells (vrow r0 r1 B1 RL.length d1) 27)).1
  replace HS := Lib.hid (HS.out.keep hb)
  replace HSZ := Lib.hid (HSZ.out.keep hb)
  replace HO1' := Lib.hid (HO1'.out.keep hb)
  replace HV2 := Lib.hid (HV2.out.keep hb)
  replace HP1 := Lib.hid (HP1.out.keep hb)
  replace HB := Lib.hid (HB.out.trans (hb.mono HB.out.size))
  clear hb
  replace R11 := Lib.hid R11
  go_wp2_with fail
  generalize (v1.alloc (.cells (vrow r0 r1 B1 RL.length d1) 27)) = v2 at *
  obtain ⟨gR11, hg⟩ : ∃ g, g = v1.heap.size := ⟨_, rfl⟩
  rw [← hg] at R11 ⊢
  clear hg
  refine (HN2.out _ _ _ HS.out).mono ?_
  rintro e v3 ⟨B2, d2, rfl, hv3_0, hb⟩
  replace HS := Lib.hid (HS.out.keep hb)
  replace HSZ := Lib.hid (HSZ.out.keep hb)
  replace HO1' := Lib.hid (HO1'.out.keep hb)
  replace HV2 := Lib.hid (HV2.out.keep hb)
  replace HP1 := Lib.hid (HP1.out.keep hb)
  replace R11 := Lib.hid ((hb.block _ (row_lt R11.out)).trans R11.out)
  replace HB := Lib.hid (HB.out.trans (hb.mono HB.out.size))
  have HP2 := Lib.hid hv3_0
  clear hv3_0 hb
  simp only [vrow]
  have hb := (ba (brefl v3) (.cells (vrow r0 r1 B2 RL.length d2) 27))
  have R13 := (alloc1 v3 (.cells (vrow r0 r1 B2 RL.length d2) 27)).1
  replace HS := Lib.hid (HS.out.keep hb)
  replace HSZ := Lib.hid (HSZ.out.keep hb)
  replace HO1' := Lib.hid (HO1'.out.keep hb)
  replace HV2 := Lib.hid (HV2.out.keep hb)
  replace HP1 := Lib.hid (HP1.out.keep hb)
  replace R11 := Lib.hid ((hb.block _ (row_lt R11.out)).trans R11.out)
  replace HP2 := Lib.hid (HP2.out.keep hb)
  replace HB := Lib.hid (HB.out.trans (hb.mono HB.out.size))
  clear hb
  replace R13 := Lib.hid R13
  go_wp2_with fail
  generalize (v3.alloc (.cells (vrow r0 r1 B2 RL.length d2) 27)) = v4 at *
  obtain ⟨gR13, hg⟩ : ∃ g, g = v3.heap.size := ⟨_, rfl⟩
  rw [← hg] at R13 ⊢
  clear hg
  refine (HR1.out _ _ _ HV2.out).mono ?_
  rintro e v5 ⟨B3, d3, rfl, hv5_0, hb⟩
  replace HS := Lib.hid (HS.out.keep hb)
  replace HSZ := Lib.hid (HSZ.out.keep hb)
  replace HO1' := Lib.hid (HO1'.out.keep hb)
  replace HV2 := Lib.hid (HV2.out.keep hb)
  replace HP1 := Lib.hid (HP1.out.keep hb)
  replace R11 := Lib.hid ((hb.block _ (row_lt R11.out)).trans R11.out)
  replace HP2 := Lib.hid (HP2.out.keep hb)
  replace R13 := Lib.hid ((hb.block _ (row_lt R13.out)).trans R13.out)
  replace HB := Lib.hid (HB.out.trans (hb.mono HB.out.size))
  have HP3 := Lib.hid hv5_0
  clear hv5_0 hb
  simp only [vrow]
  have hb := (ba (brefl v5) (.cells (vrow s0 s1 B3 SL.length d3) 27))
  have R15 := (alloc1 v5 (.cells (vrow s0 s1 B3 SL.length d3) 27)).1
  replace HS := Lib.hid (HS.out.keep hb)
  replace HSZ := Lib.hid (HSZ.out.keep hb)
  replace HO1' := Lib.hid (HO1'.out.keep hb)
  replace HV2 := Lib.hid (HV2.out.keep hb)
  replace HP1 := Lib.hid (HP1.out.keep hb)
  replace R11 := Lib.hid ((hb.block _ (row_lt R11.out)).trans R11.out)
  replace HP2 := Lib.hid (HP2.out.keep hb)
  replace R13 := Lib.hid ((hb.block _ (row_lt R13.out)).trans R13.out)
  replace HP3 := Lib.hid (HP3.out.keep hb)
  replace HB := Lib.hid (HB.out.trans (hb.mono HB.out.size))
  clear hb
  replace R15 := Lib.hid R15
  go_wp2_with fail
  generalize (v5.alloc (.cells (vrow s0 s1 B3 SL.length d3) 27)) = v6 at *
  obtain ⟨gR15, hg⟩ : ∃ g, g = v5.heap.size := ⟨_, rfl⟩
  rw [← hg] at R15 ⊢
  clear hg
  refine (HR2.out _ _ _ HSZ.out).mono ?_
  rintro e v7 ⟨B4, d4, rfl, hv7_0, hb⟩
  replace HS := Lib.hid (HS.out.keep hb)
  replace HSZ := Lib.hid (HSZ.out.keep hb)
  replace HO1' := Lib.hid (HO1'.out.keep hb)
  replace HV2 := Lib.hid (HV2.out.keep hb)
  replace HP1 := Lib.hid (HP1.out.keep hb)
  replace R11 := Lib.hid ((hb.block _ (row_lt R11.out)).trans R11.out)
  replace HP2 := Lib.hid (HP2.out.keep hb)
  replace R13 := Lib.hid ((hb.block _ (row_lt R13.out)).trans R13.out)
  replace HP3 := Lib.hid (HP3.out.keep hb)
  replace R15 := Lib.hid ((hb.block _ (row_lt R15.out)).trans R15.out)
  replace HB := Lib.hid (HB.out.trans (hb.mono HB.out.size))
  have HP4 := Lib.hid hv7_0
  clear hv7_0 hb
  simp only [vrow]
  have hb := (ba (brefl v7) (.cells (vrow s0 s1 B4 SL.length d4) 27))
  have R17 := (alloc1 v7 (.cells (vrow s0 s1 B4 SL.length d4) 27)).1
  replace HS := Lib.hid (HS.out.keep hb)
  replace HSZ := Lib.hid (HSZ.out.keep hb)
  replace HO1' := Lib.hid (HO1'.out.keep hb)
  replace HV2 := Lib.hid (HV2.out.keep hb)
  replace HP1 := Lib.hid (HP1.out.keep hb)
  replace R11 := Lib.hid ((hb.block _ (row_lt R11.out)).trans R11.out)
  replace HP2 := Lib.hid (HP2.out.keep hb)
  replace R13 := Lib.hid ((hb.block _ (row_lt R13.out)).trans R13.out)
  replace HP3 := Lib.hid (HP3.out.keep hb)
  replace R15 := Lib.hid ((hb.block _ (row_lt R15.out)).trans R15.out)
  replace HP4 := Lib.hid (HP4.out.keep hb)
  replace HB := Lib.hid (HB.out.trans (hb.mono HB.out.size))
  clear hb
  replace R17 := Lib.hid R17
  go_wp2_with fail
  generalize (v7.alloc (.cells (vrow s0 s1 B4 SL.length d4) 27)) = v8 at *
  obtain ⟨gR17, hg⟩ : ∃ g, g = v7.heap.size := ⟨_, rfl⟩
  rw [← hg] at R17 ⊢
  clear hg
  refine (HT1.out _).mono ?_
  rintro e v9 ⟨B5, d5, rfl, hv9_0, hb⟩
  replace HS := Lib.hid (HS.out.keep hb)
  replace HSZ := Lib.hid (HSZ.out.keep hb)
  replace HO1' := Lib.hid (HO1'.out.keep hb)
  replace HV2 := Lib.hid (HV2.out.keep hb)
  replace HP1 := Lib.hid (HP1.out.keep hb)
  replace R11 := Lib.hid ((hb.block _ (row_lt R11.out)).trans R11.out)
  replace HP2 := Lib.hid (HP2.out.keep hb)
  replace R13 := Lib.hid ((hb.block _ (row_lt R13.out)).trans R13.out)
  replace HP3 := Lib.hid (HP3.out.keep hb)
  replace R15 := Lib.hid ((hb.block _ (row_lt R15.out)).trans R15.out)
  replace HP4 := Lib.hid (HP4.out.keep hb)
  replace R17 := Lib.hid ((hb.block _ (row_lt R17.out)).trans R17.out)
  replace HB := Lib.hid (HB.out.trans (hb.mono HB.out.size))
  have HP5 := Lib.hid hv9_0
  clear hv9_0 hb
  simp only [vrow]
  have hb := (ba (brefl v9) (.cells (vrow t0 t1 B5 TL.length d5) 27))
  have R19 := (alloc1 v9 (.cells (vrow t0 t1 B5 TL.length d5) 27)).1
  replace HS := Lib.hid (HS.out.keep hb)
  replace HSZ := Lib.hid (HSZ.out.keep hb)
  replace HO1' := Lib.hid (HO1'.out.keep hb)
  replace HV2 := Lib.hid (HV2.out.keep hb)
  replace HP1 := Lib.hid (HP1.out.keep hb)
  replace R11 := Lib.hid ((hb.block _ (row_lt R11.out)).trans R11.out)
  replace HP2 := Lib.hid (HP2.out.keep hb)
  replace R13 := Lib.hid ((hb.block _ (row_lt R13.out)).trans R13.out)
  replace HP3 := Lib.hid (HP3.out.keep hb)
  replace R15 := Lib.hid ((hb.block _ (row_lt R15.out)).trans R15.out)
  replace HP4 := Lib.hid (HP4.out.keep hb)
  replace R17 := Lib.hid ((hb.block _ (row_lt R17.out)).trans R17.out)
  replace HP5 := Lib.hid (HP5.out.keep hb)
  replace HB := Lib.hid (HB.out.trans (hb.mono HB.out.size))
  clear hb
  replace R19 := Lib.hid R19
  go_wp2_with fail
  generalize (v9.alloc (.cells (vrow t0 t1 B5 TL.length d5) 27)) = v10 at *
  obtain ⟨gR19, hg⟩ : ∃ g, g = v9.heap.size := ⟨_, rfl⟩
  rw [← hg] at R19 ⊢
  clear hg
  refine (HT2.out _).mono ?_
  rintro e v11 ⟨B6, d6, rfl, hv11_0, hb⟩
  replace HS := Lib.hid (HS.out.keep hb)
  replace HSZ := Lib.hid (HSZ.out.keep hb)
  replace HO1' := Lib.hid (HO1'.out.keep hb)
  replace HV2 := Lib.hid (HV2.out.keep hb)
  replace HP1 := Lib.hid (HP1.out.keep hb)
  replace R11 := Lib.hid ((hb.block _ (row_lt R11.out)).trans R11.out)
  replace HP2 := Lib.hid (HP2.out.keep hb)
  replace R13 := Lib.hid ((hb.block _ (row_lt R13.out)).trans R13.out)
  replace HP3 := Lib.hid (HP3.out.keep hb)
  replace R15 := Lib.hid ((hb.block _ (row_lt R15.out)).trans R15.out)
  replace HP4 := Lib.hid (HP4.out.keep hb)
  replace R17 := Lib.hid ((hb.block _ (row_lt R17.out)).trans R17.out)
  replace HP5 := Lib.hid (HP5.out.keep hb)
  replace R19 := Lib.hid ((hb.block _ (row_lt R19.out)).trans R19.out)
  replace HB := Lib.hid (HB.out.trans (hb.mono HB.out.size))
  have HP6 := Lib.hid hv11_0
  clear hv11_0 hb
  simp only [vrow]
  have hb := (ba (brefl v11) (.cells (vrow t0 t1 B6 TL.length d6) 27))
  have R21 := (alloc1 v11 (.cells (vrow t0 t1 B6 TL.length d6) 27)).1
  replace HS := Lib.hid (HS.out.keep hb)
  replace HSZ := Lib.hid (HSZ.out.keep hb)
  replace HO1' := Lib.hid (HO1'.out.keep hb)
  replace HV2 := Lib.hid (HV2.out.keep hb)
  replace HP1 := Lib.hid (HP1.out.keep hb)
  replace R11 := Lib.hid ((hb.block _ (row_lt R11.out)).trans R11.out)
  replace HP2 := Lib.hid (HP2.out.keep hb)
  replace R13 := Lib.hid ((hb.block _ (row_lt R13.out)).trans R13.out)
  replace HP3 := Lib.hid (HP3.out.keep hb)
  replace R15 := Lib.hid ((hb.block _ (row_lt R15.out)).trans R15.out)
  replace HP4 := Lib.hid (HP4.out.keep hb)
  replace R17 := Lib.hid ((hb.block _ (row_lt R17.out)).trans R17.out)
  replace HP5 := Lib.hid (HP5.out.keep hb)
  replace R19 := Lib.hid ((hb.block _ (row_lt R19.out)).trans R19.out)
  replace HP6 := Lib.hid (HP6.out.keep hb)
  replace HB := Lib.hid (HB.out.trans (hb.mono HB.out.size))
  clear hb
  replace R21 := Lib.hid R21
  go_wp2_with (first | ((with_reducible refine wpl_load_row rtV ?_ (.tmp 11) ?_ (gR11) ?_ 27 (vrow r0 r1 B1 RL.length d1) ?_ R11.out ?_); rfl; rfl; rfl; rfl; simp only [Act.put, List.setIfInBounds_toArray, List.set_cons_succ, List.set_cons_zero]) | ((with_reducible refine wpl_load_row rtV ?_ (.tmp 13) ?_ (gR13) ?_ 27 (vrow r0 r1 B2 RL.length d2) ?_ R13.out ?_); rfl; rfl; rfl; rfl; simp only [Act.put, List.setIfInBounds_toArray, List.set_cons_succ, List.set_cons_zero]))
  generalize (v11.alloc (.cells (vrow t0 t1 B6 TL.length d6) 27)) = v12 at *
  obtain ⟨gR21, hg⟩ : ∃ g, g = v11.heap.size := ⟨_, rfl⟩
  rw [← hg] at R21 ⊢
  clear hg
  have rb : (RB == RB) = true := by simp
  have sb : (SB == SB) = true := by simp
  have tb : (TB == TB) = true := by simp
  have HQ := Lib.hid (rvsame_any r0 r1 B1 RL d1 r0 r1 B2 RL d2 v12 HP1.out.sl'.2 HP2.out.sl'.2 (by have := HLN.out; omega) (by have := HLN.out; omega))
  rw [smV_rf] at HQ
  refine (HQ.out).mono ?_
  rintro e v13 ⟨rfl, hb⟩
  replace HS := Lib.hid (HS.out.keep hb)
  replace HSZ := Lib.hid (HSZ.out.keep hb)
  replace HO1' := Lib.hid (HO1'.out.keep hb)
  replace HV2 := Lib.hid (HV2.out.keep hb)
  replace HP1 := Lib.hid (HP1.out.keep hb)
  replace R11 := Lib.hid ((hb.block _ (row_lt R11.out)).trans R11.out)
  replace HP2 := Lib.hid (HP2.out.keep hb)
  replace R13 := Lib.hid ((hb.block _ (row_lt R13.out)).trans R13.out)
  replace HP3 := Lib.hid (HP3.out.keep hb)
  replace R15 := Lib.hid ((hb.block _ (row_lt R15.out)).trans R15.out)
  replace HP4 := Lib.hid (HP4.out.keep hb)
  replace R17 := Lib.hid ((hb.block _ (row_lt R17.out)).trans R17.out)
  replace HP5 := Lib.hid (HP5.out.keep hb)
  replace R19 := Lib.hid ((hb.block _ (row_lt R19.out)).trans R19.out)
  replace HP6 := Lib.hid (HP6.out.keep hb)
  replace R21 := Lib.hid ((hb.block _ (row_lt R21.out)).trans R21.out)
  replace HB := Lib.hid (HB.out.trans (hb.mono HB.out.size))
  clear hb
  clear HQ
  go_wp2_with (first | ((with_reducible refine wpl_load_row rtV ?_ (.tmp 15) ?_ (gR15) ?_ 27 (vrow s0 s1 B3 SL.length d3) ?_ R15.out ?_); rfl; rfl; rfl; rfl; simp only [Act.put, List.setIfInBounds_toArray, List.set_cons_succ, List.set_cons_zero]) | ((with_reducible refine wpl_load_row rtV ?_ (.tmp 17) ?_ (gR17) ?_ 27 (vrow s0 s1 B4 SL.length d4) ?_ R17.out ?_); rfl; rfl; rfl; rfl; simp only [Act.put, List.setIfInBounds_toArray, List.set_cons_succ, List.set_cons_zero]))
  have HQ := Lib.hid (rvsame_any s0 s1 B3 SL d3 s0 s1 B4 SL d4 v13 HP3.out.sl'.2 HP4.out (by have := HLR.out; omega) (by have := HLR.out; omega))
  rw [smV_rf] at HQ
  refine (HQ.out).mono ?_
  rintro e v14 ⟨rfl, hb⟩
  replace HS := Lib.hid (HS.out.keep hb)
  replace HSZ := Lib.hid (HSZ.out.keep hb)
  replace HO1' := Lib.hid (HO1'.out.keep hb)
  replace HV2 := Lib.hid (HV2.out.keep hb)
  replace HP1 := Lib.hid (HP1.out.keep hb)
  replace R11 := Lib.hid ((hb.block _ (row_lt R11.out)).trans R11.out)
  replace HP2 := Lib.hid (HP2.out.keep hb)
  replace R13 := Lib.hid ((hb.block _ (row_lt R13.out)).trans R13.out)
  replace HP3 := Lib.hid (HP3.out.keep hb)
  replace R15 := Lib.hid ((hb.block _ (row_lt R15.out)).trans R15.out)
  replace HP4 := Lib.hid (HP4.out.keep hb)
  replace R17 := Lib.hid ((hb.block _ (row_lt R17.out)).trans R17.out)
  replace HP5 := Lib.hid (HP5.out.keep hb)
  replace R19 := Lib.hid ((hb.block _ (row_lt R19.out)).trans R19.out)
  replace HP6 := Lib.hid (HP6.out.keep hb)
  replace R21 := Lib.hid ((hb.block _ (row_lt R21.out)).trans R21.out)
  replace HB := Lib.hid (HB.out.trans (hb.mono HB.out.size))
  clear hb
  clear HQ
  go_wp2_with (first | ((with_reducible refine wpl_load_row rtV ?_ (.tmp 19) ?_ (gR19) ?_ 27 (vrow t0 t1 B5 TL.length d5) ?_ R19.out ?_); rfl; rfl; rfl; rfl; simp only [Act.put, List.setIfInBounds_toArray, List.set_cons_succ, List.set_cons_zero]) | ((with_reducible refine wpl_load_row rtV ?_ (.tmp 21) ?_ (gR21) ?_ 27 (vrow t0 t1 B6 TL.length d6) ?_ R21.out ?_); rfl; rfl; rfl; rfl; simp only [Act.put, List.setIfInBounds_toArray, List.set_cons_succ, List.set_cons_zero]))
  have HQ := Lib.hid (rvsame_any t0 t1 B5 TL d5 t0 t1 B6 TL d6 v14 HP5.out HP6.out (by have := HLT.out; omega) (by have := HLT.out; omega))
  rw [smV_rf] at HQ
  refine (HQ.out).mono ?_
  rintro e v15 ⟨rfl, hb⟩
  replace HS := Lib.hid (HS.out.keep hb)
  replace HSZ := Lib.hid (HSZ.out.keep hb)
  replace HO1' := Lib.hid (HO1'.out.keep hb)
  replace HV2 := Lib.hid (HV2.out.keep hb)
  replace HP1 := Lib.hid (HP1.out.keep hb)
  replace R11 := Lib.hid ((hb.block _ (row_lt R11.out)).trans R11.out)
  replace HP2 := Lib.hid (HP2.out.keep hb)
  replace R13 := Lib.hid ((hb.block _ (row_lt R13.out)).trans R13.out)
  replace HP3 := Lib.hid (HP3.out.keep hb)
  replace R15 := Lib.hid ((hb.block _ (row_lt R15.out)).trans R15.out)
  replace HP4 := Lib.hid (HP4.out.keep hb)
  replace R17 := Lib.hid ((hb.block _ (row_lt R17.out)).trans R17.out)
  replace HP5 := Lib.hid (HP5.out.keep hb)
  replace R19 := Lib.hid ((hb.block _ (row_lt R19.out)).trans R19.out)
  replace HP6 := Lib.hid (HP6.out.keep hb)
  replace R21 := Lib.hid ((hb.block _ (row_lt R21.out)).trans R21.out)
  replace HB := Lib.hid (HB.out.trans (hb.mono HB.out.size))
  clear hb
  clear HQ
  go_wp2_with fail
  refine (ints_any A1 A l l c1 cap v15 HO1'.out.sl'.2 HS.out (by omega) (by omega)).mono ?_
  rintro e v16 ⟨rfl, hb⟩
  replace HS := Lib.hid (HS.out.keep hb)
  replace HSZ := Lib.hid (HSZ.out.keep hb)
  replace HO1' := Lib.hid (HO1'.out.keep hb)
  replace HV2 := Lib.hid (HV2.out.keep hb)
  replace HP1 := Lib.hid (HP1.out.keep hb)
  replace R11 := Lib.hid ((hb.block _ (row_lt R11.out)).trans R11.out)
  replace HP2 := Lib.hid (HP2.out.keep hb)
  replace R13 := Lib.hid ((hb.block _ (row_lt R13.out)).trans R13.out)
  replace HP3 := Lib.hid (HP3.out.keep hb)
  replace R15 := Lib.hid ((hb.block _ (row_lt R15.out)).trans R15.out)
  replace HP4 := Lib.hid (HP4.out.keep hb)
  replace R17 := Lib.hid ((hb.block _ (row_lt R17.out)).trans R17.out)
  replace HP5 := Lib.hid (HP5.out.keep hb)
  replace R19 := Lib.hid ((hb.block _ (row_lt R19.out)).trans R19.out)
  replace HP6 := Lib.hid (HP6.out.keep hb)
  replace R21 := Lib.hid ((hb.block _ (row_lt R21.out)).trans R21.out)
  replace HB := Lib.hid (HB.out.trans (hb.mono HB.out.size))
  clear hb
  rw [show decide (l = l) = true by simp]
  go_wp2_with fail
  refine (row_any A2 A' m m c2 cap' zs zs v16 HV2.out HSZ.out HZL.out HZL.out (by omega) (by omega)).mono ?_
  rintro e v17 ⟨rfl, hb⟩
  replace HS := Lib.hid (HS.out.keep hb)
  replace HSZ := Lib.hid (HSZ.out.keep hb)
  replace HO1' := Lib.hid (HO1'.out.keep hb)
  replace HV2 := Lib.hid (HV2.out.keep hb)
  replace HP1 := Lib.hid (HP1.out.keep hb)
  replace R11 := Lib.hid ((hb.block _ (row_lt R11.out)).trans R11.out)
  replace HP2 := Lib.hid (HP2.out.keep hb)
  replace R13 := Lib.hid ((hb.block _ (row_lt R13.out)).trans R13.out)
  replace HP3 := Lib.hid (HP3.out.keep hb)
  replace R15 := Lib.hid ((hb.block _ (row_lt R15.out)).trans R15.out)
  replace HP4 := Lib.hid (HP4.out.keep hb)
  replace R17 := Lib.hid ((hb.block _ (row_lt R17.out)).trans R17.out)
  replace HP5 := Lib.hid (HP5.out.keep hb)
  replace R19 := Lib.hid ((hb.block _ (row_lt R19.out)).trans R19.out)
  replace HP6 := Lib.hid (HP6.out.keep hb)
  replace R21 := Lib.hid ((hb.block _ (row_lt R21.out)).trans R21.out)
  replace HB := Lib.hid (HB.out.trans (hb.mono HB.out.size))
  clear hb
  rw [show decide (zs = zs) = true by simp]
  go_wp2_with fail
  refine (awake_any _).mono ?_
  rintro e v18 ⟨rfl, hb⟩
  replace HS := Lib.hid (HS.out.keep hb)
  replace HSZ := Lib.hid (HSZ.out.keep hb)
  replace HO1' := Lib.hid (HO1'.out.keep hb)
  replace HV2 := Lib.hid (HV2.out.keep hb)
  replace HP1 := Lib.hid (HP1.out.keep hb)
  replace R11 := Lib.hid ((hb.block _ (row_lt R11.out)).trans R11.out)
  replace HP2 := Lib.hid (HP2.out.keep hb)
  replace R13 := Lib.hid ((hb.block _ (row_lt R13.out)).trans R13.out)
  replace HP3 := Lib.hid (HP3.out.keep hb)
  replace R15 := Lib.hid ((hb.block _ (row_lt R15.out)).trans R15.out)
  replace HP4 := Lib.hid (HP4.out.keep hb)
  replace R17 := Lib.hid ((hb.block _ (row_lt R17.out)).trans R17.out)
  replace HP5 := Lib.hid (HP5.out.keep hb)
  replace R19 := Lib.hid ((hb.block _ (row_lt R19.out)).trans R19.out)
  replace HP6 := Lib.hid (HP6.out.keep hb)
  replace R21 := Lib.hid ((hb.block _ (row_lt R21.out)).trans R21.out)
  replace HB := Lib.hid (HB.out.trans (hb.mono HB.out.size))
  clear hb
  go_wp2_with fail
  go_ret
  exact ⟨rfl, HB.out⟩
end Go.Proofs.Ytmdcdmgbillehaa
