/- The walk of TypesTells. -/
import Derived.Test.YtmdcdmgbillehaaTzU
namespace Go.Proofs.Ytmdcdmgbillehaa
open Go.RowKit
open Go.Tin
set_option linter.unusedVariables false
set_option linter.unusedSimpArgs false


theorem own_cap2 {k : IntKind} {e : TypeId} {w : World} {B n c : Nat} {A : Option Addr} {l : List Int} (h : Own k e w B (.slice A n c) l) : l.length ≤ c := by
  obtain ⟨A', c', he, _, hc, _⟩ := h.sl
  injection he with _ _ h3
  omega
set_option maxRecDepth 100000 in
set_option maxHeartbeats 16000000 in
theorem tells_any (t c : Int) (A : Option Addr) (len cap : Nat) (l : List Int) (t' c' : Int) (Ab : Option Addr) (lenb capb : Nat) (lb : List Int) (k : Int) (w : World) (wt : (Lit.int .i64 t).wf = true) (wc : (Lit.int .i64 c).wf = true) (hr : IsRow .u8 w A len cap l) (wt' : (Lit.int .i64 t').wf = true) (wc' : (Lit.int .i64 c').wf = true) (hrb : IsRow .u8 w Ab lenb capb lb) (wk : (Lit.int .i64 k).wf = true) :
    Calls Try.prog 5 #[.agg #[.int .i64 t, .int .i64 c, .slice A len cap], .agg #[.int .i64 t', .int .i64 c', .slice Ab lenb capb], .int .i64 k] w fun e w' => e = .returned (.bool true) ∧ Below w.heap.size w w' := by
  obtain ⟨hs, hlen, hlc, hcm, hwf⟩ := Sl.of_row hr
  have hby := byts_wf hwf
  generalize l.take len = l at *
  subst hlen
  obtain ⟨hsb, hlenb, hlcb, hcmb, hwfb⟩ := Sl.of_row hrb
  have hbyb := byts_wf hwfb
  generalize lb.take lenb = lb at *
  subst hlenb
  clear hwf hr hwfb hrb wt wc wk wt' wc'
  unfold maxLen at hcm hcmb
  have HBY := Lib.hid hby
  have HBB := Lib.hid hbyb
  obtain ⟨h0, h1, hb, hz⟩ := alloc2 w (.cells (vrow t c A l.length cap) 27) (.cells (vrow t' c' Ab lb.length capb) 27)
  have HB := Lib.hid hb
  have R3 := Lib.hid h0
  have R4 := Lib.hid h1
  have HS := Lib.hid (hs.keep HB.out)
  have HSB := Lib.hid (hsb.keep HB.out)
  clear hs hsb hby hbyb h0 h1 hb hz
  have kb := row_cell (v := .slice A l.length cap) R3.out 2 rfl
  have kb' := row_cell (v := .slice Ab lb.length capb) R4.out 2 rfl
  by_cases i1 : 600 < l.length
  · have i1'' : (600 : Int) < (l.length : Int) := by omega
    go_enter Try.func5, Try.ntmps5
    go_wp2_with fail
    refine (awake_any _).mono ?_
    rintro e w1 ⟨rfl, hb⟩
    go_wp2_with fail
    go_ret
    exact ⟨rfl, HB.out.trans (hb.mono HB.out.size)⟩
  have i1' : (l.length : Int) ≤ 600 := by omega
  clear i1
  by_cases i2 : 600 < lb.length
  · have i2'' : (600 : Int) < (lb.length : Int) := by omega
    go_enter Try.func5, Try.ntmps5
    go_wp2_with fail
    refine (awake_any _).mono ?_
    rintro e w1 ⟨rfl, hb⟩
    go_wp2_with fail
    go_ret
    exact ⟨rfl, HB.out.trans (hb.mono HB.out.size)⟩
  have i2' : (lb.length : Int) ≤ 600 := by omega
  clear i2
  have HN1 := Lib.hid (fun (W : World) (A : Option Addr) (cap : Nat) (h : Sl .u8 W A l) => nums_any t c A l cap W h (by omega) HBY.out)
  have HN2 := Lib.hid (fun (W : World) (A : Option Addr) (cap : Nat) (h : Sl .u8 W A l) => rnums_any t c A l cap W h (by omega) HBY.out)
  have HLN := Lib.hid (show (numL t c l).length ≤ 100000 by
    unfold numL
    split
    · rename_i h
      rw [atsV_len]
      unfold numB at h
      rw [Bool.and_eq_true] at h
      have := (may_sz h.1).2.2.2
      omega
    · simp)
  generalize numL t c l = NL at *
  generalize numB t c l = NB at *
  have HR1 := Lib.hid (fun (W : World) (A : Option Addr) (cap : Nat) (h : Sl .u8 W A l) => rats_any t c A l cap W h (by omega) HBY.out)
  have HR2 := Lib.hid (fun (W : World) (A : Option Addr) (cap : Nat) (h : Sl .u8 W A l) => rrats_any t c A l cap W h (by omega) HBY.out)
  have HLR := Lib.hid (ratL_len t c l)
  have HLR2 := Lib.hid (show ratN t c l ≤ 65536 from ratN_le)
  generalize ratL t c l = RL at *
  generalize ratN t c l = RN at *
  generalize ratB t c l = RB at *
  have HT1 := Lib.hid (fun (W : World) (A : Option Addr) (cap : Nat) (h : Sl .u8 W A l) (hc : l.length ≤ cap) => text_any t c A l cap W h (by omega) HBY.out hc)
  have HT2 := Lib.hid (fun (W : World) (A : Option Addr) (cap : Nat) (h : Sl .u8 W A l) (hc : l.length ≤ cap) => rtext_any t c A l cap W h (by omega) HBY.out hc)
  generalize texS t c l = TS at *
  generalize texB t c l = TB at *
  have HM1 := Lib.hid (fun (W : World) (A : Option Addr) (cap : Nat) (h : Sl .u8 W A l) => vmay_any t c A l cap W h (by omega) HBY.out)
  have HM2 := Lib.hid (fun (W : World) (A : Option Addr) (cap : Nat) (h : Sl .u8 W A l) => rmay_any t c A l cap W h (by omega) HBY.out)
  generalize mayV t c l = MB at *
  have HQ1 := Lib.hid (fun (W : World) (A : Option Addr) (cap : Nat) (h : Sl .u8 W A l) (h' : Sl .u8 W Ab lb) => vsame_any t c A l cap t' c' Ab lb capb W h h' HBY.out HBB.out)
  have HQ2 := Lib.hid (fun (W : World) (A : Option Addr) (cap : Nat) (h : Sl .u8 W A l) (h' : Sl .u8 W Ab lb) => rvsame_any t c A l cap t' c' Ab lb capb W h h' (by omega) (by omega))
  generalize smV t c l t' c' lb = QB at *
  have HZ1 := Lib.hid (fun W => size_any k W)
  have HZ2 := Lib.hid (fun W => rsize_any k W)
  generalize szT k = SZk at *
  have b1 : (NB == NB) = true := by simp
  have b2 : (RB == RB) = true := by simp
  have b3 : (TB == TB) = true := by simp
  have b4 : (MB == MB) = true := by simp
  have b5 : (QB == QB) = true := by simp
  have b6 : (SZk == SZk) = true := by simp
  have b7 : (TS.toList == TS.toList) = true := by simp
  go_enter Try.func5, Try.ntmps5
  go_wp2_with ((with_reducible refine wpl_load_row rtV ?_ (.tmp 3) ?_ (w.heap.size) ?_ 27 (vrow t c A l.length cap) ?_ R3.out ?_); rfl; rfl; rfl; rfl; simp only [Act.put, List.setIfInBounds_toArray, List.set_cons_succ, List.set_cons_zero])
  clear kb kb'
  generalize ((w.alloc (.cells (vrow t c A l.length cap) 27)).alloc (.cells (vrow t' c' Ab lb.length capb) 27)) = v0 at *
  obtain ⟨g4, hg⟩ : ∃ g, g = w.heap.size + 1 := ⟨_, rfl⟩
  rw [← hg] at R4 ⊢
  clear hg
  obtain ⟨g3, hg⟩ : ∃ g, g = w.heap.size := ⟨_, rfl⟩
  rw [← hg] at R3 ⊢
  clear hg
  refine (vown_any t c A l cap v0 HS.out (by omega)).mono ?_
  rintro e v1 ⟨A1, c1, rfl, hv1_0, hb⟩
  replace R3 := Lib.hid ((hb.block _ (row_lt R3.out)).trans R3.out)
  replace R4 := Lib.hid ((hb.block _ (row_lt R4.out)).trans R4.out)
  replace HS := Lib.hid (HS.out.keep hb)
  replace HSB := Lib.hid (HSB.out.keep hb)
  replace HB := Lib.hid (HB.out.trans (hb.mono HB.out.size))
  have HA1 := Lib.hid hv1_0
  clear hv1_0 hb
  simp only [vrow]
  have hb := (ba (brefl v1) (.cells (vrow t c A1 l.length c1) 27))
  have R7 := (alloc1 v1 (.cells (vrow t c A1 l.length c1) 27)).1
  replace R3 := Lib.hid ((hb.block _ (row_lt R3.out)).trans R3.out)
  replace R4 := Lib.hid ((hb.block _ (row_lt R4.out)).trans R4.out)
  replace HS := Lib.hid (HS.out.keep hb)
  replace HSB := Lib.hid (HSB.out.keep hb)
  replace HA1 := Lib.hid (HA1.out.keep hb)
  replace HB := Lib.hid (HB.out.trans (hb.mono HB.out.size))
  clear hb
  replace R7 := Lib.hid R7
  go_wp2_with ((with_reducible refine wpl_load_row rtV ?_ (.tmp 7) ?_ (v1.heap.size) ?_ 27 (vrow t c A1 l.length c1) ?_ R7.out ?_); rfl; rfl; rfl; rfl; simp only [Act.put, List.setIfInBounds_toArray, List.set_cons_succ, List.set_cons_zero])
  generalize (v1.alloc (.cells (vrow t c A1 l.length c1) 27)) = v2 at *
  obtain ⟨g7, hg⟩ : ∃ g, g = v1.heap.size := ⟨_, rfl⟩
  rw [← hg] at R7 ⊢
  clear hg
  refine (HN1.out _ _ _ HA1.out.sl'.2).mono ?_
  rintro e v3 ⟨A2, c2, rfl, hv3_0, hb⟩
  replace R3 := Lib.hid ((hb.block _ (row_lt R3.out)).trans R3.out)
  replace R4 := Lib.hid ((hb.block _ (row_lt R4.out)).trans R4.out)
  replace HS := Lib.hid (HS.out.keep hb)
  replace HSB := Lib.hid (HSB.out.keep hb)
  replace HA1 := Lib.hid (HA1.out.keep hb)
  replace R7 := Lib.hid ((hb.block _ (row_lt R7.out)).trans R7.out)
  replace HB := Lib.hid (HB.out.trans (hb.mono HB.out.size))
  have HP2 := Lib.hid hv3_0
  clear hv3_0 hb
  go_wp2_with ((with_reducible refine wpl_load_row rtV ?_ (.tmp 3) ?_ (g3) ?_ 27 (vrow t c A l.length cap) ?_ R3.out ?_); rfl; rfl; rfl; rfl; simp only [Act.put, List.setIfInBounds_toArray, List.set_cons_succ, List.set_cons_zero])
  refine (HN2.out _ _ _ HS.out).mono ?_
  rintro e v4 ⟨A3, c3, rfl, hv4_0, hb⟩
  replace R3 := Lib.hid ((hb.block _ (row_lt R3.out)).trans R3.out)
  replace R4 := Lib.hid ((hb.block _ (row_lt R4.out)).trans R4.out)
  replace HS := Lib.hid (HS.out.keep hb)
  replace HSB := Lib.hid (HSB.out.keep hb)
  replace HA1 := Lib.hid (HA1.out.keep hb)
  replace R7 := Lib.hid ((hb.block _ (row_lt R7.out)).trans R7.out)
  replace HP2 := Lib.hid (HP2.out.keep hb)
  replace HB := Lib.hid (HB.out.trans (hb.mono HB.out.size))
  have HP3 := Lib.hid hv4_0
  clear hv4_0 hb
  go_wp2_with ((with_reducible refine wpl_load_row rtV ?_ (.tmp 7) ?_ (g7) ?_ 27 (vrow t c A1 l.length c1) ?_ R7.out ?_); rfl; rfl; rfl; rfl; simp only [Act.put, List.setIfInBounds_toArray, List.set_cons_succ, List.set_cons_zero])
  refine (HR1.out _ _ _ HA1.out.sl'.2).mono ?_
  rintro e v5 ⟨A4, c4, rfl, hv5_0, hb⟩
  replace R3 := Lib.hid ((hb.block _ (row_lt R3.out)).trans R3.out)
  replace R4 := Lib.hid ((hb.block _ (row_lt R4.out)).trans R4.out)
  replace HS := Lib.hid (HS.out.keep hb)
  replace HSB := Lib.hid (HSB.out.keep hb)
  replace HA1 := Lib.hid (HA1.out.keep hb)
  replace R7 := Lib.hid ((hb.block _ (row_lt R7.out)).trans R7.out)
  replace HP2 := Lib.hid (HP2.out.keep hb)
  replace HP3 := Lib.hid (HP3.out.keep hb)
  replace HB := Lib.hid (HB.out.trans (hb.mono HB.out.size))
  have HP4 := Lib.hid hv5_0
  clear hv5_0 hb
  go_wp2_with ((with_reducible refine wpl_load_row rtV ?_ (.tmp 3) ?_ (g3) ?_ 27 (vrow t c A l.length cap) ?_ R3.out ?_); rfl; rfl; rfl; rfl; simp only [Act.put, List.setIfInBounds_toArray, List.set_cons_succ, List.set_cons_zero])
  refine (HR2.out _ _ _ HS.out).mono ?_
  rintro e v6 ⟨A5, c5, rfl, hv6_0, hb⟩
  replace R3 := Lib.hid ((hb.block _ (row_lt R3.out)).trans R3.out)
  replace R4 := Lib.hid ((hb.block _ (row_lt R4.out)).trans R4.out)
  replace HS := Lib.hid (HS.out.keep hb)
  replace HSB := Lib.hid (HSB.out.keep hb)
  replace HA1 := Lib.hid (HA1.out.keep hb)
  replace R7 := Lib.hid ((hb.block _ (row_lt R7.out)).trans R7.out)
  replace HP2 := Lib.hid (HP2.out.keep hb)
  replace HP3 := Lib.hid (HP3.out.keep hb)
  replace HP4 := Lib.hid (HP4.out.keep hb)
  replace HB := Lib.hid (HB.out.trans (hb.mono HB.out.size))
  have HP5 := Lib.hid hv6_0
  clear hv6_0 hb
  go_wp2_with ((with_reducible refine wpl_load_row rtV ?_ (.tmp 7) ?_ (g7) ?_ 27 (vrow t c A1 l.length c1) ?_ R7.out ?_); rfl; rfl; rfl; rfl; simp only [Act.put, List.setIfInBounds_toArray, List.set_cons_succ, List.set_cons_zero])
  refine (HT1.out _ _ _ HA1.out.sl'.2 (own_cap2 HA1.out)).mono ?_
  rintro e v7 ⟨rfl, hb⟩
  replace R3 := Lib.hid ((hb.block _ (row_lt R3.out)).trans R3.out)
  replace R4 := Lib.hid ((hb.block _ (row_lt R4.out)).trans R4.out)
  replace HS := Lib.hid (HS.out.keep hb)
  replace HSB := Lib.hid (HSB.out.keep hb)
  replace HA1 := Lib.hid (HA1.out.keep hb)
  replace R7 := Lib.hid ((hb.block _ (row_lt R7.out)).trans R7.out)
  replace HP2 := Lib.hid (HP2.out.keep hb)
  replace HP3 := Lib.hid (HP3.out.keep hb)
  replace HP4 := Lib.hid (HP4.out.keep hb)
  replace HP5 := Lib.hid (HP5.out.keep hb)
  replace HB := Lib.hid (HB.out.trans (hb.mono HB.out.size))
  clear hb
  go_wp2_with ((with_reducible refine wpl_load_row rtV ?_ (.tmp 3) ?_ (g3) ?_ 27 (vrow t c A l.length cap) ?_ R3.out ?_); rfl; rfl; rfl; rfl; simp only [Act.put, List.setIfInBounds_toArray, List.set_cons_succ, List.set_cons_zero])
  refine (HT2.out _ _ _ HS.out hlc).mono ?_
  rintro e v8 ⟨rfl, hb⟩
  replace R3 := Lib.hid ((hb.block _ (row_lt R3.out)).trans R3.out)
  replace R4 := Lib.hid ((hb.block _ (row_lt R4.out)).trans R4.out)
  replace HS := Lib.hid (HS.out.keep hb)
  replace HSB := Lib.hid (HSB.out.keep hb)
  replace HA1 := Lib.hid (HA1.out.keep hb)
  replace R7 := Lib.hid ((hb.block _ (row_lt R7.out)).trans R7.out)
  replace HP2 := Lib.hid (HP2.out.keep hb)
  replace HP3 := Lib.hid (HP3.out.keep hb)
  replace HP4 := Lib.hid (HP4.out.keep hb)
  replace HP5 := Lib.hid (HP5.out.keep hb)
  replace HB := Lib.hid (HB.out.trans (hb.mono HB.out.size))
  clear hb
  go_wp2_with fail
  have LT_R3 : _ < v8.heap.size := row_lt R3.out
  have LT_R4 : _ < v8.heap.size := row_lt R4.out
  have LT_R7 : _ < v8.heap.size := row_lt R7.out
  have SZ : v8.heap.size ≤ v8.drew.heap.size := Nat.le_refl _
  have hb := ud' (brefl v8)
  replace R3 := Lib.hid ((hb.block _ (row_lt R3.out)).trans R3.out)
  replace R4 := Lib.hid ((hb.block _ (row_lt R4.out)).trans R4.out)
  replace HS := Lib.hid (HS.out.keep hb)
  replace HSB := Lib.hid (HSB.out.keep hb)
  replace HA1 := Lib.hid (HA1.out.keep hb)
  replace R7 := Lib.hid ((hb.block _ (row_lt R7.out)).trans R7.out)
  replace HP2 := Lib.hid (HP2.out.keep hb)
  replace HP3 := Lib.hid (HP3.out.keep hb)
  replace HP4 := Lib.hid (HP4.out.keep hb)
  replace HP5 := Lib.hid (HP5.out.keep hb)
  replace HB := Lib.hid (HB.out.trans (hb.mono HB.out.size))
  clear hb
  refine Tin.reg_begin (v8.heap.size) 60 (by rfl) (by kernel_rfl) ?_
  refine Tin.reg_quiets [0, 2] _ 58 rfl (by simp only [Tin.pick, List.map_cons, List.map_nil, Array.getD_eq_getD_getElem?, List.getElem?_toArray, List.getElem?_cons_zero, List.getElem?_cons_succ, Option.getD_some]; rfl) (by kernel_rfl) (by kernel_rfl) ?_
  repeat (first | go_big_quiet_step (fail))
  refine wpQuiet_nil ?_
  refine Tin.reg_one 1 _ rfl (by kernel_rfl) ?_
  try simp only [List.getElem_toArray, List.getElem_cons_succ, List.getElem_cons_zero]
  go_wp2_with fail
  refine (HZ1.out _).mono ?_
  rintro e v9 ⟨rfl, hv⟩
  go_wp2_with fail
  refine ⟨v8.heap.size, hv.mono SZ, Nat.le_refl _, ?_⟩
  replace R3 := Lib.hid ((hv.block _ (row_lt R3.out)).trans R3.out)
  replace R4 := Lib.hid ((hv.block _ (row_lt R4.out)).trans R4.out)
  replace HS := Lib.hid (HS.out.keep hv)
  replace HSB := Lib.hid (HSB.out.keep hv)
  replace HA1 := Lib.hid (HA1.out.keep hv)
  replace R7 := Lib.hid ((hv.block _ (row_lt R7.out)).trans R7.out)
  replace HP2 := Lib.hid (HP2.out.keep hv)
  replace HP3 := Lib.hid (HP3.out.keep hv)
  replace HP4 := Lib.hid (HP4.out.keep hv)
  replace HP5 := Lib.hid (HP5.out.keep hv)
  replace HB := Lib.hid (HB.out.trans (hv.mono HB.out.size))
  replace SZ := Nat.le_trans SZ hv.size
  clear hv
  refine Tin.reg_one 3 _ rfl (by kernel_rfl) ?_
  try simp only [List.getElem_toArray, List.getElem_cons_succ, List.getElem_cons_zero]
  go_wp2_with fail
  refine (HZ2.out _).mono ?_
  rintro e w' ⟨rfl, rfl⟩
  go_wp2_with fail
  refine ⟨v8.heap.size, Below.refl _ _, Nat.le_refl _, ?_⟩
  refine Tin.reg_quiets [4, 5, 6, 8] _ 52 rfl (by simp only [Tin.pick, List.map_cons, List.map_nil, Array.getD_eq_getD_getElem?, List.getElem?_toArray, List.getElem?_cons_zero, List.getElem?_cons_succ, Option.getD_some]; rfl) (by kernel_rfl) (by kernel_rfl) ?_
  repeat (first | ((with_reducible refine wpq_load_row rtV ?_ (.tmp 7) ?_ (g7) ?_ 27 (vrow t c A1 l.length c1) ?_ (fun W h => by obtain ⟨p, rfl⟩ := h; exact (p.h.block _ LT_R7).trans R7.out) ?_); rfl; rfl; rfl; rfl; simp only [Act.put, List.setIfInBounds_toArray, List.set_cons_succ, List.set_cons_zero]) | ((with_reducible refine wpq_load_row rtV ?_ (.tmp 3) ?_ (g3) ?_ 27 (vrow t c A l.length cap) ?_ (fun W h => by obtain ⟨p, rfl⟩ := h; exact (p.h.block _ LT_R3).trans R3.out) ?_); rfl; rfl; rfl; rfl; simp only [Act.put, List.setIfInBounds_toArray, List.set_cons_succ, List.set_cons_zero]) | go_big_quiet_step (fail))
  refine wpQuiet_nil ?_
  refine Tin.reg_one 7 _ rfl (by kernel_rfl) ?_
  try simp only [List.getElem_toArray, List.getElem_cons_succ, List.getElem_cons_zero]
  go_wp2_with fail
  refine (HM1.out _ _ _ HA1.out.sl'.2).mono ?_
  rintro e v11 ⟨rfl, hv⟩
  go_wp2_with fail
  refine ⟨v8.heap.size, hv.mono SZ, Nat.le_refl _, ?_⟩
  replace R3 := Lib.hid ((hv.block _ (row_lt R3.out)).trans R3.out)
  replace R4 := Lib.hid ((hv.block _ (row_lt R4.out)).trans R4.out)
  replace HS := Lib.hid (HS.out.keep hv)
  replace HSB := Lib.hid (HSB.out.keep hv)
  replace HA1 := Lib.hid (HA1.out.keep hv)
  replace R7 := Lib.hid ((hv.block _ (row_lt R7.out)).trans R7.out)
  replace HP2 := Lib.hid (HP2.out.keep hv)
  replace HP3 := Lib.hid (HP3.out.keep hv)
  replace HP4 := Lib.hid (HP4.out.keep hv)
  replace HP5 := Lib.hid (HP5.out.keep hv)
  replace HB := Lib.hid (HB.out.trans (hv.mono HB.out.size))
  replace SZ := Nat.le_trans SZ hv.size
  clear hv
  refine Tin.reg_one 9 _ rfl (by kernel_rfl) ?_
  try simp only [List.getElem_toArray, List.getElem_cons_succ, List.getElem_cons_zero]
  go_wp2_with fail
  refine (HM2.out _ _ _ HS.out).mono ?_
  rintro e v12 ⟨rfl, hv⟩
  go_wp2_with fail
  refine ⟨v8.heap.size, hv.mono SZ, Nat.le_refl _, ?_⟩
  replace R3 := Lib.hid ((hv.block _ (row_lt R3.out)).trans R3.out)
  replace R4 := Lib.hid ((hv.block _ (row_lt R4.out)).trans R4.out)
  replace HS := Lib.hid (HS.out.keep hv)
  replace HSB := Lib.hid (HSB.out.keep hv)
  replace HA1 := Lib.hid (HA1.out.keep hv)
  replace R7 := Lib.hid ((hv.block _ (row_lt R7.out)).trans R7.out)
  replace HP2 := Lib.hid (HP2.out.keep hv)
  replace HP3 := Lib.hid (HP3.out.keep hv)
  replace HP4 := Lib.hid (HP4.out.keep hv)
  replace HP5 := Lib.hid (HP5.out.keep hv)
  replace HB := Lib.hid (HB.out.trans (hv.mono HB.out.size))
  replace SZ := Nat.le_trans SZ hv.size
  clear hv
  refine Tin.reg_quiets [10, 11, 12, 13, 14, 16, 17] _ 43 rfl (by simp only [Tin.pick, List.map_cons, List.map_nil, Array.getD_eq_getD_getElem?, List.getElem?_toArray, List.getElem?_cons_zero, List.getElem?_cons_succ, Option.getD_some]; rfl) (by kernel_rfl) (by kernel_rfl) ?_
  repeat (first | ((with_reducible refine wpq_load_row rtV ?_ (.tmp 7) ?_ (g7) ?_ 27 (vrow t c A1 l.length c1) ?_ (fun W h => by obtain ⟨p, rfl⟩ := h; exact (p.h.block _ LT_R7).trans R7.out) ?_); rfl; rfl; rfl; rfl; simp only [Act.put, List.setIfInBounds_toArray, List.set_cons_succ, List.set_cons_zero]) | ((with_reducible refine wpq_load_row rtV ?_ (.tmp 3) ?_ (g3) ?_ 27 (vrow t c A l.length cap) ?_ (fun W h => by obtain ⟨p, rfl⟩ := h; exact (p.h.block _ LT_R3).trans R3.out) ?_); rfl; rfl; rfl; rfl; simp only [Act.put, List.setIfInBounds_toArray, List.set_cons_succ, List.set_cons_zero]) | ((with_reducible refine wpq_load_row rtV ?_ (.tmp 4) ?_ (g4) ?_ 27 (vrow t' c' Ab lb.length capb) ?_ (fun W h => by obtain ⟨p, rfl⟩ := h; exact (p.h.block _ LT_R4).trans R4.out) ?_); rfl; rfl; rfl; rfl; simp only [Act.put, List.setIfInBounds_toArray, List.set_cons_succ, List.set_cons_zero]) | go_big_quiet_step (fail))
  refine wpQuiet_nil ?_
  refine Tin.reg_one 15 _ rfl (by kernel_rfl) ?_
  try simp only [List.getElem_toArray, List.getElem_cons_succ, List.getElem_cons_zero]
  go_wp2_with fail
  refine (HQ1.out _ _ _ HA1.out.sl'.2 HSB.out).mono ?_
  rintro e v13 ⟨rfl, hv⟩
  go_wp2_with fail
  refine ⟨v8.heap.size, hv.mono SZ, Nat.le_refl _, ?_⟩
  replace R3 := Lib.hid ((hv.block _ (row_lt R3.out)).trans R3.out)
  replace R4 := Lib.hid ((hv.block _ (row_lt R4.out)).trans R4.out)
  replace HS := Lib.hid (HS.out.keep hv)
  replace HSB := Lib.hid (HSB.out.keep hv)
  replace HA1 := Lib.hid (HA1.out.keep hv)
  replace R7 := Lib.hid ((hv.block _ (row_lt R7.out)).trans R7.out)
  replace HP2 := Lib.hid (HP2.out.keep hv)
  replace HP3 := Lib.hid (HP3.out.keep hv)
  replace HP4 := Lib.hid (HP4.out.keep hv)
  replace HP5 := Lib.hid (HP5.out.keep hv)
  replace HB := Lib.hid (HB.out.trans (hv.mono HB.out.size))
  replace SZ := Nat.le_trans SZ hv.size
  clear hv
  refine Tin.reg_one 18 _ rfl (by kernel_rfl) ?_
  try simp only [List.getElem_toArray, List.getElem_cons_succ, List.getElem_cons_zero]
  go_wp2_with fail
  refine (HQ2.out _ _ _ HS.out HSB.out).mono ?_
  rintro e v14 ⟨rfl, hv⟩
  go_wp2_with fail
  refine ⟨v8.heap.size, hv.mono SZ, Nat.le_refl _, ?_⟩
  replace R3 := Lib.hid ((hv.block _ (row_lt R3.out)).trans R3.out)
  replace R4 := Lib.hid ((hv.block _ (row_lt R4.out)).trans R4.out)
  replace HS := Lib.hid (HS.out.keep hv)
  replace HSB := Lib.hid (HSB.out.keep hv)
  replace HA1 := Lib.hid (HA1.out.keep hv)
  replace R7 := Lib.hid ((hv.block _ (row_lt R7.out)).trans R7.out)
  replace HP2 := Lib.hid (HP2.out.keep hv)
  replace HP3 := Lib.hid (HP3.out.keep hv)
  replace HP4 := Lib.hid (HP4.out.keep hv)
  replace HP5 := Lib.hid (HP5.out.keep hv)
  replace HB := Lib.hid (HB.out.trans (hv.mono HB.out.size))
  replace SZ := Nat.le_trans SZ hv.size
  clear hv
  refine Tin.reg_quiets [19, 20, 21, 22, 23] _ 36 rfl (by simp only [Tin.pick, List.map_cons, List.map_nil, Array.getD_eq_getD_getElem?, List.getElem?_toArray, List.getElem?_cons_zero, List.getElem?_cons_succ, Option.getD_some]; rfl) (by kernel_rfl) (by kernel_rfl) ?_
  repeat (first | go_big_quiet_step (fail))
  refine wpQuiet_nil ?_
  refine Tin.reg_one 24 _ rfl (by kernel_rfl) ?_
  try simp only [List.getElem_toArray, List.getElem_cons_succ, List.getElem_cons_zero]
  go_wp2_with fail
  refine (ints_any A2 A3 NL NL c2 c3 _ HP2.out HP3.out (by have := HLN.out; omega) (by have := HLN.out; omega)).mono ?_
  rintro e v15 ⟨rfl, hv⟩
  rw [show decide (NL = NL) = true by simp]
  go_wp2_with fail
  refine ⟨v8.heap.size, hv.mono SZ, Nat.le_refl _, ?_⟩
  replace R3 := Lib.hid ((hv.block _ (row_lt R3.out)).trans R3.out)
  replace R4 := Lib.hid ((hv.block _ (row_lt R4.out)).trans R4.out)
  replace HS := Lib.hid (HS.out.keep hv)
  replace HSB := Lib.hid (HSB.out.keep hv)
  replace HA1 := Lib.hid (HA1.out.keep hv)
  replace R7 := Lib.hid ((hv.block _ (row_lt R7.out)).trans R7.out)
  replace HP2 := Lib.hid (HP2.out.keep hv)
  replace HP3 := Lib.hid (HP3.out.keep hv)
  replace HP4 := Lib.hid (HP4.out.keep hv)
  replace HP5 := Lib.hid (HP5.out.keep hv)
  replace HB := Lib.hid (HB.out.trans (hv.mono HB.out.size))
  replace SZ := Nat.le_trans SZ hv.size
  clear hv
  refine Tin.reg_quiets [25, 26, 27, 28, 29, 30, 31, 32, 33] _ 26 rfl (by simp only [Tin.pick, List.map_cons, List.map_nil, Array.getD_eq_getD_getElem?, List.getElem?_toArray, List.getElem?_cons_zero, List.getElem?_cons_succ, Option.getD_some]; rfl) (by kernel_rfl) (by kernel_rfl) ?_
  repeat (first | go_big_quiet_step (fail))
  refine wpQuiet_nil ?_
  refine Tin.reg_one 34 _ rfl (by kernel_rfl) ?_
  try simp only [List.getElem_toArray, List.getElem_cons_succ, List.getElem_cons_zero]
  go_wp2_with fail
  refine (row_any A4 A5 RN RN c4 c5 RL RL _ HP4.out HP5.out HLR.out HLR.out (by have := HLR2.out; omega) (by have := HLR2.out; omega)).mono ?_
  rintro e v16 ⟨rfl, hv⟩
  rw [show decide (RL = RL) = true by simp]
  go_wp2_with fail
  refine ⟨v8.heap.size, hv.mono SZ, Nat.le_refl _, ?_⟩
  replace R3 := Lib.hid ((hv.block _ (row_lt R3.out)).trans R3.out)
  replace R4 := Lib.hid ((hv.block _ (row_lt R4.out)).trans R4.out)
  replace HS := Lib.hid (HS.out.keep hv)
  replace HSB := Lib.hid (HSB.out.keep hv)
  replace HA1 := Lib.hid (HA1.out.keep hv)
  replace R7 := Lib.hid ((hv.block _ (row_lt R7.out)).trans R7.out)
  replace HP2 := Lib.hid (HP2.out.keep hv)
  replace HP3 := Lib.hid (HP3.out.keep hv)
  replace HP4 := Lib.hid (HP4.out.keep hv)
  replace HP5 := Lib.hid (HP5.out.keep hv)
  replace HB := Lib.hid (HB.out.trans (hv.mono HB.out.size))
  replace SZ := Nat.le_trans SZ hv.size
  clear hv
  refine Tin.reg_quiets [35, 36, 37, 38, 39, 40, 41, 42, 43, 44, 45, 46, 47, 48, 49, 50, 51, 52, 53] _ 6 rfl (by simp only [Tin.pick, List.map_cons, List.map_nil, Array.getD_eq_getD_getElem?, List.getElem?_toArray, List.getElem?_cons_zero, List.getElem?_cons_succ, Option.getD_some]; rfl) (by kernel_rfl) (by kernel_rfl) ?_
  repeat (first | ((with_reducible refine wpq_load_row rtV ?_ (.tmp 7) ?_ (g7) ?_ 27 (vrow t c A1 l.length c1) ?_ (fun W h => by obtain ⟨p, rfl⟩ := h; exact (p.h.block _ LT_R7).trans R7.out) ?_); rfl; rfl; rfl; rfl; simp only [Act.put, List.setIfInBounds_toArray, List.set_cons_succ, List.set_cons_zero]) | ((with_reducible refine wpq_load_row rtV ?_ (.tmp 3) ?_ (g3) ?_ 27 (vrow t c A l.length cap) ?_ (fun W h => by obtain ⟨p, rfl⟩ := h; exact (p.h.block _ LT_R3).trans R3.out) ?_); rfl; rfl; rfl; rfl; simp only [Act.put, List.setIfInBounds_toArray, List.set_cons_succ, List.set_cons_zero]) | go_big_quiet_step (fail))
  refine wpQuiet_nil ?_
  have HVS := Lib.hid (fun (W : World) (h1 : Sl .u8 W A1 l) (h2 : Sl .u8 W A l) => rvsame_any t c A1 l c1 t c A l cap W h1 h2 (by omega) (by omega))
  rw [smV_rf] at HVS
  refine Tin.reg_one 54 _ rfl (by kernel_rfl) ?_
  try simp only [List.getElem_toArray, List.getElem_cons_succ, List.getElem_cons_zero]
  go_wp2_with fail
  refine (HVS.out _ HA1.out.sl'.2 HS.out).mono ?_
  rintro e v17 ⟨rfl, hv⟩
  go_wp2_with fail
  refine ⟨v8.heap.size, hv.mono SZ, Nat.le_refl _, ?_⟩
  replace R3 := Lib.hid ((hv.block _ (row_lt R3.out)).trans R3.out)
  replace R4 := Lib.hid ((hv.block _ (row_lt R4.out)).trans R4.out)
  replace HS := Lib.hid (HS.out.keep hv)
  replace HSB := Lib.hid (HSB.out.keep hv)
  replace HA1 := Lib.hid (HA1.out.keep hv)
  replace R7 := Lib.hid ((hv.block _ (row_lt R7.out)).trans R7.out)
  replace HP2 := Lib.hid (HP2.out.keep hv)
  replace HP3 := Lib.hid (HP3.out.keep hv)
  replace HP4 := Lib.hid (HP4.out.keep hv)
  replace HP5 := Lib.hid (HP5.out.keep hv)
  replace HB := Lib.hid (HB.out.trans (hv.mono HB.out.size))
  replace SZ := Nat.le_trans SZ hv.size
  clear hv
  refine Tin.reg_quiets [55, 56] _ 3 rfl (by simp only [Tin.pick, List.map_cons, List.map_nil, Array.getD_eq_getD_getElem?, List.getElem?_toArray, List.getElem?_cons_zero, List.getElem?_cons_succ, Option.getD_some]; rfl) (by kernel_rfl) (by kernel_rfl) ?_
  repeat (first | go_big_quiet_step (fail))
  refine wpQuiet_nil ?_
  refine Tin.reg_one 57 _ rfl (by kernel_rfl) ?_
  try simp only [List.getElem_toArray, List.getElem_cons_succ, List.getElem_cons_zero]
  go_wp2_with fail
  refine (awake_any _).mono ?_
  rintro e v18 ⟨rfl, hv⟩
  go_wp2_with fail
  refine ⟨v8.heap.size, hv.mono SZ, Nat.le_refl _, ?_⟩
  replace R3 := Lib.hid ((hv.block _ (row_lt R3.out)).trans R3.out)
  replace R4 := Lib.hid ((hv.block _ (row_lt R4.out)).trans R4.out)
  replace HS := Lib.hid (HS.out.keep hv)
  replace HSB := Lib.hid (HSB.out.keep hv)
  replace HA1 := Lib.hid (HA1.out.keep hv)
  replace R7 := Lib.hid ((hv.block _ (row_lt R7.out)).trans R7.out)
  replace HP2 := Lib.hid (HP2.out.keep hv)
  replace HP3 := Lib.hid (HP3.out.keep hv)
  replace HP4 := Lib.hid (HP4.out.keep hv)
  replace HP5 := Lib.hid (HP5.out.keep hv)
  replace HB := Lib.hid (HB.out.trans (hv.mono HB.out.size))
  replace SZ := Nat.le_trans SZ hv.size
  clear hv
  refine Tin.reg_quiets [58, 59] _ 0 rfl (by simp only [Tin.pick, List.map_cons, List.map_nil, Array.getD_eq_getD_getElem?, List.getElem?_toArray, List.getElem?_cons_zero, List.getElem?_cons_succ, Option.getD_some]; rfl) (by kernel_rfl) (by kernel_rfl) ?_
  repeat (first | go_big_quiet_step (fail))
  refine wpQuiet_nil ?_
  refine Tin.reg_done (by kernel_rfl) ?_
  go_wp2_with fail
  go_ret
  exact ⟨rfl, HB.out⟩
end Go.Proofs.Ytmdcdmgbillehaa
