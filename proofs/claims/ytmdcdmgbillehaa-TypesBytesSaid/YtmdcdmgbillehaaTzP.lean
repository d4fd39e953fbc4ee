/- The walk of TypesBytes. -/
import Derived.Test.YtmdcdmgbillehaaTzN
import Derived.Test.YtmdcdmgbillehaaTy
namespace Go.Proofs.Ytmdcdmgbillehaa
open Go.RowKit
open Go.Tin
set_option linter.unusedVariables false
set_option linter.unusedSimpArgs false


theorem zero8 (w : World) : (zeroValue 5).run Try.prog w = .ok (.int .u8 0) w := by kernel_rfl
theorem of_le (k c : Int) (l : List Int) (o : Int) : (ofL k c l o).length ≤ l.length := by
  unfold ofL
  split
  · exact Nat.le_trans (turn_le _ _ _) (by rw [List.length_take]; omega)
  · simp
theorem by_le (k c : Int) (l : List Int) (o : Int) : (byV k c l o).length ≤ l.length := by
  unfold byV
  split
  · exact turn_le _ _ _
  · simp
theorem own_cap {k : IntKind} {e : TypeId} {w : World} {B n c : Nat} {A : Option Addr} {l : List Int} (h : Own k e w B (.slice A n c) l) : l.length ≤ c := by
  obtain ⟨A', c', he, _, hc, _⟩ := h.sl
  injection he with _ _ h3
  omega
set_option maxRecDepth 100000 in
set_option maxHeartbeats 8000000 in
theorem bytes_any (t c : Int) (A : Option Addr) (len cap : Nat) (l : List Int) (k n o : Int) (Ab : Option Addr) (lenb capb : Nat) (lb : List Int) (w : World) (wt : (Lit.int .i64 t).wf = true) (wc : (Lit.int .i64 c).wf = true) (hr : IsRow .u8 w A len cap l) (wk : (Lit.int .i64 k).wf = true) (wn : (Lit.int .i64 n).wf = true) (wo : (Lit.int .i64 o).wf = true) (hrb : IsRow .u8 w Ab lenb capb lb) :
    Calls Try.prog 4 #[.agg #[.int .i64 t, .int .i64 c, .slice A len cap], .int .i64 k, .int .i64 n, .int .i64 o, .slice Ab lenb capb] w fun e w' => e = .returned (.bool true) ∧ Below w.heap.size w w' := by
  obtain ⟨hs, hlen, hlc, hcm, hwf⟩ := Sl.of_row hr
  have hby := byts_wf hwf
  generalize l.take len = l at *
  subst hlen
  obtain ⟨hsb, hlenb, hlcb, hcmb, hwfb⟩ := Sl.of_row hrb
  have hbyb := byts_wf hwfb
  generalize lb.take lenb = lb at *
  subst hlenb
  clear hwf hr hwfb hrb wt wc wk wn wo
  unfold maxLen at hcm hcmb
  have HBY := Lib.hid hby
  have HBB := Lib.hid hbyb
  have HB := Lib.hid (ba (brefl w) (.cells (vrow t c A l.length cap) 27))
  have R5 := Lib.hid (heap_alloc_new w (.cells (vrow t c A l.length cap) 27))
  have HS := Lib.hid (hs.keep HB.out)
  have HSB := Lib.hid (hsb.keep HB.out)
  clear hs hsb hby hbyb
  have kb := row_cell (v := .slice A l.length cap) R5.out 2 rfl
  by_cases i1 : 600 < l.length
  · have i1'' : (600 : Int) < (l.length : Int) := by omega
    go_enter Try.func4, Try.ntmps4
    go_wp2_with fail
    refine (awake_any _).mono ?_
    rintro e w1 ⟨rfl, hb⟩
    go_wp2_with fail
    go_ret
    exact ⟨rfl, HB.out.trans (hb.mono HB.out.size)⟩
  have i1' : (l.length : Int) ≤ 600 := by omega
  clear i1
  by_cases i2 : 600 < lb.length
  · have i2'' : (600 : Int) < (lb.length : Int) := by omega
    go_enter Try.func4, Try.ntmps4
    go_wp2_with fail
    refine (awake_any _).mono ?_
    rintro e w1 ⟨rfl, hb⟩
    go_wp2_with fail
    go_ret
    exact ⟨rfl, HB.out.trans (hb.mono HB.out.size)⟩
  have i2' : (lb.length : Int) ≤ 600 := by omega
  clear i2
  have HO1 := Lib.hid (fun (W : World) (A : Option Addr) (cap : Nat) (h : Sl .u8 W A lb) (hc : lb.length ≤ cap) => vof_any k n A lb cap o W h (by omega) hc HBB.out)
  have HO2 := Lib.hid (fun (W : World) (A : Option Addr) (cap : Nat) (h : Sl .u8 W A lb) (hc : lb.length ≤ cap) => rof_any k n A lb cap o W h (by omega) hc HBB.out)
  have HLO := Lib.hid (show (ofL k n lb o).length ≤ 600 by have := of_le k n lb o; omega)
  generalize on (ofB k n lb o) k = r0 at *
  generalize on (ofB k n lb o) n = r1 at *
  generalize ofL k n lb o = RL at *
  generalize ofB k n lb o = RB at *
  have HY1 := Lib.hid (fun (W : World) (A : Option Addr) (cap : Nat) (h : Sl .u8 W A l) => byt_any t c A l cap o W h (by omega) HBY.out)
  have HY2 := Lib.hid (fun (W : World) (A : Option Addr) (cap : Nat) (h : Sl .u8 W A l) => rbyt_any t c A l cap o W h (by omega) HBY.out)
  have HLY := Lib.hid (show (byV t c l o).length ≤ 600 by have := by_le t c l o; omega)
  generalize byV t c l o = YL at *
  have rb : (RB != RB) = false := by simp
  have HGW := Lib.hid (show ∃ g, g = w.heap.size from ⟨_, rfl⟩)
  go_enter Try.func4, Try.ntmps4
  go_wp2_with ((with_reducible refine wpl_load_row rtV ?_ (.tmp 5) ?_ (w.heap.size) ?_ 27 (vrow t c A l.length cap) ?_ R5.out ?_); rfl; rfl; rfl; rfl; simp only [Act.put, List.setIfInBounds_toArray, List.set_cons_succ, List.set_cons_zero])
  clear kb
  generalize (w.alloc (.cells (vrow t c A l.length cap) 27)) = v0 at *
  obtain ⟨g5, hg⟩ : ∃ g, g = w.heap.size := ⟨_, rfl⟩
  rw [← hg] at R5 ⊢
  clear hg
  clear HGW
  refine (vown_any t c A l cap v0 HS.out (by omega)).mono ?_
  rintro e v1 ⟨A1, c1, rfl, hv1_0, hb⟩
  replace R5 := Lib.hid ((hb.block _ (row_lt R5.out)).trans R5.out)
  replace HS := Lib.hid (HS.out.keep hb)
  replace HSB := Lib.hid (HSB.out.keep hb)
  replace HB := Lib.hid (HB.out.trans (hb.mono HB.out.size))
  have HA1 := Lib.hid hv1_0
  clear hv1_0 hb
  simp only [vrow]
  go_wp2_with fail
  refine (own_any Ab lb capb v1 HSB.out (by omega)).mono ?_
  rintro e v2 ⟨A2, c2, rfl, hv2_0, hb⟩
  replace R5 := Lib.hid ((hb.block _ (row_lt R5.out)).trans R5.out)
  replace HS := Lib.hid (HS.out.keep hb)
  replace HSB := Lib.hid (HSB.out.keep hb)
  replace HA1 := Lib.hid (HA1.out.keep hb)
  replace HB := Lib.hid (HB.out.trans (hb.mono HB.out.size))
  have HA2 := Lib.hid hv2_0
  clear hv2_0 hb
  have hb := (ba (brefl v2) (.cells (vrow t c A1 l.length c1) 27))
  have R11 := (alloc1 v2 (.cells (vrow t c A1 l.length c1) 27)).1
  replace R5 := Lib.hid ((hb.block _ (row_lt R5.out)).trans R5.out)
  replace HS := Lib.hid (HS.out.keep hb)
  replace HSB := Lib.hid (HSB.out.keep hb)
  replace HA1 := Lib.hid (HA1.out.keep hb)
  replace HA2 := Lib.hid (HA2.out.keep hb)
  replace HB := Lib.hid (HB.out.trans (hb.mono HB.out.size))
  clear hb
  replace R11 := Lib.hid R11
  go_wp2_with fail
  generalize (v2.alloc (.cells (vrow t c A1 l.length c1) 27)) = v3 at *
  obtain ⟨g11, hg⟩ : ∃ g, g = v2.heap.size := ⟨_, rfl⟩
  rw [← hg] at R11 ⊢
  clear hg
  have SX := Lib.hid (brefl v3)
  have SX_R5 := R5
  have SX_HS := HS
  have SX_HSB := HSB
  have SX_HA1 := HA1
  have SX_HA2 := HA2
  have SX_R11 := R11
  have SX_le_HB := HB.out.size
  refine (HO1.out _ _ _ HA2.out.sl'.2 (own_cap HA2.out)).mono ?_
  rintro e v4 ⟨A3, c3, rfl, hv4_0, hb⟩
  replace R5 := Lib.hid ((hb.block _ (row_lt R5.out)).trans R5.out)
  replace HS := Lib.hid (HS.out.keep hb)
  replace HSB := Lib.hid (HSB.out.keep hb)
  replace HA1 := Lib.hid (HA1.out.keep hb)
  replace HA2 := Lib.hid (HA2.out.keep hb)
  replace R11 := Lib.hid ((hb.block _ (row_lt R11.out)).trans R11.out)
  replace HB := Lib.hid (HB.out.trans (hb.mono HB.out.size))
  replace SX := Lib.hid (SX.out.trans (hb.mono SX.out.size))
  have HA3 := Lib.hid hv4_0
  clear hv4_0 hb
  simp only [vrow]
  have hb := (ba (brefl v4) (.cells (vrow r0 r1 A3 RL.length c3) 27))
  have R13 := (alloc1 v4 (.cells (vrow r0 r1 A3 RL.length c3) 27)).1
  replace R5 := Lib.hid ((hb.block _ (row_lt R5.out)).trans R5.out)
  replace HS := Lib.hid (HS.out.keep hb)
  replace HSB := Lib.hid (HSB.out.keep hb)
  replace HA1 := Lib.hid (HA1.out.keep hb)
  replace HA2 := Lib.hid (HA2.out.keep hb)
  replace R11 := Lib.hid ((hb.block _ (row_lt R11.out)).trans R11.out)
  replace HA3 := Lib.hid (HA3.out.keep hb)
  replace HB := Lib.hid (HB.out.trans (hb.mono HB.out.size))
  replace SX := Lib.hid (SX.out.trans (hb.mono SX.out.size))
  clear hb
  replace R13 := Lib.hid R13
  go_wp2_with fail
  generalize (v4.alloc (.cells (vrow r0 r1 A3 RL.length c3) 27)) = v5 at *
  obtain ⟨g13, hg⟩ : ∃ g, g = v4.heap.size := ⟨_, rfl⟩
  rw [← hg] at R13 ⊢
  clear hg
  refine (HO2.out _ _ _ HSB.out hlcb).mono ?_
  rintro e v6 ⟨A4, c4, rfl, hv6_0, hb⟩
  replace R5 := Lib.hid ((hb.block _ (row_lt R5.out)).trans R5.out)
  replace HS := Lib.hid (HS.out.keep hb)
  replace HSB := Lib.hid (HSB.out.keep hb)
  replace HA1 := Lib.hid (HA1.out.keep hb)
  replace HA2 := Lib.hid (HA2.out.keep hb)
  replace R11 := Lib.hid ((hb.block _ (row_lt R11.out)).trans R11.out)
  replace HA3 := Lib.hid (HA3.out.keep hb)
  replace R13 := Lib.hid ((hb.block _ (row_lt R13.out)).trans R13.out)
  replace HB := Lib.hid (HB.out.trans (hb.mono HB.out.size))
  replace SX := Lib.hid (SX.out.trans (hb.mono SX.out.size))
  have HA4 := Lib.hid hv6_0
  clear hv6_0 hb
  simp only [vrow]
  have hb := (ba (brefl v6) (.cells (vrow r0 r1 A4 RL.length c4) 27))
  have R15 := (alloc1 v6 (.cells (vrow r0 r1 A4 RL.length c4) 27)).1
  replace R5 := Lib.hid ((hb.block _ (row_lt R5.out)).trans R5.out)
  replace HS := Lib.hid (HS.out.keep hb)
  replace HSB := Lib.hid (HSB.out.keep hb)
  replace HA1 := Lib.hid (HA1.out.keep hb)
  replace HA2 := Lib.hid (HA2.out.keep hb)
  replace R11 := Lib.hid ((hb.block _ (row_lt R11.out)).trans R11.out)
  replace HA3 := Lib.hid (HA3.out.keep hb)
  replace R13 := Lib.hid ((hb.block _ (row_lt R13.out)).trans R13.out)
  replace HA4 := Lib.hid (HA4.out.keep hb)
  replace HB := Lib.hid (HB.out.trans (hb.mono HB.out.size))
  replace SX := Lib.hid (SX.out.trans (hb.mono SX.out.size))
  clear hb
  replace R15 := Lib.hid R15
  go_wp2_with ((with_reducible refine wpl_load_row rtV ?_ (.tmp 11) ?_ (g11) ?_ 27 (vrow t c A1 l.length c1) ?_ R11.out ?_); rfl; rfl; rfl; rfl; simp only [Act.put, List.setIfInBounds_toArray, List.set_cons_succ, List.set_cons_zero])
  generalize (v6.alloc (.cells (vrow r0 r1 A4 RL.length c4) 27)) = v7 at *
  obtain ⟨g15, hg⟩ : ∃ g, g = v6.heap.size := ⟨_, rfl⟩
  rw [← hg] at R15 ⊢
  clear hg
  have SO := Lib.hid (brefl v7)
  have SO_R5 := R5
  have SO_HS := HS
  have SO_HSB := HSB
  have SO_HA1 := HA1
  have SO_HA2 := HA2
  have SO_R11 := R11
  have SO_HA3 := HA3
  have SO_R13 := R13
  have SO_HA4 := HA4
  have SO_R15 := R15
  have SO_le_HB := HB.out.size
  have SO_le_SX := SX.out.size
  refine (HY1.out _ _ _ HA1.out.sl'.2).mono ?_
  rintro e v8 ⟨A5, c5, rfl, hv8_0, hb⟩
  replace R5 := Lib.hid ((hb.block _ (row_lt R5.out)).trans R5.out)
  replace HS := Lib.hid (HS.out.keep hb)
  replace HSB := Lib.hid (HSB.out.keep hb)
  replace HA1 := Lib.hid (HA1.out.keep hb)
  replace HA2 := Lib.hid (HA2.out.keep hb)
  replace R11 := Lib.hid ((hb.block _ (row_lt R11.out)).trans R11.out)
  replace HA3 := Lib.hid (HA3.out.keep hb)
  replace R13 := Lib.hid ((hb.block _ (row_lt R13.out)).trans R13.out)
  replace HA4 := Lib.hid (HA4.out.keep hb)
  replace R15 := Lib.hid ((hb.block _ (row_lt R15.out)).trans R15.out)
  replace HB := Lib.hid (HB.out.trans (hb.mono HB.out.size))
  replace SX := Lib.hid (SX.out.trans (hb.mono SX.out.size))
  replace SO := Lib.hid (SO.out.trans (hb.mono SO.out.size))
  have HA5 := Lib.hid hv8_0
  clear hv8_0 hb
  go_wp2_with (first | ((with_reducible refine wpl_load_row rtV ?_ (.tmp 13) ?_ (g13) ?_ 27 (vrow r0 r1 A3 RL.length c3) ?_ R13.out ?_); rfl; rfl; rfl; rfl; simp only [Act.put, List.setIfInBounds_toArray, List.set_cons_succ, List.set_cons_zero]) | ((with_reducible refine wpl_load_row rtV ?_ (.tmp 15) ?_ (g15) ?_ 27 (vrow r0 r1 A4 RL.length c4) ?_ R15.out ?_); rfl; rfl; rfl; rfl; simp only [Act.put, List.setIfInBounds_toArray, List.set_cons_succ, List.set_cons_zero]))
  have HQ := Lib.hid (rvsame_any r0 r1 A3 RL c3 r0 r1 A4 RL c4 v8 HA3.out.sl'.2 HA4.out.sl'.2 (by have := HLO.out; omega) (by have := HLO.out; omega))
  rw [smV_rf] at HQ
  refine (HQ.out).mono ?_
  rintro e v9 ⟨rfl, hb⟩
  replace R5 := Lib.hid ((hb.block _ (row_lt R5.out)).trans R5.out)
  replace HS := Lib.hid (HS.out.keep hb)
  replace HSB := Lib.hid (HSB.out.keep hb)
  replace HA1 := Lib.hid (HA1.out.keep hb)
  replace HA2 := Lib.hid (HA2.out.keep hb)
  replace R11 := Lib.hid ((hb.block _ (row_lt R11.out)).trans R11.out)
  replace HA3 := Lib.hid (HA3.out.keep hb)
  replace R13 := Lib.hid ((hb.block _ (row_lt R13.out)).trans R13.out)
  replace HA4 := Lib.hid (HA4.out.keep hb)
  replace R15 := Lib.hid ((hb.block _ (row_lt R15.out)).trans R15.out)
  replace HA5 := Lib.hid (HA5.out.keep hb)
  replace HB := Lib.hid (HB.out.trans (hb.mono HB.out.size))
  replace SX := Lib.hid (SX.out.trans (hb.mono SX.out.size))
  replace SO := Lib.hid (SO.out.trans (hb.mono SO.out.size))
  clear hb
  clear HQ
  go_wp2_with ((with_reducible refine wpl_load_row rtV ?_ (.tmp 5) ?_ (g5) ?_ 27 (vrow t c A l.length cap) ?_ R5.out ?_); rfl; rfl; rfl; rfl; simp only [Act.put, List.setIfInBounds_toArray, List.set_cons_succ, List.set_cons_zero])
  refine (HY2.out _ _ _ HS.out).mono ?_
  rintro e v10 ⟨A6, c6, rfl, hv10_0, hb⟩
  replace R5 := Lib.hid ((hb.block _ (row_lt R5.out)).trans R5.out)
  replace HS := Lib.hid (HS.out.keep hb)
  replace HSB := Lib.hid (HSB.out.keep hb)
  replace HA1 := Lib.hid (HA1.out.keep hb)
  replace HA2 := Lib.hid (HA2.out.keep hb)
  replace R11 := Lib.hid ((hb.block _ (row_lt R11.out)).trans R11.out)
  replace HA3 := Lib.hid (HA3.out.keep hb)
  replace R13 := Lib.hid ((hb.block _ (row_lt R13.out)).trans R13.out)
  replace HA4 := Lib.hid (HA4.out.keep hb)
  replace R15 := Lib.hid ((hb.block _ (row_lt R15.out)).trans R15.out)
  replace HA5 := Lib.hid (HA5.out.keep hb)
  replace HB := Lib.hid (HB.out.trans (hb.mono HB.out.size))
  replace SX := Lib.hid (SX.out.trans (hb.mono SX.out.size))
  replace SO := Lib.hid (SO.out.trans (hb.mono SO.out.size))
  have HA6 := Lib.hid hv10_0
  clear hv10_0 hb
  go_wp2_with fail
  have HQ := Lib.hid (same_any A5 A6 YL YL c5 c6 v10 HA5.out.sl'.2 HA6.out.sl'.2 (by have := HLY.out; omega) (by have := HLY.out; omega))
  rw [show decide (YL = YL) = true by simp] at HQ
  refine (HQ.out).mono ?_
  rintro e v11 ⟨rfl, hb⟩
  replace R5 := Lib.hid ((hb.block _ (row_lt R5.out)).trans R5.out)
  replace HS := Lib.hid (HS.out.keep hb)
  replace HSB := Lib.hid (HSB.out.keep hb)
  replace HA1 := Lib.hid (HA1.out.keep hb)
  replace HA2 := Lib.hid (HA2.out.keep hb)
  replace R11 := Lib.hid ((hb.block _ (row_lt R11.out)).trans R11.out)
  replace HA3 := Lib.hid (HA3.out.keep hb)
  replace R13 := Lib.hid ((hb.block _ (row_lt R13.out)).trans R13.out)
  replace HA4 := Lib.hid (HA4.out.keep hb)
  replace R15 := Lib.hid ((hb.block _ (row_lt R15.out)).trans R15.out)
  replace HA5 := Lib.hid (HA5.out.keep hb)
  replace HA6 := Lib.hid (HA6.out.keep hb)
  replace HB := Lib.hid (HB.out.trans (hb.mono HB.out.size))
  replace SX := Lib.hid (SX.out.trans (hb.mono SX.out.size))
  replace SO := Lib.hid (SO.out.trans (hb.mono SO.out.size))
  clear hb
  clear HQ
  go_wp2_with (first | ((with_reducible refine Tin.wpl_clear bt5 zero8 v11 ?_ (.tmp 68) ?_ _ _ _ ?_ HA5.out ?_); rfl; rfl; rfl; intro v12 hg7; have hbc : Below v7.heap.size v11 v12 := (Below.refl _ _).grown hg7 SO.out.size (fun k hk => (World.ownsRow.lt HA5.out k hk).1); replace SO := Lib.hid (SO.out.trans hbc); clear HA5 HA6; replace R5 := Lib.hid ((SO.out.block _ (row_lt SO_R5.out)).trans SO_R5.out); replace HS := Lib.hid (SO_HS.out.keep SO.out); replace HSB := Lib.hid (SO_HSB.out.keep SO.out); replace HA1 := Lib.hid (SO_HA1.out.keep SO.out); replace HA2 := Lib.hid (SO_HA2.out.keep SO.out); replace R11 := Lib.hid ((SO.out.block _ (row_lt SO_R11.out)).trans SO_R11.out); replace HA3 := Lib.hid (SO_HA3.out.keep SO.out); replace R13 := Lib.hid ((SO.out.block _ (row_lt SO_R13.out)).trans SO_R13.out); replace HA4 := Lib.hid (SO_HA4.out.keep SO.out); replace R15 := Lib.hid ((SO.out.block _ (row_lt SO_R15.out)).trans SO_R15.out); replace HB := Lib.hid (HB.out.trans (hbc.mono SO_le_HB)); replace SX := Lib.hid (SX.out.trans (hbc.mono SO_le_SX)); clear hbc hg7; have k13 := row_cell (v := .slice A3 RL.length c3) R13.out 2 rfl; simp only [Act.put]) | ((with_reducible refine Tin.wpl_clear bt5 zero8 v12 ?_ (.tmp 70) ?_ _ _ _ ?_ HA3.out ?_); rfl; rfl; rfl; intro v13 hg7; have hbc : Below v3.heap.size v12 v13 := (Below.refl _ _).grown hg7 SX.out.size (fun k hk => (World.ownsRow.lt HA3.out k hk).1); replace SX := Lib.hid (SX.out.trans hbc); clear HA3 R13 HA4 R15; replace R5 := Lib.hid ((SX.out.block _ (row_lt SX_R5.out)).trans SX_R5.out); replace HS := Lib.hid (SX_HS.out.keep SX.out); replace HSB := Lib.hid (SX_HSB.out.keep SX.out); replace HA1 := Lib.hid (SX_HA1.out.keep SX.out); replace HA2 := Lib.hid (SX_HA2.out.keep SX.out); replace R11 := Lib.hid ((SX.out.block _ (row_lt SX_R11.out)).trans SX_R11.out); replace HB := Lib.hid (HB.out.trans (hbc.mono SX_le_HB)); clear hbc hg7; clear k13; simp only [Act.put]) | ((with_reducible refine wpl_load_row rtV ?_ (.tmp 11) ?_ (g11) ?_ 27 (vrow t c A1 l.length c1) ?_ R11.out ?_); rfl; rfl; rfl; rfl; simp only [Act.put, List.setIfInBounds_toArray, List.set_cons_succ, List.set_cons_zero]) | ((with_reducible refine wpl_load_row rtV ?_ (.tmp 5) ?_ (g5) ?_ 27 (vrow t c A l.length cap) ?_ R5.out ?_); rfl; rfl; rfl; rfl; simp only [Act.put, List.setIfInBounds_toArray, List.set_cons_succ, List.set_cons_zero]))
  have HQ := Lib.hid (rvsame_any t c A1 l c1 t c A l cap v13 HA1.out.sl'.2 HS.out (by omega) (by omega))
  rw [smV_rf] at HQ
  refine (HQ.out).mono ?_
  rintro e v14 ⟨rfl, hb⟩
  replace R5 := Lib.hid ((hb.block _ (row_lt R5.out)).trans R5.out)
  replace HS := Lib.hid (HS.out.keep hb)
  replace HSB := Lib.hid (HSB.out.keep hb)
  replace HA1 := Lib.hid (HA1.out.keep hb)
  replace HA2 := Lib.hid (HA2.out.keep hb)
  replace R11 := Lib.hid ((hb.block _ (row_lt R11.out)).trans R11.out)
  replace HB := Lib.hid (HB.out.trans (hb.mono HB.out.size))
  replace SX := Lib.hid (SX.out.trans (hb.mono SX.out.size))
  clear hb
  clear HQ
  go_wp2_with fail
  have HQ := Lib.hid (same_any A2 Ab lb lb c2 capb v14 HA2.out.sl'.2 HSB.out (by omega) (by omega))
  rw [show decide (lb = lb) = true by simp] at HQ
  refine (HQ.out).mono ?_
  rintro e v15 ⟨rfl, hb⟩
  replace R5 := Lib.hid ((hb.block _ (row_lt R5.out)).trans R5.out)
  replace HS := Lib.hid (HS.out.keep hb)
  replace HSB := Lib.hid (HSB.out.keep hb)
  replace HA1 := Lib.hid (HA1.out.keep hb)
  replace HA2 := Lib.hid (HA2.out.keep hb)
  replace R11 := Lib.hid ((hb.block _ (row_lt R11.out)).trans R11.out)
  replace HB := Lib.hid (HB.out.trans (hb.mono HB.out.size))
  replace SX := Lib.hid (SX.out.trans (hb.mono SX.out.size))
  clear hb
  clear HQ
  go_wp2_with fail
  refine (awake_any _).mono ?_
  rintro e v16 ⟨rfl, hb⟩
  replace R5 := Lib.hid ((hb.block _ (row_lt R5.out)).trans R5.out)
  replace HS := Lib.hid (HS.out.keep hb)
  replace HSB := Lib.hid (HSB.out.keep hb)
  replace HA1 := Lib.hid (HA1.out.keep hb)
  replace HA2 := Lib.hid (HA2.out.keep hb)
  replace R11 := Lib.hid ((hb.block _ (row_lt R11.out)).trans R11.out)
  replace HB := Lib.hid (HB.out.trans (hb.mono HB.out.size))
  replace SX := Lib.hid (SX.out.trans (hb.mono SX.out.size))
  clear hb
  go_wp2_with fail
  go_ret
  exact ⟨rfl, HB.out⟩
end Go.Proofs.Ytmdcdmgbillehaa
