/- The walk of TypesBack. -/
import Derived.Test.YtmdcdmgbillehaaTzW
namespace Go.Proofs.Ytmdcdmgbillehaa
open Go.RowKit
open Go.Tin
set_option linter.unusedVariables false
set_option linter.unusedSimpArgs false


theorem ne_own {v : Value} {g : Nat} (h : ∀ q, v.ownBlock = some q → q ≠ g) : v.ownBlock = none ∨ v.ownBlock ≠ some g := by
  cases hq : v.ownBlock with
  | none => exact .inl rfl
  | some q => exact .inr (fun e => h q hq (Option.some.inj e))
theorem own_cap3 {k : IntKind} {e : TypeId} {w : World} {B n c : Nat} {A : Option Addr} {l : List Int} (h : Own k e w B (.slice A n c) l) : l.length ≤ c := by
  obtain ⟨A', c', he, _, hc, _⟩ := h.sl
  injection he with _ _ h3
  omega
set_option maxRecDepth 100000 in
set_option maxHeartbeats 16000000 in
theorem back_any (t c : Int) (A : Option Addr) (len cap : Nat) (l : List Int) (Ab : Option Addr) (lenb capb : Nat) (lb : List Int) (o : Int) (w : World) (wt : (Lit.int .i64 t).wf = true) (wc : (Lit.int .i64 c).wf = true) (hr : IsRow .u8 w A len cap l) (hrb : IsRow .u8 w Ab lenb capb lb) (wo : (Lit.int .i64 o).wf = true) :
    Calls Try.prog 6 #[.agg #[.int .i64 t, .int .i64 c, .slice A len cap], .slice Ab lenb capb, .int .i64 o] w fun e w' => e = .returned (.bool true) ∧ Below w.heap.size w w' := by
  obtain ⟨hs, hlen, hlc, hcm, hwf⟩ := Sl.of_row hr
  have hby := byts_wf hwf
  generalize l.take len = l at *
  subst hlen
  obtain ⟨hsb, hlenb, hlcb, hcmb, hwfb⟩ := Sl.of_row hrb
  have hbyb := byts_wf hwfb
  generalize lb.take lenb = lb at *
  subst hlenb
  clear hwf hr hwfb hrb wt wc wo
  unfold maxLen at hcm hcmb
  have HBY := Lib.hid hby
  have HBB := Lib.hid hbyb
  obtain ⟨h0, hb, hz⟩ := alloc1 w (.cells (vrow t c A l.length cap) 27)
  have HB := Lib.hid hb
  have R3 := Lib.hid h0
  have HS := Lib.hid (hs.keep HB.out)
  have HSB := Lib.hid (hsb.keep HB.out)
  clear hs hsb hby hbyb h0 hb hz
  have kb := row_cell (v := .slice A l.length cap) R3.out 2 rfl
  by_cases i1 : 600 < l.length
  · have i1'' : (600 : Int) < (l.length : Int) := by omega
    go_enter Try.func6, Try.ntmps6
    go_wp2_with fail
    refine (awake_any _).mono ?_
    rintro e w1 ⟨rfl, hb⟩
    go_wp2_with fail
    go_ret
    exact ⟨rfl, HB.out.trans (hb.mono HB.out.size)⟩
  have i1' : (l.length : Int) ≤ 600 := by omega
  clear i1
  by_cases i2 : 600 < lb.length
  · have i2'' : (600 : Int) < (lb.length : Int) := by omega
    go_enter Try.func6, Try.ntmps6
    go_wp2_with fail
    refine (awake_any _).mono ?_
    rintro e w1 ⟨rfl, hb⟩
    go_wp2_with fail
    go_ret
    exact ⟨rfl, HB.out.trans (hb.mono HB.out.size)⟩
  have i2' : (lb.length : Int) ≤ 600 := by omega
  clear i2
  have HNO := Lib.hid (fun h => by_no (t := t) (c := c) (o := o) (l := l) h)
  have HYE := Lib.hid (fun h h2 => by_yes (t := t) (c := c) (o := o) (l := l) h h2)
  have HOB := Lib.hid (fun h h2 => of_back (t := t) (c := c) (o := o) (l := l) lb h h2)
  have HMS := Lib.hid (fun h => may_sz (t := t) (c := c) (l := l) h)
  have HBYV := Lib.hid (show Byts (byV t c l o) by
    unfold byV
    split
    · exact turn_byts HBY.out _ _
    · intro x hx; simp at hx)
  have HB1 := Lib.hid (fun (W : World) (A : Option Addr) (cap : Nat) (h : Sl .u8 W A l) => byt_any t c A l cap o W h (by omega) HBY.out)
  have HOF := Lib.hid (fun (W : World) (A : Option Addr) (cap : Nat) (h : Sl .u8 W A (byV t c l o ++ lb)) (hc : (byV t c l o ++ lb).length ≤ cap) (hl : (byV t c l o ++ lb).length ≤ 1000000000) => vof_any t c A (byV t c l o ++ lb) cap o W h hl hc (byts_app HBYV.out HBB.out))
  generalize byV t c l o = BY at *
  go_enter Try.func6, Try.ntmps6
  go_wp2_with ((with_reducible refine wpl_load_row rtV ?_ (.tmp 3) ?_ (w.heap.size) ?_ 27 (vrow t c A l.length cap) ?_ R3.out ?_); rfl; rfl; rfl; rfl; simp only [Act.put, List.setIfInBounds_toArray, List.set_cons_succ, List.set_cons_zero])
  clear kb
  generalize (w.alloc (.cells (vrow t c A l.length cap) 27)) = v0 at *
  obtain ⟨g3, hg⟩ : ∃ g, g = w.heap.size := ⟨_, rfl⟩
  rw [← hg] at R3 ⊢
  clear hg
  refine (HB1.out _ _ _ HS.out).mono ?_
  rintro e v1 ⟨A1, c1, rfl, hv1_0, hb⟩
  replace R3 := Lib.hid ((hb.block _ (row_lt R3.out)).trans R3.out)
  replace HS := Lib.hid (HS.out.keep hb)
  replace HSB := Lib.hid (HSB.out.keep hb)
  replace HB := Lib.hid (HB.out.trans (hb.mono HB.out.size))
  have HP1 := Lib.hid hv1_0
  clear hv1_0 hb
  go_wp2_with ((with_reducible refine wpl_load_row rtV ?_ (.tmp 3) ?_ (g3) ?_ 27 (vrow t c A l.length cap) ?_ R3.out ?_); rfl; rfl; rfl; rfl; simp only [Act.put, List.setIfInBounds_toArray, List.set_cons_succ, List.set_cons_zero])
  refine (vmay_any t c A l cap v1 HS.out (by omega) HBY.out).mono ?_
  rintro e v2 ⟨rfl, hb⟩
  replace R3 := Lib.hid ((hb.block _ (row_lt R3.out)).trans R3.out)
  replace HS := Lib.hid (HS.out.keep hb)
  replace HSB := Lib.hid (HSB.out.keep hb)
  replace HP1 := Lib.hid (HP1.out.keep hb)
  replace HB := Lib.hid (HB.out.trans (hb.mono HB.out.size))
  clear hb
  cases hmv : mayV t c l with
  | false =>
    have HE := Lib.hid (HNO.out (.inl hmv))
    rw [HE.out]
    clear hmv HE
    go_wp2_with fail
    refine (awake_any _).mono ?_
    rintro e w9 ⟨rfl, hb⟩
    go_wp2_with fail
    go_ret
    exact ⟨rfl, HB.out.trans (hb.mono HB.out.size)⟩
  | true =>
    by_cases ho : o ≠ 1 ∧ o ≠ 2
    · have o1 : (o != 1) = true := by simpa using ho.1
      have o2 : (o != 2) = true := by simpa using ho.2
      have HE := Lib.hid (HNO.out (.inr ho))
      rw [HE.out]
      clear hmv ho HE
      go_wp2_with fail
      refine (awake_any _).mono ?_
      rintro e w9 ⟨rfl, hb⟩
      go_wp2_with fail
      go_ret
      exact ⟨rfl, HB.out.trans (hb.mono HB.out.size)⟩
    have ho12 : o = 1 ∨ o = 2 := by omega
    obtain ⟨b1, b2, b3⟩ := HYE.out hmv ho12
    obtain ⟨f1, f2⟩ := HOB.out hmv ho12
    obtain ⟨m1, m2, m3, m4⟩ := HMS.out hmv
    rw [f1, f2] at HOF
    have HL7L := Lib.hid (show (BY ++ lb).length ≤ 1000000000 by rw [List.length_append]; omega)
    obtain ⟨L7, hL7⟩ : ∃ L, BY ++ lb = L := ⟨_, rfl⟩
    rw [hL7] at HOF HL7L
    have HL7 := Lib.hid hL7
    clear hL7
    have HLB := Lib.hid b1
    have HB2 := Lib.hid b3
    have HMV := Lib.hid hmv
    have m5 : (BY.length : Int) = c * szT t := by rw [b1, m2, Int.toNat_of_nonneg (by omega)]
    have HM5 := Lib.hid m5
    have p0 : 0 ≤ c * szT t ∧ c * szT t ≤ 1000000 := by rw [← m5]; omega
    clear hmv ho b1 b2 b3 f1 f2 HNO HYE HOB m2 m5
    rcases ho12 with h1 | h2
    · skip
      subst h1
      have ml : ((BY.length : Int) != c * szT t) = false := by rw [HM5.out]; simp
      go_wp2_with fail
      have p0a := p0.1
      have p0b := p0.2
      have LT_R3 : _ < v2.heap.size := row_lt R3.out
      have SZ : v2.heap.size ≤ v2.drew.heap.size := Nat.le_refl _
      have hb := ud' (brefl v2)
      replace R3 := Lib.hid ((hb.block _ (row_lt R3.out)).trans R3.out)
      replace HS := Lib.hid (HS.out.keep hb)
      replace HSB := Lib.hid (HSB.out.keep hb)
      replace HP1 := Lib.hid (HP1.out.keep hb)
      replace HB := Lib.hid (HB.out.trans (hb.mono HB.out.size))
      clear hb
      refine Tin.reg_begin (v2.heap.size) 20 (by rfl) (by kernel_rfl) ?_
      have kt : ∀ p : Bel (v2.heap.size) v2.drew, p.w'.cell? ⟨g3, 0, none⟩ = some (.int .i64 t) := fun p => row_cell ((p.h.block _ LT_R3).trans R3.out) 0 rfl
      have kc : ∀ p : Bel (v2.heap.size) v2.drew, p.w'.cell? ⟨g3, 1, none⟩ = some (.int .i64 c) := fun p => row_cell ((p.h.block _ LT_R3).trans R3.out) 1 rfl
      have kd : ∀ p : Bel (v2.heap.size) v2.drew, p.w'.cell? ⟨g3, 2, none⟩ = some (.slice A l.length cap) := fun p => row_cell ((p.h.block _ LT_R3).trans R3.out) 2 rfl
      refine Tin.reg_quiets [0, 1, 2, 3, 4, 5] _ 14 rfl (by simp only [Tin.pick, List.map_cons, List.map_nil, Array.getD_eq_getD_getElem?, List.getElem?_toArray, List.getElem?_cons_zero, List.getElem?_cons_succ, Option.getD_some]; rfl) (by kernel_rfl) (by kernel_rfl) ?_
      repeat (first | go_big_quiet_step (fail))
      refine wpQuiet_nil ?_
      clear kt kc kd
      refine Tin.reg_one 6 _ rfl (by kernel_rfl) ?_
      try simp only [List.getElem_toArray, List.getElem_cons_succ, List.getElem_cons_zero]
      go_wp2_with fail
      refine (size_any t _).mono ?_
      rintro e v3 ⟨rfl, hv⟩
      go_wp2_with fail
      refine ⟨v2.heap.size, hv.mono SZ, Nat.le_refl _, ?_⟩
      replace R3 := Lib.hid ((hv.block _ (row_lt R3.out)).trans R3.out)
      replace HS := Lib.hid (HS.out.keep hv)
      replace HSB := Lib.hid (HSB.out.keep hv)
      replace HP1 := Lib.hid (HP1.out.keep hv)
      replace HB := Lib.hid (HB.out.trans (hv.mono HB.out.size))
      replace SZ := Nat.le_trans SZ hv.size
      clear hv
      have kt : ∀ p : Bel (v2.heap.size) v3, p.w'.cell? ⟨g3, 0, none⟩ = some (.int .i64 t) := fun p => row_cell ((p.h.block _ LT_R3).trans R3.out) 0 rfl
      have kc : ∀ p : Bel (v2.heap.size) v3, p.w'.cell? ⟨g3, 1, none⟩ = some (.int .i64 c) := fun p => row_cell ((p.h.block _ LT_R3).trans R3.out) 1 rfl
      have kd : ∀ p : Bel (v2.heap.size) v3, p.w'.cell? ⟨g3, 2, none⟩ = some (.slice A l.length cap) := fun p => row_cell ((p.h.block _ LT_R3).trans R3.out) 2 rfl
      refine Tin.reg_quiets [7, 8, 9, 10, 11, 12, 13, 14, 15] _ 4 rfl (by simp only [Tin.pick, List.map_cons, List.map_nil, Array.getD_eq_getD_getElem?, List.getElem?_toArray, List.getElem?_cons_zero, List.getElem?_cons_succ, Option.getD_some]; rfl) (by kernel_rfl) (by kernel_rfl) ?_
      repeat (first | go_big_quiet_step (fail))
      refine wpQuiet_nil ?_
      clear kt kc kd
      refine Tin.reg_one 16 _ rfl (by kernel_rfl) ?_
      try simp only [List.getElem_toArray, List.getElem_cons_succ, List.getElem_cons_zero]
      go_wp2_with fail
      refine ⟨v2.heap.size, Below.refl _ _, Nat.le_refl _, ?_⟩
      refine Tin.reg_quiets [17, 18, 19] _ 0 rfl (by simp only [Tin.pick, List.map_cons, List.map_nil, Array.getD_eq_getD_getElem?, List.getElem?_toArray, List.getElem?_cons_zero, List.getElem?_cons_succ, Option.getD_some]; rfl) (by kernel_rfl) (by kernel_rfl) ?_
      repeat (first | go_big_quiet_step (fail))
      refine wpQuiet_nil ?_
      refine Tin.reg_done (by kernel_rfl) ?_
      go_wp2_with fail
      rename_i K hK
      have HK := Lib.hid hK
      clear hK
      have tail : ∀ (W : World) (g8 : Nat) (A8 : Option Addr) (c8 : Nat) (u0 u1 u2 u4 u5 u7 u10 u11 u12 u13 u14 u15 u16 u17 u18 u19 u20 u21 u22 u23 u24 u25 u26 u27 u28 u29 u30 u31 u32 u33 u34 u35 u36 u37 u38 u39 u40 u41 u42 u43 u44 u45 u46 u47 u48 u49 u50 u51 u52 u53 u54 u55 u56 u57 u58 u59 u60 u61 u62 u63 u64 u65 u66 u67 u68 u69 u70 u71 u72 u73 u74 u75 u76 u77 u78 u79 u80 u81 u82 u83 u84 u85 u86 u87 u88 u89 u90 u91 u92 u93 u94 u95 u96 u97 u98 u99 u100 u101 u102 u103 u104 u105 u106 u107 u108 u109 u110 u111 u112 u113 u114 u115 u116 u117 u118 u119 u120 u121 u122 u123 u124 u125 u126 u127 u128 u129 u130 u131 u132 u133 u134 u135 u136 u137 u138 u139 u140 u141 u142 u143 u144 u145 u146 u147 u148 u149 u150 u151 u152 u153 u154 u155 u156 u157 u158 u159 u160 u161 u162 u163 u164 u165 u166 u167 u168 u169 u170 u171 u172 u173 u174 u175 u176 : Value), W.heap[g3]? = some (.cells (vrow t c A l.length cap) 27 (0, 0)) → Sl .u8 W A l → W.heap[g8]? = some (.cells (vrow t c A8 l.length c8) 27 (0, 0)) → Sl .u8 W A8 l → Below w.heap.size w W → K { tmps := #[u0, u1, u2, .pointer (some ⟨g3, 0, none⟩), u4, u5, .bool false, u7, .pointer (some ⟨g8, 0, none⟩), .bool true, u10, u11, u12, u13, u14, u15, u16, u17, u18, u19, u20, u21, u22, u23, u24, u25, u26, u27, u28, u29, u30, u31, u32, u33, u34, u35, u36, u37, u38, u39, u40, u41, u42, u43, u44, u45, u46, u47, u48, u49, u50, u51, u52, u53, u54, u55, u56, u57, u58, u59, u60, u61, u62, u63, u64, u65, u66, u67, u68, u69, u70, u71, u72, u73, u74, u75, u76, u77, u78, u79, u80, u81, u82, u83, u84, u85, u86, u87, u88, u89, u90, u91, u92, u93, u94, u95, u96, u97, u98, u99, u100, u101, u102, u103, u104, u105, u106, u107, u108, u109, u110, u111, u112, u113, u114, u115, u116, u117, u118, u119, u120, u121, u122, u123, u124, u125, u126, u127, u128, u129, u130, u131, u132, u133, u134, u135, u136, u137, u138, u139, u140, u141, u142, u143, u144, u145, u146, u147, u148, u149, u150, u151, u152, u153, u154, u155, u156, u157, u158, u159, u160, u161, u162, u163, u164, u165, u166, u167, u168, u169, u170, u171, u172, u173, u174, u175, u176], defers := [] } W := by
        intro W g8 A8 c8 u0 u1 u2 u4 u5 u7 u10 u11 u12 u13 u14 u15 u16 u17 u18 u19 u20 u21 u22 u23 u24 u25 u26 u27 u28 u29 u30 u31 u32 u33 u34 u35 u36 u37 u38 u39 u40 u41 u42 u43 u44 u45 u46 u47 u48 u49 u50 u51 u52 u53 u54 u55 u56 u57 u58 u59 u60 u61 u62 u63 u64 u65 u66 u67 u68 u69 u70 u71 u72 u73 u74 u75 u76 u77 u78 u79 u80 u81 u82 u83 u84 u85 u86 u87 u88 u89 u90 u91 u92 u93 u94 u95 u96 u97 u98 u99 u100 u101 u102 u103 u104 u105 u106 u107 u108 u109 u110 u111 u112 u113 u114 u115 u116 u117 u118 u119 u120 u121 u122 u123 u124 u125 u126 u127 u128 u129 u130 u131 u132 u133 u134 u135 u136 u137 u138 u139 u140 u141 u142 u143 u144 u145 u146 u147 u148 u149 u150 u151 u152 u153 u154 u155 u156 u157 u158 u159 u160 u161 u162 u163 u164 u165 u166 u167 u168 u169 u170 u171 u172 u173 u174 u175 u176 hr3 hs hr8 hs8 hbw
        clear HB R3 HS HSB HP1
        have R3 := Lib.hid hr3
        have HS := Lib.hid hs
        have R8 := Lib.hid hr8
        have HA8 := Lib.hid hs8
        have HB := Lib.hid hbw
        clear hr3 hs hr8 hs8 hbw
        refine HK.out _ _ ?_
        clear HK
        go_wp2_with (first | ((with_reducible refine wpl_load_row rtV ?_ (.tmp 3) ?_ (g3) ?_ 27 (vrow t c A l.length cap) ?_ R3.out ?_); rfl; rfl; rfl; rfl; simp only [Act.put, List.setIfInBounds_toArray, List.set_cons_succ, List.set_cons_zero]) | ((with_reducible refine wpl_load_row rtV ?_ (.tmp 8) ?_ (g8) ?_ 27 (vrow t c A8 l.length c8) ?_ R8.out ?_); rfl; rfl; rfl; rfl; simp only [Act.put, List.setIfInBounds_toArray, List.set_cons_succ, List.set_cons_zero]))
        have HQ := Lib.hid (vsame_any t c A l cap t c A8 l c8 W HS.out HA8.out HBY.out HBY.out)
        rw [smV_rf] at HQ
        refine (HQ.out).mono ?_
        rintro e x1 ⟨rfl, hb⟩
        replace R3 := Lib.hid ((hb.block _ (row_lt R3.out)).trans R3.out)
        replace HS := Lib.hid (HS.out.keep hb)
        replace R8 := Lib.hid ((hb.block _ (row_lt R8.out)).trans R8.out)
        replace HA8 := Lib.hid (HA8.out.keep hb)
        replace HB := Lib.hid (HB.out.trans (hb.mono HB.out.size))
        clear hb
        clear HQ R8 HA8
        go_wp2_with ((with_reducible refine wpl_load_row rtV ?_ (.tmp 3) ?_ (g3) ?_ 27 (vrow t c A l.length cap) ?_ R3.out ?_); rfl; rfl; rfl; rfl; simp only [Act.put, List.setIfInBounds_toArray, List.set_cons_succ, List.set_cons_zero])
        refine (nums_any t c A l cap _ HS.out (by omega) HBY.out).mono ?_
        rintro e x2 ⟨A10, c10, rfl, hx2_0, hb⟩
        replace R3 := Lib.hid ((hb.block _ (row_lt R3.out)).trans R3.out)
        replace HS := Lib.hid (HS.out.keep hb)
        replace HB := Lib.hid (HB.out.trans (hb.mono HB.out.size))
        have HN10 := Lib.hid hx2_0
        clear hx2_0 hb
        cases hnum : numB t c l with
        | false =>
          clear hnum
          clear HN10
          generalize numL t c l = NL
          go_wp2_with ((with_reducible refine wpl_load_row rtV ?_ (.tmp 3) ?_ (g3) ?_ 27 (vrow t c A l.length cap) ?_ R3.out ?_); rfl; rfl; rfl; rfl; simp only [Act.put, List.setIfInBounds_toArray, List.set_cons_succ, List.set_cons_zero])
          refine (rats_any t c A l cap _ HS.out (by omega) HBY.out).mono ?_
          rintro e x3 ⟨A14, c14, rfl, hx3_0, hb⟩
          replace R3 := Lib.hid ((hb.block _ (row_lt R3.out)).trans R3.out)
          replace HS := Lib.hid (HS.out.keep hb)
          replace HB := Lib.hid (HB.out.trans (hb.mono HB.out.size))
          have HR14 := Lib.hid hx3_0
          clear hx3_0 hb
          cases hrat : ratB t c l with
          | false =>
            clear hrat
            clear HR14
            generalize ratN t c l = RN
            go_wp2_with ((with_reducible refine wpl_load_row rtV ?_ (.tmp 3) ?_ (g3) ?_ 27 (vrow t c A l.length cap) ?_ R3.out ?_); rfl; rfl; rfl; rfl; simp only [Act.put, List.setIfInBounds_toArray, List.set_cons_succ, List.set_cons_zero])
            refine (text_any t c A l cap _ HS.out (by omega) HBY.out hlc).mono ?_
            rintro e x4 ⟨rfl, hb⟩
            replace R3 := Lib.hid ((hb.block _ (row_lt R3.out)).trans R3.out)
            replace HS := Lib.hid (HS.out.keep hb)
            replace HB := Lib.hid (HB.out.trans (hb.mono HB.out.size))
            clear hb
            cases htex : texB t c l with
            | false =>
              clear htex
              generalize texS t c l = TS
              go_wp2_with fail
              refine (awake_any _).mono ?_
              rintro e x5 ⟨rfl, hb⟩
              replace R3 := Lib.hid ((hb.block _ (row_lt R3.out)).trans R3.out)
              replace HS := Lib.hid (HS.out.keep hb)
              replace HB := Lib.hid (HB.out.trans (hb.mono HB.out.size))
              clear hb
              go_wp2_with fail
              go_ret
              exact ⟨rfl, HB.out⟩
            | true =>
              obtain ⟨n0, n1, n2, n3⟩ := tex_back HBY.out htex
              have HON := Lib.hid (fun (W : World) => otext_any (texS t c l) W (by omega))
              rw [n1, n2, on_t, on_t, n3, ← n0] at HON
              have nn : (((texS t c l).size : Int) != c - 1) = false := by rw [bne_eq_false_iff_eq]; omega
              have nc : 1 ≤ c := m3
              clear n0 n1 n2 n3 htex
              generalize texS t c l = TS at *
              go_wp2_with fail
              refine (HON.out _).mono ?_
              rintro e x5 ⟨A20, c20, rfl, hx5_0, hb⟩
              replace R3 := Lib.hid ((hb.block _ (row_lt R3.out)).trans R3.out)
              replace HS := Lib.hid (HS.out.keep hb)
              replace HB := Lib.hid (HB.out.trans (hb.mono HB.out.size))
              have HXtex := Lib.hid hx5_0
              clear hx5_0 hb
              simp only [vrow]
              clear HON
              have hb := (ba (brefl x5) (.cells (vrow t c A20 l.length c20) 27))
              have R20 := (alloc1 x5 (.cells (vrow t c A20 l.length c20) 27)).1
              replace R3 := Lib.hid ((hb.block _ (row_lt R3.out)).trans R3.out)
              replace HS := Lib.hid (HS.out.keep hb)
              replace HXtex := Lib.hid (HXtex.out.keep hb)
              replace HB := Lib.hid (HB.out.trans (hb.mono HB.out.size))
              clear hb
              replace R20 := Lib.hid R20
              go_wp2_with (first | ((with_reducible refine wpl_load_row rtV ?_ (.tmp 3) ?_ (g3) ?_ 27 (vrow t c A l.length cap) ?_ R3.out ?_); rfl; rfl; rfl; rfl; simp only [Act.put, List.setIfInBounds_toArray, List.set_cons_succ, List.set_cons_zero]) | ((with_reducible refine wpl_load_row rtV ?_ (.tmp 20) ?_ (x5.heap.size) ?_ 27 (vrow t c A20 l.length c20) ?_ R20.out ?_); rfl; rfl; rfl; rfl; simp only [Act.put, List.setIfInBounds_toArray, List.set_cons_succ, List.set_cons_zero]))
              generalize (x5.alloc (.cells (vrow t c A20 l.length c20) 27)) = x6 at *
              have HQ := Lib.hid (vsame_any t c A20 l c20 t c A l cap x6 HXtex.out HS.out HBY.out HBY.out)
              rw [smV_rf] at HQ
              refine (HQ.out).mono ?_
              rintro e x7 ⟨rfl, hb⟩
              replace R3 := Lib.hid ((hb.block _ (row_lt R3.out)).trans R3.out)
              replace HS := Lib.hid (HS.out.keep hb)
              replace HXtex := Lib.hid (HXtex.out.keep hb)
              replace R20 := Lib.hid ((hb.block _ (row_lt R20.out)).trans R20.out)
              replace HB := Lib.hid (HB.out.trans (hb.mono HB.out.size))
              clear hb
              clear HQ R20 HXtex
              have k1 := row_cell (v := .int .i64 c) R3.out 1 rfl
              go_wp2_with fail
              clear k1 nn
              refine (awake_any _).mono ?_
              rintro e x8 ⟨rfl, hb⟩
              replace R3 := Lib.hid ((hb.block _ (row_lt R3.out)).trans R3.out)
              replace HS := Lib.hid (HS.out.keep hb)
              replace HB := Lib.hid (HB.out.trans (hb.mono HB.out.size))
              clear hb
              go_wp2_with fail
              go_ret
              exact ⟨rfl, HB.out⟩
          | true =>
            obtain ⟨n1, n2, n3⟩ := rat_back HBY.out hrat
            have HON := Lib.hid (fun (W : World) (A : Option Addr) (c2 : Nat) (h : SlV W A (iv (ratL t c l))) => orat_any t A (ratN t c l) c2 (ratL t c l) W h (ratL_len t c l) (by have := ratN_le (t := t) (c := c) (l := l); omega))
            rw [n1, n2, on_t, on_t, n3] at HON
            have nn : (((ratN t c l : Nat) : Int) != c) = false := by rw [n3]; simp
            clear n1 n2 n3 hrat
            generalize ratL t c l = RL at *
            generalize ratN t c l = RN at *
            have k0 := row_cell (v := .int .i64 t) R3.out 0 rfl
            go_wp2_with fail
            clear k0
            refine (HON.out _ _ _ HR14.out).mono ?_
            rintro e x4 ⟨A16, c16, rfl, hx4_0, hb⟩
            replace R3 := Lib.hid ((hb.block _ (row_lt R3.out)).trans R3.out)
            replace HS := Lib.hid (HS.out.keep hb)
            replace HR14 := Lib.hid (HR14.out.keep hb)
            replace HB := Lib.hid (HB.out.trans (hb.mono HB.out.size))
            have HXrat := Lib.hid hx4_0
            clear hx4_0 hb
            simp only [vrow]
            clear HON
            have hb := (ba (brefl x4) (.cells (vrow t c A16 l.length c16) 27))
            have R16 := (alloc1 x4 (.cells (vrow t c A16 l.length c16) 27)).1
            replace R3 := Lib.hid ((hb.block _ (row_lt R3.out)).trans R3.out)
            replace HS := Lib.hid (HS.out.keep hb)
            replace HR14 := Lib.hid (HR14.out.keep hb)
            replace HXrat := Lib.hid (HXrat.out.keep hb)
            replace HB := Lib.hid (HB.out.trans (hb.mono HB.out.size))
            clear hb
            replace R16 := Lib.hid R16
            go_wp2_with (first | ((with_reducible refine wpl_load_row rtV ?_ (.tmp 3) ?_ (g3) ?_ 27 (vrow t c A l.length cap) ?_ R3.out ?_); rfl; rfl; rfl; rfl; simp only [Act.put, List.setIfInBounds_toArray, List.set_cons_succ, List.set_cons_zero]) | ((with_reducible refine wpl_load_row rtV ?_ (.tmp 16) ?_ (x4.heap.size) ?_ 27 (vrow t c A16 l.length c16) ?_ R16.out ?_); rfl; rfl; rfl; rfl; simp only [Act.put, List.setIfInBounds_toArray, List.set_cons_succ, List.set_cons_zero]))
            generalize (x4.alloc (.cells (vrow t c A16 l.length c16) 27)) = x5 at *
            have HQ := Lib.hid (vsame_any t c A16 l c16 t c A l cap x5 HXrat.out.sl'.2 HS.out HBY.out HBY.out)
            rw [smV_rf] at HQ
            refine (HQ.out).mono ?_
            rintro e x6 ⟨rfl, hb⟩
            replace R3 := Lib.hid ((hb.block _ (row_lt R3.out)).trans R3.out)
            replace HS := Lib.hid (HS.out.keep hb)
            replace HR14 := Lib.hid (HR14.out.keep hb)
            replace HXrat := Lib.hid (HXrat.out.keep hb)
            replace R16 := Lib.hid ((hb.block _ (row_lt R16.out)).trans R16.out)
            replace HB := Lib.hid (HB.out.trans (hb.mono HB.out.size))
            clear hb
            clear HQ R16 HXrat
            have k1 := row_cell (v := .int .i64 c) R3.out 1 rfl
            go_wp2_with ((with_reducible refine wpl_load_row rtV ?_ (.tmp 3) ?_ (g3) ?_ 27 (vrow t c A l.length cap) ?_ R3.out ?_); rfl; rfl; rfl; rfl; simp only [Act.put, List.setIfInBounds_toArray, List.set_cons_succ, List.set_cons_zero])
            clear k1 nn
            refine (text_any t c A l cap _ HS.out (by omega) HBY.out hlc).mono ?_
            rintro e x7 ⟨rfl, hb⟩
            replace R3 := Lib.hid ((hb.block _ (row_lt R3.out)).trans R3.out)
            replace HS := Lib.hid (HS.out.keep hb)
            replace HR14 := Lib.hid (HR14.out.keep hb)
            replace HB := Lib.hid (HB.out.trans (hb.mono HB.out.size))
            clear hb
            cases htex : texB t c l with
            | false =>
              clear htex
              generalize texS t c l = TS
              go_wp2_with fail
              refine (awake_any _).mono ?_
              rintro e x8 ⟨rfl, hb⟩
              replace R3 := Lib.hid ((hb.block _ (row_lt R3.out)).trans R3.out)
              replace HS := Lib.hid (HS.out.keep hb)
              replace HR14 := Lib.hid (HR14.out.keep hb)
              replace HB := Lib.hid (HB.out.trans (hb.mono HB.out.size))
              clear hb
              go_wp2_with fail
              go_ret
              exact ⟨rfl, HB.out⟩
            | true =>
              obtain ⟨n0, n1, n2, n3⟩ := tex_back HBY.out htex
              have HON := Lib.hid (fun (W : World) => otext_any (texS t c l) W (by omega))
              rw [n1, n2, on_t, on_t, n3, ← n0] at HON
              have nn : (((texS t c l).size : Int) != c - 1) = false := by rw [bne_eq_false_iff_eq]; omega
              have nc : 1 ≤ c := m3
              clear n0 n1 n2 n3 htex
              generalize texS t c l = TS at *
              go_wp2_with fail
              refine (HON.out _).mono ?_
              rintro e x8 ⟨A20, c20, rfl, hx8_0, hb⟩
              replace R3 := Lib.hid ((hb.block _ (row_lt R3.out)).trans R3.out)
              replace HS := Lib.hid (HS.out.keep hb)
              replace HR14 := Lib.hid (HR14.out.keep hb)
              replace HB := Lib.hid (HB.out.trans (hb.mono HB.out.size))
              have HXtex := Lib.hid hx8_0
              clear hx8_0 hb
              simp only [vrow]
              clear HON
              have hb := (ba (brefl x8) (.cells (vrow t c A20 l.length c20) 27))
              have R20 := (alloc1 x8 (.cells (vrow t c A20 l.length c20) 27)).1
              replace R3 := Lib.hid ((hb.block _ (row_lt R3.out)).trans R3.out)
              replace HS := Lib.hid (HS.out.keep hb)
              replace HR14 := Lib.hid (HR14.out.keep hb)
              replace HXtex := Lib.hid (HXtex.out.keep hb)
              replace HB := Lib.hid (HB.out.trans (hb.mono HB.out.size))
              clear hb
              replace R20 := Lib.hid R20
              go_wp2_with (first | ((with_reducible refine wpl_load_row rtV ?_ (.tmp 3) ?_ (g3) ?_ 27 (vrow t c A l.length cap) ?_ R3.out ?_); rfl; rfl; rfl; rfl; simp only [Act.put, List.setIfInBounds_toArray, List.set_cons_succ, List.set_cons_zero]) | ((with_reducible refine wpl_load_row rtV ?_ (.tmp 20) ?_ (x8.heap.size) ?_ 27 (vrow t c A20 l.length c20) ?_ R20.out ?_); rfl; rfl; rfl; rfl; simp only [Act.put, List.setIfInBounds_toArray, List.set_cons_succ, List.set_cons_zero]))
              generalize (x8.alloc (.cells (vrow t c A20 l.length c20) 27)) = x9 at *
              have HQ := Lib.hid (vsame_any t c A20 l c20 t c A l cap x9 HXtex.out HS.out HBY.out HBY.out)
              rw [smV_rf] at HQ
              refine (HQ.out).mono ?_
              rintro e x10 ⟨rfl, hb⟩
              replace R3 := Lib.hid ((hb.block _ (row_lt R3.out)).trans R3.out)
              replace HS := Lib.hid (HS.out.keep hb)
              replace HR14 := Lib.hid (HR14.out.keep hb)
              replace HXtex := Lib.hid (HXtex.out.keep hb)
              replace R20 := Lib.hid ((hb.block _ (row_lt R20.out)).trans R20.out)
              replace HB := Lib.hid (HB.out.trans (hb.mono HB.out.size))
              clear hb
              clear HQ R20 HXtex
              have k1 := row_cell (v := .int .i64 c) R3.out 1 rfl
              go_wp2_with fail
              clear k1 nn
              refine (awake_any _).mono ?_
              rintro e x11 ⟨rfl, hb⟩
              replace R3 := Lib.hid ((hb.block _ (row_lt R3.out)).trans R3.out)
              replace HS := Lib.hid (HS.out.keep hb)
              replace HR14 := Lib.hid (HR14.out.keep hb)
              replace HB := Lib.hid (HB.out.trans (hb.mono HB.out.size))
              clear hb
              go_wp2_with fail
              go_ret
              exact ⟨rfl, HB.out⟩
        | true =>
          obtain ⟨n1, n2, n3⟩ := num_back HBY.out hnum
          have HON := Lib.hid (fun (W : World) (A : Option Addr) (c2 : Nat) (h : Sl .i64 W A (numL t c l)) => onum_any t A (numL t c l) c2 W h (by omega))
          rw [n1, n2, on_t, on_t, n3] at HON
          have nn : (((numL t c l).length : Int) != c) = false := by rw [n3]; simp
          clear n1 n2 n3 hnum
          generalize numL t c l = NL at *
          have k0 := row_cell (v := .int .i64 t) R3.out 0 rfl
          go_wp2_with fail
          clear k0
          refine (HON.out _ _ _ HN10.out).mono ?_
          rintro e x3 ⟨A12, c12, rfl, hx3_0, hb⟩
          replace R3 := Lib.hid ((hb.block _ (row_lt R3.out)).trans R3.out)
          replace HS := Lib.hid (HS.out.keep hb)
          replace HN10 := Lib.hid (HN10.out.keep hb)
          replace HB := Lib.hid (HB.out.trans (hb.mono HB.out.size))
          have HXnum := Lib.hid hx3_0
          clear hx3_0 hb
          simp only [vrow]
          clear HON
          have hb := (ba (brefl x3) (.cells (vrow t c A12 l.length c12) 27))
          have R12 := (alloc1 x3 (.cells (vrow t c A12 l.length c12) 27)).1
          replace R3 := Lib.hid ((hb.block _ (row_lt R3.out)).trans R3.out)
          replace HS := Lib.hid (HS.out.keep hb)
          replace HN10 := Lib.hid (HN10.out.keep hb)
          replace HXnum := Lib.hid (HXnum.out.keep hb)
          replace HB := Lib.hid (HB.out.trans (hb.mono HB.out.size))
          clear hb
          replace R12 := Lib.hid R12
          go_wp2_with (first | ((with_reducible refine wpl_load_row rtV ?_ (.tmp 3) ?_ (g3) ?_ 27 (vrow t c A l.length cap) ?_ R3.out ?_); rfl; rfl; rfl; rfl; simp only [Act.put, List.setIfInBounds_toArray, List.set_cons_succ, List.set_cons_zero]) | ((with_reducible refine wpl_load_row rtV ?_ (.tmp 12) ?_ (x3.heap.size) ?_ 27 (vrow t c A12 l.length c12) ?_ R12.out ?_); rfl; rfl; rfl; rfl; simp only [Act.put, List.setIfInBounds_toArray, List.set_cons_succ, List.set_cons_zero]))
          generalize (x3.alloc (.cells (vrow t c A12 l.length c12) 27)) = x4 at *
          have HQ := Lib.hid (vsame_any t c A12 l c12 t c A l cap x4 HXnum.out.sl'.2 HS.out HBY.out HBY.out)
          rw [smV_rf] at HQ
          refine (HQ.out).mono ?_
          rintro e x5 ⟨rfl, hb⟩
          replace R3 := Lib.hid ((hb.block _ (row_lt R3.out)).trans R3.out)
          replace HS := Lib.hid (HS.out.keep hb)
          replace HN10 := Lib.hid (HN10.out.keep hb)
          replace HXnum := Lib.hid (HXnum.out.keep hb)
          replace R12 := Lib.hid ((hb.block _ (row_lt R12.out)).trans R12.out)
          replace HB := Lib.hid (HB.out.trans (hb.mono HB.out.size))
          clear hb
          clear HQ R12 HXnum
          have k1 := row_cell (v := .int .i64 c) R3.out 1 rfl
          go_wp2_with ((with_reducible refine wpl_load_row rtV ?_ (.tmp 3) ?_ (g3) ?_ 27 (vrow t c A l.length cap) ?_ R3.out ?_); rfl; rfl; rfl; rfl; simp only [Act.put, List.setIfInBounds_toArray, List.set_cons_succ, List.set_cons_zero])
          clear k1 nn
          refine (rats_any t c A l cap _ HS.out (by omega) HBY.out).mono ?_
          rintro e x6 ⟨A14, c14, rfl, hx6_0, hb⟩
          replace R3 := Lib.hid ((hb.block _ (row_lt R3.out)).trans R3.out)
          replace HS := Lib.hid (HS.out.keep hb)
          replace HN10 := Lib.hid (HN10.out.keep hb)
          replace HB := Lib.hid (HB.out.trans (hb.mono HB.out.size))
          have HR14 := Lib.hid hx6_0
          clear hx6_0 hb
          cases hrat : ratB t c l with
          | false =>
            clear hrat
            clear HR14
            generalize ratN t c l = RN
            go_wp2_with ((with_reducible refine wpl_load_row rtV ?_ (.tmp 3) ?_ (g3) ?_ 27 (vrow t c A l.length cap) ?_ R3.out ?_); rfl; rfl; rfl; rfl; simp only [Act.put, List.setIfInBounds_toArray, List.set_cons_succ, List.set_cons_zero])
            refine (text_any t c A l cap _ HS.out (by omega) HBY.out hlc).mono ?_
            rintro e x7 ⟨rfl, hb⟩
            replace R3 := Lib.hid ((hb.block _ (row_lt R3.out)).trans R3.out)
            replace HS := Lib.hid (HS.out.keep hb)
            replace HN10 := Lib.hid (HN10.out.keep hb)
            replace HB := Lib.hid (HB.out.trans (hb.mono HB.out.size))
            clear hb
            cases htex : texB t c l with
            | false =>
              clear htex
              generalize texS t c l = TS
              go_wp2_with fail
              refine (awake_any _).mono ?_
              rintro e x8 ⟨rfl, hb⟩
              replace R3 := Lib.hid ((hb.block _ (row_lt R3.out)).trans R3.out)
              replace HS := Lib.hid (HS.out.keep hb)
              replace HN10 := Lib.hid (HN10.out.keep hb)
              replace HB := Lib.hid (HB.out.trans (hb.mono HB.out.size))
              clear hb
              go_wp2_with fail
              go_ret
              exact ⟨rfl, HB.out⟩
            | true =>
              obtain ⟨n0, n1, n2, n3⟩ := tex_back HBY.out htex
              have HON := Lib.hid (fun (W : World) => otext_any (texS t c l) W (by omega))
              rw [n1, n2, on_t, on_t, n3, ← n0] at HON
              have nn : (((texS t c l).size : Int) != c - 1) = false := by rw [bne_eq_false_iff_eq]; omega
              have nc : 1 ≤ c := m3
              clear n0 n1 n2 n3 htex
              generalize texS t c l = TS at *
              go_wp2_with fail
              refine (HON.out _).mono ?_
              rintro e x8 ⟨A20, c20, rfl, hx8_0, hb⟩
              replace R3 := Lib.hid ((hb.block _ (row_lt R3.out)).trans R3.out)
              replace HS := Lib.hid (HS.out.keep hb)
              replace HN10 := Lib.hid (HN10.out.keep hb)
              replace HB := Lib.hid (HB.out.trans (hb.mono HB.out.size))
              have HXtex := Lib.hid hx8_0
              clear hx8_0 hb
              simp only [vrow]
              clear HON
              have hb := (ba (brefl x8) (.cells (vrow t c A20 l.length c20) 27))
              have R20 := (alloc1 x8 (.cells (vrow t c A20 l.length c20) 27)).1
              replace R3 := Lib.hid ((hb.block _ (row_lt R3.out)).trans R3.out)
              replace HS := Lib.hid (HS.out.keep hb)
              replace HN10 := Lib.hid (HN10.out.keep hb)
              replace HXtex := Lib.hid (HXtex.out.keep hb)
              replace HB := Lib.hid (HB.out.trans (hb.mono HB.out.size))
              clear hb
              replace R20 := Lib.hid R20
              go_wp2_with (first | ((with_reducible refine wpl_load_row rtV ?_ (.tmp 3) ?_ (g3) ?_ 27 (vrow t c A l.length cap) ?_ R3.out ?_); rfl; rfl; rfl; rfl; simp only [Act.put, List.setIfInBounds_toArray, List.set_cons_succ, List.set_cons_zero]) | ((with_reducible refine wpl_load_row rtV ?_ (.tmp 20) ?_ (x8.heap.size) ?_ 27 (vrow t c A20 l.length c20) ?_ R20.out ?_); rfl; rfl; rfl; rfl; simp only [Act.put, List.setIfInBounds_toArray, List.set_cons_succ, List.set_cons_zero]))
              generalize (x8.alloc (.cells (vrow t c A20 l.length c20) 27)) = x9 at *
              have HQ := Lib.hid (vsame_any t c A20 l c20 t c A l cap x9 HXtex.out HS.out HBY.out HBY.out)
              rw [smV_rf] at HQ
              refine (HQ.out).mono ?_
              rintro e x10 ⟨rfl, hb⟩
              replace R3 := Lib.hid ((hb.block _ (row_lt R3.out)).trans R3.out)
              replace HS := Lib.hid (HS.out.keep hb)
              replace HN10 := Lib.hid (HN10.out.keep hb)
              replace HXtex := Lib.hid (HXtex.out.keep hb)
              replace R20 := Lib.hid ((hb.block _ (row_lt R20.out)).trans R20.out)
              replace HB := Lib.hid (HB.out.trans (hb.mono HB.out.size))
              clear hb
              clear HQ R20 HXtex
              have k1 := row_cell (v := .int .i64 c) R3.out 1 rfl
              go_wp2_with fail
              clear k1 nn
              refine (awake_any _).mono ?_
              rintro e x11 ⟨rfl, hb⟩
              replace R3 := Lib.hid ((hb.block _ (row_lt R3.out)).trans R3.out)
              replace HS := Lib.hid (HS.out.keep hb)
              replace HN10 := Lib.hid (HN10.out.keep hb)
              replace HB := Lib.hid (HB.out.trans (hb.mono HB.out.size))
              clear hb
              go_wp2_with fail
              go_ret
              exact ⟨rfl, HB.out⟩
          | true =>
            obtain ⟨n1, n2, n3⟩ := rat_back HBY.out hrat
            have HON := Lib.hid (fun (W : World) (A : Option Addr) (c2 : Nat) (h : SlV W A (iv (ratL t c l))) => orat_any t A (ratN t c l) c2 (ratL t c l) W h (ratL_len t c l) (by have := ratN_le (t := t) (c := c) (l := l); omega))
            rw [n1, n2, on_t, on_t, n3] at HON
            have nn : (((ratN t c l : Nat) : Int) != c) = false := by rw [n3]; simp
            clear n1 n2 n3 hrat
            generalize ratL t c l = RL at *
            generalize ratN t c l = RN at *
            have k0 := row_cell (v := .int .i64 t) R3.out 0 rfl
            go_wp2_with fail
            clear k0
            refine (HON.out _ _ _ HR14.out).mono ?_
            rintro e x7 ⟨A16, c16, rfl, hx7_0, hb⟩
            replace R3 := Lib.hid ((hb.block _ (row_lt R3.out)).trans R3.out)
            replace HS := Lib.hid (HS.out.keep hb)
            replace HN10 := Lib.hid (HN10.out.keep hb)
            replace HR14 := Lib.hid (HR14.out.keep hb)
            replace HB := Lib.hid (HB.out.trans (hb.mono HB.out.size))
            have HXrat := Lib.hid hx7_0
            clear hx7_0 hb
            simp only [vrow]
            clear HON
            have hb := (ba (brefl x7) (.cells (vrow t c A16 l.length c16) 27))
            have R16 := (alloc1 x7 (.cells (vrow t c A16 l.length c16) 27)).1
            replace R3 := Lib.hid ((hb.block _ (row_lt R3.out)).trans R3.out)
            replace HS := Lib.hid (HS.out.keep hb)
            replace HN10 := Lib.hid (HN10.out.keep hb)
            replace HR14 := Lib.hid (HR14.out.keep hb)
            replace HXrat := Lib.hid (HXrat.out.keep hb)
            replace HB := Lib.hid (HB.out.trans (hb.mono HB.out.size))
            clear hb
            replace R16 := Lib.hid R16
            go_wp2_with (first | ((with_reducible refine wpl_load_row rtV ?_ (.tmp 3) ?_ (g3) ?_ 27 (vrow t c A l.length cap) ?_ R3.out ?_); rfl; rfl; rfl; rfl; simp only [Act.put, List.setIfInBounds_toArray, List.set_cons_succ, List.set_cons_zero]) | ((with_reducible refine wpl_load_row rtV ?_ (.tmp 16) ?_ (x7.heap.size) ?_ 27 (vrow t c A16 l.length c16) ?_ R16.out ?_); rfl; rfl; rfl; rfl; simp only [Act.put, List.setIfInBounds_toArray, List.set_cons_succ, List.set_cons_zero]))
            generalize (x7.alloc (.cells (vrow t c A16 l.length c16) 27)) = x8 at *
            have HQ := Lib.hid (vsame_any t c A16 l c16 t c A l cap x8 HXrat.out.sl'.2 HS.out HBY.out HBY.out)
            rw [smV_rf] at HQ
            refine (HQ.out).mono ?_
            rintro e x9 ⟨rfl, hb⟩
            replace R3 := Lib.hid ((hb.block _ (row_lt R3.out)).trans R3.out)
            replace HS := Lib.hid (HS.out.keep hb)
            replace HN10 := Lib.hid (HN10.out.keep hb)
            replace HR14 := Lib.hid (HR14.out.keep hb)
            replace HXrat := Lib.hid (HXrat.out.keep hb)
            replace R16 := Lib.hid ((hb.block _ (row_lt R16.out)).trans R16.out)
            replace HB := Lib.hid (HB.out.trans (hb.mono HB.out.size))
            clear hb
            clear HQ R16 HXrat
            have k1 := row_cell (v := .int .i64 c) R3.out 1 rfl
            go_wp2_with ((with_reducible refine wpl_load_row rtV ?_ (.tmp 3) ?_ (g3) ?_ 27 (vrow t c A l.length cap) ?_ R3.out ?_); rfl; rfl; rfl; rfl; simp only [Act.put, List.setIfInBounds_toArray, List.set_cons_succ, List.set_cons_zero])
            clear k1 nn
            refine (text_any t c A l cap _ HS.out (by omega) HBY.out hlc).mono ?_
            rintro e x10 ⟨rfl, hb⟩
            replace R3 := Lib.hid ((hb.block _ (row_lt R3.out)).trans R3.out)
            replace HS := Lib.hid (HS.out.keep hb)
            replace HN10 := Lib.hid (HN10.out.keep hb)
            replace HR14 := Lib.hid (HR14.out.keep hb)
            replace HB := Lib.hid (HB.out.trans (hb.mono HB.out.size))
            clear hb
            cases htex : texB t c l with
            | false =>
              clear htex
              generalize texS t c l = TS
              go_wp2_with fail
              refine (awake_any _).mono ?_
              rintro e x11 ⟨rfl, hb⟩
              replace R3 := Lib.hid ((hb.block _ (row_lt R3.out)).trans R3.out)
              replace HS := Lib.hid (HS.out.keep hb)
              replace HN10 := Lib.hid (HN10.out.keep hb)
              replace HR14 := Lib.hid (HR14.out.keep hb)
              replace HB := Lib.hid (HB.out.trans (hb.mono HB.out.size))
              clear hb
              go_wp2_with fail
              go_ret
              exact ⟨rfl, HB.out⟩
            | true =>
              obtain ⟨n0, n1, n2, n3⟩ := tex_back HBY.out htex
              have HON := Lib.hid (fun (W : World) => otext_any (texS t c l) W (by omega))
              rw [n1, n2, on_t, on_t, n3, ← n0] at HON
              have nn : (((texS t c l).size : Int) != c - 1) = false := by rw [bne_eq_false_iff_eq]; omega
              have nc : 1 ≤ c := m3
              clear n0 n1 n2 n3 htex
              generalize texS t c l = TS at *
              go_wp2_with fail
              refine (HON.out _).mono ?_
              rintro e x11 ⟨A20, c20, rfl, hx11_0, hb⟩
              replace R3 := Lib.hid ((hb.block _ (row_lt R3.out)).trans R3.out)
              replace HS := Lib.hid (HS.out.keep hb)
              replace HN10 := Lib.hid (HN10.out.keep hb)
              replace HR14 := Lib.hid (HR14.out.keep hb)
              replace HB := Lib.hid (HB.out.trans (hb.mono HB.out.size))
              have HXtex := Lib.hid hx11_0
              clear hx11_0 hb
              simp only [vrow]
              clear HON
              have hb := (ba (brefl x11) (.cells (vrow t c A20 l.length c20) 27))
              have R20 := (alloc1 x11 (.cells (vrow t c A20 l.length c20) 27)).1
              replace R3 := Lib.hid ((hb.block _ (row_lt R3.out)).trans R3.out)
              replace HS := Lib.hid (HS.out.keep hb)
              replace HN10 := Lib.hid (HN10.out.keep hb)
              replace HR14 := Lib.hid (HR14.out.keep hb)
              replace HXtex := Lib.hid (HXtex.out.keep hb)
              replace HB := Lib.hid (HB.out.trans (hb.mono HB.out.size))
              clear hb
              replace R20 := Lib.hid R20
              go_wp2_with (first | ((with_reducible refine wpl_load_row rtV ?_ (.tmp 3) ?_ (g3) ?_ 27 (vrow t c A l.length cap) ?_ R3.out ?_); rfl; rfl; rfl; rfl; simp only [Act.put, List.setIfInBounds_toArray, List.set_cons_succ, List.set_cons_zero]) | ((with_reducible refine wpl_load_row rtV ?_ (.tmp 20) ?_ (x11.heap.size) ?_ 27 (vrow t c A20 l.length c20) ?_ R20.out ?_); rfl; rfl; rfl; rfl; simp only [Act.put, List.setIfInBounds_toArray, List.set_cons_succ, List.set_cons_zero]))
              generalize (x11.alloc (.cells (vrow t c A20 l.length c20) 27)) = x12 at *
              have HQ := Lib.hid (vsame_any t c A20 l c20 t c A l cap x12 HXtex.out HS.out HBY.out HBY.out)
              rw [smV_rf] at HQ
              refine (HQ.out).mono ?_
              rintro e x13 ⟨rfl, hb⟩
              replace R3 := Lib.hid ((hb.block _ (row_lt R3.out)).trans R3.out)
              replace HS := Lib.hid (HS.out.keep hb)
              replace HN10 := Lib.hid (HN10.out.keep hb)
              replace HR14 := Lib.hid (HR14.out.keep hb)
              replace HXtex := Lib.hid (HXtex.out.keep hb)
              replace R20 := Lib.hid ((hb.block _ (row_lt R20.out)).trans R20.out)
              replace HB := Lib.hid (HB.out.trans (hb.mono HB.out.size))
              clear hb
              clear HQ R20 HXtex
              have k1 := row_cell (v := .int .i64 c) R3.out 1 rfl
              go_wp2_with fail
              clear k1 nn
              refine (awake_any _).mono ?_
              rintro e x14 ⟨rfl, hb⟩
              replace R3 := Lib.hid ((hb.block _ (row_lt R3.out)).trans R3.out)
              replace HS := Lib.hid (HS.out.keep hb)
              replace HN10 := Lib.hid (HN10.out.keep hb)
              replace HR14 := Lib.hid (HR14.out.keep hb)
              replace HB := Lib.hid (HB.out.trans (hb.mono HB.out.size))
              clear hb
              go_wp2_with fail
              go_ret
              exact ⟨rfl, HB.out⟩
      have SN := Lib.hid (brefl v3)
      have SN_R3 := R3
      have SN_HS := HS
      have SN_HSB := HSB
      have SN_le_HB := HB.out.size
      have LT_R3 : _ < v3.heap.size := row_lt R3.out
      have SZ : v3.heap.size ≤ v3.drew.heap.size := Nat.le_refl _
      have hb := ud' (brefl v3)
      replace R3 := Lib.hid ((hb.block _ (row_lt R3.out)).trans R3.out)
      replace HS := Lib.hid (HS.out.keep hb)
      replace HSB := Lib.hid (HSB.out.keep hb)
      replace HP1 := Lib.hid (HP1.out.keep hb)
      replace HB := Lib.hid (HB.out.trans (hb.mono HB.out.size))
      replace SN := Lib.hid (SN.out.trans (hb.mono SN.out.size))
      clear hb
      refine Tin.reg_begin (v3.heap.size) 16 (by rfl) (by kernel_rfl) ?_
      have kt : ∀ p : Bel (v3.heap.size) v3.drew, p.w'.cell? ⟨g3, 0, none⟩ = some (.int .i64 t) := fun p => row_cell ((p.h.block _ LT_R3).trans R3.out) 0 rfl
      have kc : ∀ p : Bel (v3.heap.size) v3.drew, p.w'.cell? ⟨g3, 1, none⟩ = some (.int .i64 c) := fun p => row_cell ((p.h.block _ LT_R3).trans R3.out) 1 rfl
      refine Tin.reg_quiets [0, 1, 2, 3, 4, 6, 8] _ 9 rfl (by simp only [Tin.pick, List.map_cons, List.map_nil, Array.getD_eq_getD_getElem?, List.getElem?_toArray, List.getElem?_cons_zero, List.getElem?_cons_succ, Option.getD_some]; rfl) (by kernel_rfl) (by kernel_rfl) ?_
      repeat (first | go_big_quiet_step (fail))
      refine wpQuiet_nil ?_
      clear kt kc
      refine Tin.reg_two 5 13 _ _ rfl rfl (by kernel_rfl) ?_ ?_
      · have L5 := SZ
        try simp only [List.getElem_toArray, List.getElem_cons_succ, List.getElem_cons_zero]
        go_wp2_with fail
        refine (own_any A1 BY c1 _ HP1.out.sl'.2 (by have := HLB.out; omega)).mono ?_
        rintro e v4 ⟨A5, d5, rfl, hv4_0, hv⟩
        have H5S := hv.size
        go_wp2_with fail
        refine ⟨v3.heap.size, hv.mono SZ, Nat.le_refl _, ?_⟩
        replace R3 := Lib.hid ((hv.block _ (row_lt R3.out)).trans R3.out)
        replace HS := Lib.hid (HS.out.keep hv)
        replace HSB := Lib.hid (HSB.out.keep hv)
        replace HP1 := Lib.hid (HP1.out.keep hv)
        replace HB := Lib.hid (HB.out.trans (hv.mono HB.out.size))
        replace SN := Lib.hid (SN.out.trans (hv.mono SN.out.size))
        have HA5 := Lib.hid hv4_0
        replace SZ := Nat.le_trans SZ hv.size
        clear hv4_0 hv
        have UB5 : ∀ q, (Value.slice A5 BY.length d5).ownBlock = some q → v3.drew.heap.size ≤ q ∧ q < v4.heap.size := fun q hq => World.ownsRow.lt HA5.out q hq
        refine Tin.reg_two 7 13 _ _ rfl rfl (by kernel_rfl) ?_ ?_
        · try simp only [List.getElem_toArray, List.getElem_cons_succ, List.getElem_cons_zero]
          go_wp2_with (at_builtin; refine Tin.wpl_app bt5 _ rfl (.tmp 78) (.tmp 79) rfl _ _ BY rfl HA5.out Ab lb.length capb lb rfl HSB.out rfl (by have := HLB.out; omega) (by have := HLB.out; omega) H5S ?_; intro z7 v5 ho7 hg7 hw7; rw [HL7.out] at ho7; obtain ⟨A7, d7, rfl⟩ := own_form ho7; have HC7 := Lib.hid (own_cap3 ho7))
          have hb7 : Below (v3.heap.size) v4 v5 := (Below.refl _ _).grown hg7 SZ (fun q hq => Nat.le_trans L5 (UB5 q hq).1)
          refine ⟨v3.heap.size, hb7, Nat.le_refl _, ?_⟩
          replace SZ := Nat.le_trans SZ hb7.size
          have HA7 := Lib.hid ho7.sl'.2
          replace SN := Lib.hid (SN.out.trans hb7)
          clear HP1 HA5
          replace R3 := Lib.hid ((SN.out.block _ (row_lt SN_R3.out)).trans SN_R3.out)
          replace HS := Lib.hid (SN_HS.out.keep SN.out)
          replace HSB := Lib.hid (SN_HSB.out.keep SN.out)
          replace HB := Lib.hid (HB.out.trans (hb7.mono SN_le_HB))
          clear ho7 hg7 hw7 hb7 UB5
          refine Tin.reg_two 9 13 _ _ rfl rfl (by kernel_rfl) ?_ ?_
          · try simp only [List.getElem_toArray, List.getElem_cons_succ, List.getElem_cons_zero]
            go_wp2_with fail
            refine (HOF.out _ _ _ HA7.out HC7.out HL7L.out).mono ?_
            rintro e v6 ⟨A9, d9, rfl, hv6_0, hv⟩
            simp only [vrow, on_t]
            go_wp2_with fail
            refine ⟨v3.heap.size, hv.mono SZ, Nat.le_refl _, ?_⟩
            replace R3 := Lib.hid ((hv.block _ (row_lt R3.out)).trans R3.out)
            replace HS := Lib.hid (HS.out.keep hv)
            replace HSB := Lib.hid (HSB.out.keep hv)
            replace HA7 := Lib.hid (HA7.out.keep hv)
            replace HB := Lib.hid (HB.out.trans (hv.mono HB.out.size))
            replace SN := Lib.hid (SN.out.trans (hv.mono SN.out.size))
            have HA9 := Lib.hid hv6_0
            replace SZ := Nat.le_trans SZ hv.size
            clear hv6_0 hv
            have UB9 : ∀ q, (Value.slice A9 l.length d9).ownBlock = some q → v5.heap.size ≤ q ∧ q < v6.heap.size := fun q hq => World.ownsRow.lt HA9.out q hq
            refine Tin.reg_quiets [10, 11, 12] _ 3 rfl (by simp only [Tin.pick, List.map_cons, List.map_nil, Array.getD_eq_getD_getElem?, List.getElem?_toArray, List.getElem?_cons_zero, List.getElem?_cons_succ, Option.getD_some]; rfl) (by kernel_rfl) (by kernel_rfl) ?_
            repeat (first | go_big_quiet_step (fail))
            refine wpQuiet_nil ?_
            refine Tin.reg_one 13 _ rfl (by kernel_rfl) ?_
            try simp only [List.getElem_toArray, List.getElem_cons_succ, List.getElem_cons_zero]
            go_wp2_with fail
            have hv := ba (brefl v6) (.cells (vrow 0 0 none 0 0) 27)
            have R8 := Lib.hid (show (v6.alloc (.cells (vrow 0 0 none 0 0) 27)).heap[v6.heap.size]? = some (.cells (vrow 0 0 none 0 0) 27 (0, 0)) from heap_alloc_new v6 (.cells (vrow 0 0 none 0 0) 27))
            refine ⟨v3.heap.size, hv.mono SZ, Nat.le_refl _, ?_⟩
            have SZ8 : v3.heap.size ≤ v6.heap.size := SZ
            replace R3 := Lib.hid ((hv.block _ (row_lt R3.out)).trans R3.out)
            replace HS := Lib.hid (HS.out.keep hv)
            replace HSB := Lib.hid (HSB.out.keep hv)
            replace HA7 := Lib.hid (HA7.out.keep hv)
            replace HA9 := Lib.hid (HA9.out.keep hv)
            replace HB := Lib.hid (HB.out.trans (hv.mono HB.out.size))
            replace SN := Lib.hid (SN.out.trans (hv.mono SN.out.size))
            replace SZ := Nat.le_trans SZ hv.size
            clear hv
            generalize v6.alloc (.cells (vrow 0 0 none 0 0) 27) = v7 at *
            obtain ⟨g8, hg8⟩ : ∃ g, g = v6.heap.size := ⟨_, rfl⟩
            rw [← hg8] at R8 SZ8 UB9 ⊢
            clear hg8
            refine Tin.reg_one 14 _ rfl (by kernel_rfl) ?_
            try simp only [List.getElem_toArray, List.getElem_cons_succ, List.getElem_cons_zero]
            go_wp2_with ((with_reducible refine wpl_store_row rtV ?_ (.tmp 8) (.tmp 83) ?_ (g8) ?_ (vrow t c A9 l.length d9) ?_ (vrow_one _ _ _ _ _) 27 ?_ _ ?_ R8.out ?_); rfl; rfl; rfl; rfl; rfl; rfl; intro v8 hr8 hg8' hs8; (try simp only [Act.put]))
            have hb8 : Below (v3.heap.size) v7 v8 := (Below.refl _ _).grown hg8' SZ (fun k hk => by cases hk; omega)
            have HA9n : Sl .u8 v8 A9 l := (HA9.out.kept hg8' (ne_own (fun q hq => by have h1 := UB9 q hq; omega))).sl'.2
            refine ⟨v3.heap.size, hb8, Nat.le_refl _, ?_⟩
            replace SN := Lib.hid (SN.out.trans hb8)
            clear HA7 HA9 R8
            replace R3 := Lib.hid ((SN.out.block _ (row_lt SN_R3.out)).trans SN_R3.out)
            replace HS := Lib.hid (SN_HS.out.keep SN.out)
            replace HSB := Lib.hid (SN_HSB.out.keep SN.out)
            replace HB := Lib.hid (HB.out.trans (hb8.mono SN_le_HB))
            refine Tin.reg_quiets [15] _ 0 rfl (by simp only [Tin.pick, List.map_cons, List.map_nil, Array.getD_eq_getD_getElem?, List.getElem?_toArray, List.getElem?_cons_zero, List.getElem?_cons_succ, Option.getD_some]; rfl) (by kernel_rfl) (by kernel_rfl) ?_
            repeat (first | go_big_quiet_step (fail))
            refine wpQuiet_nil ?_
            refine Tin.reg_done (by kernel_rfl) ?_
            exact tail _ (g8) A9 d9 _ _ _ _ _ _ _ _ _ _ _ _ _ _ _ _ _ _ _ _ _ _ _ _ _ _ _ _ _ _ _ _ _ _ _ _ _ _ _ _ _ _ _ _ _ _ _ _ _ _ _ _ _ _ _ _ _ _ _ _ _ _ _ _ _ _ _ _ _ _ _ _ _ _ _ _ _ _ _ _ _ _ _ _ _ _ _ _ _ _ _ _ _ _ _ _ _ _ _ _ _ _ _ _ _ _ _ _ _ _ _ _ _ _ _ _ _ _ _ _ _ _ _ _ _ _ _ _ _ _ _ _ _ _ _ _ _ _ _ _ _ _ _ _ _ _ _ _ _ _ _ _ _ _ _ _ _ _ _ _ _ _ _ _ _ _ _ _ _ _ _ _ _ R3.out HS.out hr8 HA9n HB.out
          · try simp only [List.getElem_toArray, List.getElem_cons_succ, List.getElem_cons_zero]
            go_wp2_with fail
            have hv := ba (brefl v5) (.cells (vrow 0 0 none 0 0) 27)
            have R8 := Lib.hid (show (v5.alloc (.cells (vrow 0 0 none 0 0) 27)).heap[v5.heap.size]? = some (.cells (vrow 0 0 none 0 0) 27 (0, 0)) from heap_alloc_new v5 (.cells (vrow 0 0 none 0 0) 27))
            refine ⟨v3.heap.size, hv.mono SZ, Nat.le_refl _, ?_⟩
            have SZ8 : v3.heap.size ≤ v5.heap.size := SZ
            replace R3 := Lib.hid ((hv.block _ (row_lt R3.out)).trans R3.out)
            replace HS := Lib.hid (HS.out.keep hv)
            replace HSB := Lib.hid (HSB.out.keep hv)
            replace HA7 := Lib.hid (HA7.out.keep hv)
            replace HB := Lib.hid (HB.out.trans (hv.mono HB.out.size))
            replace SN := Lib.hid (SN.out.trans (hv.mono SN.out.size))
            replace SZ := Nat.le_trans SZ hv.size
            clear hv
            generalize v5.alloc (.cells (vrow 0 0 none 0 0) 27) = v6 at *
            obtain ⟨g8, hg8⟩ : ∃ g, g = v5.heap.size := ⟨_, rfl⟩
            rw [← hg8] at R8 SZ8  ⊢
            clear hg8
            have G9 : g8 < v6.heap.size := row_lt R8.out
            refine Tin.reg_one 9 _ rfl (by kernel_rfl) ?_
            try simp only [List.getElem_toArray, List.getElem_cons_succ, List.getElem_cons_zero]
            go_wp2_with fail
            refine (HOF.out _ _ _ HA7.out HC7.out HL7L.out).mono ?_
            rintro e v7 ⟨A9, d9, rfl, hv7_0, hv⟩
            simp only [vrow, on_t]
            go_wp2_with fail
            refine ⟨v3.heap.size, hv.mono SZ, Nat.le_refl _, ?_⟩
            replace R3 := Lib.hid ((hv.block _ (row_lt R3.out)).trans R3.out)
            replace HS := Lib.hid (HS.out.keep hv)
            replace HSB := Lib.hid (HSB.out.keep hv)
            replace HA7 := Lib.hid (HA7.out.keep hv)
            replace R8 := Lib.hid ((hv.block _ (row_lt R8.out)).trans R8.out)
            replace HB := Lib.hid (HB.out.trans (hv.mono HB.out.size))
            replace SN := Lib.hid (SN.out.trans (hv.mono SN.out.size))
            have HA9 := Lib.hid hv7_0
            replace SZ := Nat.le_trans SZ hv.size
            clear hv7_0 hv
            have UB9 : ∀ q, (Value.slice A9 l.length d9).ownBlock = some q → v6.heap.size ≤ q ∧ q < v7.heap.size := fun q hq => World.ownsRow.lt HA9.out q hq
            refine Tin.reg_quiets [10, 11, 12] _ 2 rfl (by simp only [Tin.pick, List.map_cons, List.map_nil, Array.getD_eq_getD_getElem?, List.getElem?_toArray, List.getElem?_cons_zero, List.getElem?_cons_succ, Option.getD_some]; rfl) (by kernel_rfl) (by kernel_rfl) ?_
            repeat (first | go_big_quiet_step (fail))
            refine wpQuiet_nil ?_
            refine Tin.reg_one 14 _ rfl (by kernel_rfl) ?_
            try simp only [List.getElem_toArray, List.getElem_cons_succ, List.getElem_cons_zero]
            go_wp2_with ((with_reducible refine wpl_store_row rtV ?_ (.tmp 8) (.tmp 83) ?_ (g8) ?_ (vrow t c A9 l.length d9) ?_ (vrow_one _ _ _ _ _) 27 ?_ _ ?_ R8.out ?_); rfl; rfl; rfl; rfl; rfl; rfl; intro v8 hr8 hg8' hs8; (try simp only [Act.put]))
            have hb8 : Below (v3.heap.size) v7 v8 := (Below.refl _ _).grown hg8' SZ (fun k hk => by cases hk; omega)
            have HA9n : Sl .u8 v8 A9 l := (HA9.out.kept hg8' (ne_own (fun q hq => by have h1 := UB9 q hq; omega))).sl'.2
            refine ⟨v3.heap.size, hb8, Nat.le_refl _, ?_⟩
            replace SN := Lib.hid (SN.out.trans hb8)
            clear HA7 R8 HA9
            replace R3 := Lib.hid ((SN.out.block _ (row_lt SN_R3.out)).trans SN_R3.out)
            replace HS := Lib.hid (SN_HS.out.keep SN.out)
            replace HSB := Lib.hid (SN_HSB.out.keep SN.out)
            replace HB := Lib.hid (HB.out.trans (hb8.mono SN_le_HB))
            refine Tin.reg_quiets [15] _ 0 rfl (by simp only [Tin.pick, List.map_cons, List.map_nil, Array.getD_eq_getD_getElem?, List.getElem?_toArray, List.getElem?_cons_zero, List.getElem?_cons_succ, Option.getD_some]; rfl) (by kernel_rfl) (by kernel_rfl) ?_
            repeat (first | go_big_quiet_step (fail))
            refine wpQuiet_nil ?_
            refine Tin.reg_done (by kernel_rfl) ?_
            exact tail _ (g8) A9 d9 _ _ _ _ _ _ _ _ _ _ _ _ _ _ _ _ _ _ _ _ _ _ _ _ _ _ _ _ _ _ _ _ _ _ _ _ _ _ _ _ _ _ _ _ _ _ _ _ _ _ _ _ _ _ _ _ _ _ _ _ _ _ _ _ _ _ _ _ _ _ _ _ _ _ _ _ _ _ _ _ _ _ _ _ _ _ _ _ _ _ _ _ _ _ _ _ _ _ _ _ _ _ _ _ _ _ _ _ _ _ _ _ _ _ _ _ _ _ _ _ _ _ _ _ _ _ _ _ _ _ _ _ _ _ _ _ _ _ _ _ _ _ _ _ _ _ _ _ _ _ _ _ _ _ _ _ _ _ _ _ _ _ _ _ _ _ _ _ _ _ _ _ _ R3.out HS.out hr8 HA9n HB.out
        · try simp only [List.getElem_toArray, List.getElem_cons_succ, List.getElem_cons_zero]
          go_wp2_with fail
          have hv := ba (brefl v4) (.cells (vrow 0 0 none 0 0) 27)
          have R8 := Lib.hid (show (v4.alloc (.cells (vrow 0 0 none 0 0) 27)).heap[v4.heap.size]? = some (.cells (vrow 0 0 none 0 0) 27 (0, 0)) from heap_alloc_new v4 (.cells (vrow 0 0 none 0 0) 27))
          refine ⟨v3.heap.size, hv.mono SZ, Nat.le_refl _, ?_⟩
          have SZ8 : v3.heap.size ≤ v4.heap.size := SZ
          replace H5S := Nat.le_trans H5S hv.size
          replace R3 := Lib.hid ((hv.block _ (row_lt R3.out)).trans R3.out)
          replace HS := Lib.hid (HS.out.keep hv)
          replace HSB := Lib.hid (HSB.out.keep hv)
          replace HP1 := Lib.hid (HP1.out.keep hv)
          replace HA5 := Lib.hid (HA5.out.keep hv)
          replace HB := Lib.hid (HB.out.trans (hv.mono HB.out.size))
          replace SN := Lib.hid (SN.out.trans (hv.mono SN.out.size))
          replace SZ := Nat.le_trans SZ hv.size
          clear hv
          generalize v4.alloc (.cells (vrow 0 0 none 0 0) 27) = v5 at *
          obtain ⟨g8, hg8⟩ : ∃ g, g = v4.heap.size := ⟨_, rfl⟩
          rw [← hg8] at R8 SZ8 UB5 ⊢
          clear hg8
          refine Tin.reg_one 7 _ rfl (by kernel_rfl) ?_
          try simp only [List.getElem_toArray, List.getElem_cons_succ, List.getElem_cons_zero]
          go_wp2_with (at_builtin; refine Tin.wpl_app bt5 _ rfl (.tmp 78) (.tmp 79) rfl _ _ BY rfl HA5.out Ab lb.length capb lb rfl HSB.out rfl (by have := HLB.out; omega) (by have := HLB.out; omega) H5S ?_; intro z7 v6 ho7 hg7 hw7; rw [HL7.out] at ho7; obtain ⟨A7, d7, rfl⟩ := own_form ho7; have HC7 := Lib.hid (own_cap3 ho7))
          have hb7 : Below (v3.heap.size) v5 v6 := (Below.refl _ _).grown hg7 SZ (fun q hq => Nat.le_trans L5 (UB5 q hq).1)
          have R8n := Lib.hid ((hg7.block (g8) (row_lt R8.out) (fun e => by have := UB5 _ e.symm; omega)).trans R8.out)
          refine ⟨v3.heap.size, hb7, Nat.le_refl _, ?_⟩
          replace SZ := Nat.le_trans SZ hb7.size
          have HA7 := Lib.hid ho7.sl'.2
          replace SN := Lib.hid (SN.out.trans hb7)
          clear HP1 HA5 R8
          replace R3 := Lib.hid ((SN.out.block _ (row_lt SN_R3.out)).trans SN_R3.out)
          replace HS := Lib.hid (SN_HS.out.keep SN.out)
          replace HSB := Lib.hid (SN_HSB.out.keep SN.out)
          replace HB := Lib.hid (HB.out.trans (hb7.mono SN_le_HB))
          have R8 := R8n
          clear R8n
          clear ho7 hg7 hw7 hb7 UB5
          have G9 : g8 < v6.heap.size := row_lt R8.out
          refine Tin.reg_one 9 _ rfl (by kernel_rfl) ?_
          try simp only [List.getElem_toArray, List.getElem_cons_succ, List.getElem_cons_zero]
          go_wp2_with fail
          refine (HOF.out _ _ _ HA7.out HC7.out HL7L.out).mono ?_
          rintro e v7 ⟨A9, d9, rfl, hv7_0, hv⟩
          simp only [vrow, on_t]
          go_wp2_with fail
          refine ⟨v3.heap.size, hv.mono SZ, Nat.le_refl _, ?_⟩
          replace R3 := Lib.hid ((hv.block _ (row_lt R3.out)).trans R3.out)
          replace HS := Lib.hid (HS.out.keep hv)
          replace HSB := Lib.hid (HSB.out.keep hv)
          replace HA7 := Lib.hid (HA7.out.keep hv)
          replace R8 := Lib.hid ((hv.block _ (row_lt R8.out)).trans R8.out)
          replace HB := Lib.hid (HB.out.trans (hv.mono HB.out.size))
          replace SN := Lib.hid (SN.out.trans (hv.mono SN.out.size))
          have HA9 := Lib.hid hv7_0
          replace SZ := Nat.le_trans SZ hv.size
          clear hv7_0 hv
          have UB9 : ∀ q, (Value.slice A9 l.length d9).ownBlock = some q → v6.heap.size ≤ q ∧ q < v7.heap.size := fun q hq => World.ownsRow.lt HA9.out q hq
          refine Tin.reg_quiets [10, 11, 12] _ 2 rfl (by simp only [Tin.pick, List.map_cons, List.map_nil, Array.getD_eq_getD_getElem?, List.getElem?_toArray, List.getElem?_cons_zero, List.getElem?_cons_succ, Option.getD_some]; rfl) (by kernel_rfl) (by kernel_rfl) ?_
          repeat (first | go_big_quiet_step (fail))
          refine wpQuiet_nil ?_
          refine Tin.reg_one 14 _ rfl (by kernel_rfl) ?_
          try simp only [List.getElem_toArray, List.getElem_cons_succ, List.getElem_cons_zero]
          go_wp2_with ((with_reducible refine wpl_store_row rtV ?_ (.tmp 8) (.tmp 83) ?_ (g8) ?_ (vrow t c A9 l.length d9) ?_ (vrow_one _ _ _ _ _) 27 ?_ _ ?_ R8.out ?_); rfl; rfl; rfl; rfl; rfl; rfl; intro v8 hr8 hg8' hs8; (try simp only [Act.put]))
          have hb8 : Below (v3.heap.size) v7 v8 := (Below.refl _ _).grown hg8' SZ (fun k hk => by cases hk; omega)
          have HA9n : Sl .u8 v8 A9 l := (HA9.out.kept hg8' (ne_own (fun q hq => by have h1 := UB9 q hq; omega))).sl'.2
          refine ⟨v3.heap.size, hb8, Nat.le_refl _, ?_⟩
          replace SN := Lib.hid (SN.out.trans hb8)
          clear HA7 R8 HA9
          replace R3 := Lib.hid ((SN.out.block _ (row_lt SN_R3.out)).trans SN_R3.out)
          replace HS := Lib.hid (SN_HS.out.keep SN.out)
          replace HSB := Lib.hid (SN_HSB.out.keep SN.out)
          replace HB := Lib.hid (HB.out.trans (hb8.mono SN_le_HB))
          refine Tin.reg_quiets [15] _ 0 rfl (by simp only [Tin.pick, List.map_cons, List.map_nil, Array.getD_eq_getD_getElem?, List.getElem?_toArray, List.getElem?_cons_zero, List.getElem?_cons_succ, Option.getD_some]; rfl) (by kernel_rfl) (by kernel_rfl) ?_
          repeat (first | go_big_quiet_step (fail))
          refine wpQuiet_nil ?_
          refine Tin.reg_done (by kernel_rfl) ?_
          exact tail _ (g8) A9 d9 _ _ _ _ _ _ _ _ _ _ _ _ _ _ _ _ _ _ _ _ _ _ _ _ _ _ _ _ _ _ _ _ _ _ _ _ _ _ _ _ _ _ _ _ _ _ _ _ _ _ _ _ _ _ _ _ _ _ _ _ _ _ _ _ _ _ _ _ _ _ _ _ _ _ _ _ _ _ _ _ _ _ _ _ _ _ _ _ _ _ _ _ _ _ _ _ _ _ _ _ _ _ _ _ _ _ _ _ _ _ _ _ _ _ _ _ _ _ _ _ _ _ _ _ _ _ _ _ _ _ _ _ _ _ _ _ _ _ _ _ _ _ _ _ _ _ _ _ _ _ _ _ _ _ _ _ _ _ _ _ _ _ _ _ _ _ _ _ _ _ _ _ _ R3.out HS.out hr8 HA9n HB.out
      · try simp only [List.getElem_toArray, List.getElem_cons_succ, List.getElem_cons_zero]
        go_wp2_with fail
        have hv0 := ba (brefl v3) (.cells (vrow 0 0 none 0 0) 27)
        have hv : Below v3.drew.heap.size v3.drew ((v3.alloc (.cells (vrow 0 0 none 0 0) 27)).drew) := ⟨hv0.os, hv0.tape, hv0.output, hv0.size, hv0.block⟩
        clear hv0
        have R8 := Lib.hid (show ((v3.alloc (.cells (vrow 0 0 none 0 0) 27)).drew).heap[v3.heap.size]? = some (.cells (vrow 0 0 none 0 0) 27 (0, 0)) from heap_alloc_new v3 (.cells (vrow 0 0 none 0 0) 27))
        refine ⟨v3.heap.size, hv.mono SZ, Nat.le_refl _, ?_⟩
        have SZ8 : v3.heap.size ≤ v3.heap.size := SZ
        replace R3 := Lib.hid ((hv.block _ (row_lt R3.out)).trans R3.out)
        replace HS := Lib.hid (HS.out.keep hv)
        replace HSB := Lib.hid (HSB.out.keep hv)
        replace HP1 := Lib.hid (HP1.out.keep hv)
        replace HB := Lib.hid (HB.out.trans (hv.mono HB.out.size))
        replace SN := Lib.hid (SN.out.trans (hv.mono SN.out.size))
        replace SZ := Nat.le_trans SZ hv.size
        clear hv
        generalize (v3.alloc (.cells (vrow 0 0 none 0 0) 27)).drew = v4 at *
        have L5 := SZ
        have G5 : v3.heap.size < v4.heap.size := row_lt R8.out
        refine Tin.reg_one 5 _ rfl (by kernel_rfl) ?_
        try simp only [List.getElem_toArray, List.getElem_cons_succ, List.getElem_cons_zero]
        go_wp2_with fail
        refine (own_any A1 BY c1 _ HP1.out.sl'.2 (by have := HLB.out; omega)).mono ?_
        rintro e v5 ⟨A5, d5, rfl, hv5_0, hv⟩
        have H5S := hv.size
        go_wp2_with fail
        refine ⟨v3.heap.size, hv.mono SZ, Nat.le_refl _, ?_⟩
        replace R3 := Lib.hid ((hv.block _ (row_lt R3.out)).trans R3.out)
        replace HS := Lib.hid (HS.out.keep hv)
        replace HSB := Lib.hid (HSB.out.keep hv)
        replace HP1 := Lib.hid (HP1.out.keep hv)
        replace R8 := Lib.hid ((hv.block _ (row_lt R8.out)).trans R8.out)
        replace HB := Lib.hid (HB.out.trans (hv.mono HB.out.size))
        replace SN := Lib.hid (SN.out.trans (hv.mono SN.out.size))
        have HA5 := Lib.hid hv5_0
        replace SZ := Nat.le_trans SZ hv.size
        clear hv5_0 hv
        have UB5 : ∀ q, (Value.slice A5 BY.length d5).ownBlock = some q → v4.heap.size ≤ q ∧ q < v5.heap.size := fun q hq => World.ownsRow.lt HA5.out q hq
        refine Tin.reg_one 7 _ rfl (by kernel_rfl) ?_
        try simp only [List.getElem_toArray, List.getElem_cons_succ, List.getElem_cons_zero]
        go_wp2_with (at_builtin; refine Tin.wpl_app bt5 _ rfl (.tmp 78) (.tmp 79) rfl _ _ BY rfl HA5.out Ab lb.length capb lb rfl HSB.out rfl (by have := HLB.out; omega) (by have := HLB.out; omega) H5S ?_; intro z7 v6 ho7 hg7 hw7; rw [HL7.out] at ho7; obtain ⟨A7, d7, rfl⟩ := own_form ho7; have HC7 := Lib.hid (own_cap3 ho7))
        have hb7 : Below (v3.heap.size) v5 v6 := (Below.refl _ _).grown hg7 SZ (fun q hq => Nat.le_trans L5 (UB5 q hq).1)
        have R8n := Lib.hid ((hg7.block (v3.heap.size) (row_lt R8.out) (fun e => by have := UB5 _ e.symm; omega)).trans R8.out)
        refine ⟨v3.heap.size, hb7, Nat.le_refl _, ?_⟩
        replace SZ := Nat.le_trans SZ hb7.size
        have HA7 := Lib.hid ho7.sl'.2
        replace SN := Lib.hid (SN.out.trans hb7)
        clear HP1 R8 HA5
        replace R3 := Lib.hid ((SN.out.block _ (row_lt SN_R3.out)).trans SN_R3.out)
        replace HS := Lib.hid (SN_HS.out.keep SN.out)
        replace HSB := Lib.hid (SN_HSB.out.keep SN.out)
        replace HB := Lib.hid (HB.out.trans (hb7.mono SN_le_HB))
        have R8 := R8n
        clear R8n
        clear ho7 hg7 hw7 hb7 UB5
        have G9 : v3.heap.size < v6.heap.size := row_lt R8.out
        refine Tin.reg_one 9 _ rfl (by kernel_rfl) ?_
        try simp only [List.getElem_toArray, List.getElem_cons_succ, List.getElem_cons_zero]
        go_wp2_with fail
        refine (HOF.out _ _ _ HA7.out HC7.out HL7L.out).mono ?_
        rintro e v7 ⟨A9, d9, rfl, hv7_0, hv⟩
        simp only [vrow, on_t]
        go_wp2_with fail
        refine ⟨v3.heap.size, hv.mono SZ, Nat.le_refl _, ?_⟩
        replace R3 := Lib.hid ((hv.block _ (row_lt R3.out)).trans R3.out)
        replace HS := Lib.hid (HS.out.keep hv)
        replace HSB := Lib.hid (HSB.out.keep hv)
        replace HA7 := Lib.hid (HA7.out.keep hv)
        replace R8 := Lib.hid ((hv.block _ (row_lt R8.out)).trans R8.out)
        replace HB := Lib.hid (HB.out.trans (hv.mono HB.out.size))
        replace SN := Lib.hid (SN.out.trans (hv.mono SN.out.size))
        have HA9 := Lib.hid hv7_0
        replace SZ := Nat.le_trans SZ hv.size
        clear hv7_0 hv
        have UB9 : ∀ q, (Value.slice A9 l.length d9).ownBlock = some q → v6.heap.size ≤ q ∧ q < v7.heap.size := fun q hq => World.ownsRow.lt HA9.out q hq
        refine Tin.reg_quiets [10, 11, 12] _ 2 rfl (by simp only [Tin.pick, List.map_cons, List.map_nil, Array.getD_eq_getD_getElem?, List.getElem?_toArray, List.getElem?_cons_zero, List.getElem?_cons_succ, Option.getD_some]; rfl) (by kernel_rfl) (by kernel_rfl) ?_
        repeat (first | go_big_quiet_step (fail))
        refine wpQuiet_nil ?_
        refine Tin.reg_one 14 _ rfl (by kernel_rfl) ?_
        try simp only [List.getElem_toArray, List.getElem_cons_succ, List.getElem_cons_zero]
        go_wp2_with ((with_reducible refine wpl_store_row rtV ?_ (.tmp 8) (.tmp 83) ?_ (v3.heap.size) ?_ (vrow t c A9 l.length d9) ?_ (vrow_one _ _ _ _ _) 27 ?_ _ ?_ R8.out ?_); rfl; rfl; rfl; rfl; rfl; rfl; intro v8 hr8 hg8' hs8; (try simp only [Act.put]))
        have hb8 : Below (v3.heap.size) v7 v8 := (Below.refl _ _).grown hg8' SZ (fun k hk => by cases hk; omega)
        have HA9n : Sl .u8 v8 A9 l := (HA9.out.kept hg8' (ne_own (fun q hq => by have h1 := UB9 q hq; omega))).sl'.2
        refine ⟨v3.heap.size, hb8, Nat.le_refl _, ?_⟩
        replace SN := Lib.hid (SN.out.trans hb8)
        clear HA7 R8 HA9
        replace R3 := Lib.hid ((SN.out.block _ (row_lt SN_R3.out)).trans SN_R3.out)
        replace HS := Lib.hid (SN_HS.out.keep SN.out)
        replace HSB := Lib.hid (SN_HSB.out.keep SN.out)
        replace HB := Lib.hid (HB.out.trans (hb8.mono SN_le_HB))
        refine Tin.reg_quiets [15] _ 0 rfl (by simp only [Tin.pick, List.map_cons, List.map_nil, Array.getD_eq_getD_getElem?, List.getElem?_toArray, List.getElem?_cons_zero, List.getElem?_cons_succ, Option.getD_some]; rfl) (by kernel_rfl) (by kernel_rfl) ?_
        repeat (first | go_big_quiet_step (fail))
        refine wpQuiet_nil ?_
        refine Tin.reg_done (by kernel_rfl) ?_
        exact tail _ (v3.heap.size) A9 d9 _ _ _ _ _ _ _ _ _ _ _ _ _ _ _ _ _ _ _ _ _ _ _ _ _ _ _ _ _ _ _ _ _ _ _ _ _ _ _ _ _ _ _ _ _ _ _ _ _ _ _ _ _ _ _ _ _ _ _ _ _ _ _ _ _ _ _ _ _ _ _ _ _ _ _ _ _ _ _ _ _ _ _ _ _ _ _ _ _ _ _ _ _ _ _ _ _ _ _ _ _ _ _ _ _ _ _ _ _ _ _ _ _ _ _ _ _ _ _ _ _ _ _ _ _ _ _ _ _ _ _ _ _ _ _ _ _ _ _ _ _ _ _ _ _ _ _ _ _ _ _ _ _ _ _ _ _ _ _ _ _ _ _ _ _ _ _ _ _ _ _ _ _ R3.out HS.out hr8 HA9n HB.out
    · skip
      subst h2
      have ml : ((BY.length : Int) != c * szT t) = false := by rw [HM5.out]; simp
      have HQS := Lib.hid (HB2.out rfl)
      go_wp2_with fail
      have p0a := p0.1
      have p0b := p0.2
      have LT_R3 : _ < v2.heap.size := row_lt R3.out
      have SZ : v2.heap.size ≤ v2.drew.heap.size := Nat.le_refl _
      have hb := ud' (brefl v2)
      replace R3 := Lib.hid ((hb.block _ (row_lt R3.out)).trans R3.out)
      replace HS := Lib.hid (HS.out.keep hb)
      replace HSB := Lib.hid (HSB.out.keep hb)
      replace HP1 := Lib.hid (HP1.out.keep hb)
      replace HB := Lib.hid (HB.out.trans (hb.mono HB.out.size))
      clear hb
      refine Tin.reg_begin (v2.heap.size) 20 (by rfl) (by kernel_rfl) ?_
      have kt : ∀ p : Bel (v2.heap.size) v2.drew, p.w'.cell? ⟨g3, 0, none⟩ = some (.int .i64 t) := fun p => row_cell ((p.h.block _ LT_R3).trans R3.out) 0 rfl
      have kc : ∀ p : Bel (v2.heap.size) v2.drew, p.w'.cell? ⟨g3, 1, none⟩ = some (.int .i64 c) := fun p => row_cell ((p.h.block _ LT_R3).trans R3.out) 1 rfl
      have kd : ∀ p : Bel (v2.heap.size) v2.drew, p.w'.cell? ⟨g3, 2, none⟩ = some (.slice A l.length cap) := fun p => row_cell ((p.h.block _ LT_R3).trans R3.out) 2 rfl
      refine Tin.reg_quiets [0, 1, 2, 3, 4, 5] _ 14 rfl (by simp only [Tin.pick, List.map_cons, List.map_nil, Array.getD_eq_getD_getElem?, List.getElem?_toArray, List.getElem?_cons_zero, List.getElem?_cons_succ, Option.getD_some]; rfl) (by kernel_rfl) (by kernel_rfl) ?_
      repeat (first | go_big_quiet_step (fail))
      refine wpQuiet_nil ?_
      clear kt kc kd
      refine Tin.reg_one 6 _ rfl (by kernel_rfl) ?_
      try simp only [List.getElem_toArray, List.getElem_cons_succ, List.getElem_cons_zero]
      go_wp2_with fail
      refine (size_any t _).mono ?_
      rintro e v3 ⟨rfl, hv⟩
      go_wp2_with fail
      refine ⟨v2.heap.size, hv.mono SZ, Nat.le_refl _, ?_⟩
      replace R3 := Lib.hid ((hv.block _ (row_lt R3.out)).trans R3.out)
      replace HS := Lib.hid (HS.out.keep hv)
      replace HSB := Lib.hid (HSB.out.keep hv)
      replace HP1 := Lib.hid (HP1.out.keep hv)
      replace HB := Lib.hid (HB.out.trans (hv.mono HB.out.size))
      replace SZ := Nat.le_trans SZ hv.size
      clear hv
      have kt : ∀ p : Bel (v2.heap.size) v3, p.w'.cell? ⟨g3, 0, none⟩ = some (.int .i64 t) := fun p => row_cell ((p.h.block _ LT_R3).trans R3.out) 0 rfl
      have kc : ∀ p : Bel (v2.heap.size) v3, p.w'.cell? ⟨g3, 1, none⟩ = some (.int .i64 c) := fun p => row_cell ((p.h.block _ LT_R3).trans R3.out) 1 rfl
      have kd : ∀ p : Bel (v2.heap.size) v3, p.w'.cell? ⟨g3, 2, none⟩ = some (.slice A l.length cap) := fun p => row_cell ((p.h.block _ LT_R3).trans R3.out) 2 rfl
      refine Tin.reg_quiets [7, 8, 9, 10, 11, 12, 13, 14, 15] _ 4 rfl (by simp only [Tin.pick, List.map_cons, List.map_nil, Array.getD_eq_getD_getElem?, List.getElem?_toArray, List.getElem?_cons_zero, List.getElem?_cons_succ, Option.getD_some]; rfl) (by kernel_rfl) (by kernel_rfl) ?_
      repeat (first | go_big_quiet_step (fail))
      refine wpQuiet_nil ?_
      clear kt kc kd
      refine Tin.reg_one 16 _ rfl (by kernel_rfl) ?_
      try simp only [List.getElem_toArray, List.getElem_cons_succ, List.getElem_cons_zero]
      go_wp2_with fail
      refine (same_any A1 A BY l c1 cap _ HP1.out.sl'.2 HS.out (by have := HLB.out; omega) (by omega)).mono ?_
      rintro e v4 ⟨rfl, hv⟩
      rw [show decide (BY = l) = true by rw [HQS.out]; simp]
      go_wp2_with fail
      refine ⟨v2.heap.size, hv.mono SZ, Nat.le_refl _, ?_⟩
      replace R3 := Lib.hid ((hv.block _ (row_lt R3.out)).trans R3.out)
      replace HS := Lib.hid (HS.out.keep hv)
      replace HSB := Lib.hid (HSB.out.keep hv)
      replace HP1 := Lib.hid (HP1.out.keep hv)
      replace HB := Lib.hid (HB.out.trans (hv.mono HB.out.size))
      replace SZ := Nat.le_trans SZ hv.size
      clear hv
      refine Tin.reg_quiets [17, 18, 19] _ 0 rfl (by simp only [Tin.pick, List.map_cons, List.map_nil, Array.getD_eq_getD_getElem?, List.getElem?_toArray, List.getElem?_cons_zero, List.getElem?_cons_succ, Option.getD_some]; rfl) (by kernel_rfl) (by kernel_rfl) ?_
      repeat (first | go_big_quiet_step (fail))
      refine wpQuiet_nil ?_
      refine Tin.reg_done (by kernel_rfl) ?_
      go_wp2_with fail
      rename_i K hK
      have HK := Lib.hid hK
      clear hK
      have tail : ∀ (W : World) (g8 : Nat) (A8 : Option Addr) (c8 : Nat) (u0 u1 u2 u4 u5 u7 u10 u11 u12 u13 u14 u15 u16 u17 u18 u19 u20 u21 u22 u23 u24 u25 u26 u27 u28 u29 u30 u31 u32 u33 u34 u35 u36 u37 u38 u39 u40 u41 u42 u43 u44 u45 u46 u47 u48 u49 u50 u51 u52 u53 u54 u55 u56 u57 u58 u59 u60 u61 u62 u63 u64 u65 u66 u67 u68 u69 u70 u71 u72 u73 u74 u75 u76 u77 u78 u79 u80 u81 u82 u83 u84 u85 u86 u87 u88 u89 u90 u91 u92 u93 u94 u95 u96 u97 u98 u99 u100 u101 u102 u103 u104 u105 u106 u107 u108 u109 u110 u111 u112 u113 u114 u115 u116 u117 u118 u119 u120 u121 u122 u123 u124 u125 u126 u127 u128 u129 u130 u131 u132 u133 u134 u135 u136 u137 u138 u139 u140 u141 u142 u143 u144 u145 u146 u147 u148 u149 u150 u151 u152 u153 u154 u155 u156 u157 u158 u159 u160 u161 u162 u163 u164 u165 u166 u167 u168 u169 u170 u171 u172 u173 u174 u175 u176 : Value), W.heap[g3]? = some (.cells (vrow t c A l.length cap) 27 (0, 0)) → Sl .u8 W A l → W.heap[g8]? = some (.cells (vrow t c A8 l.length c8) 27 (0, 0)) → Sl .u8 W A8 l → Below w.heap.size w W → K { tmps := #[u0, u1, u2, .pointer (some ⟨g3, 0, none⟩), u4, u5, .bool false, u7, .pointer (some ⟨g8, 0, none⟩), .bool true, u10, u11, u12, u13, u14, u15, u16, u17, u18, u19, u20, u21, u22, u23, u24, u25, u26, u27, u28, u29, u30, u31, u32, u33, u34, u35, u36, u37, u38, u39, u40, u41, u42, u43, u44, u45, u46, u47, u48, u49, u50, u51, u52, u53, u54, u55, u56, u57, u58, u59, u60, u61, u62, u63, u64, u65, u66, u67, u68, u69, u70, u71, u72, u73, u74, u75, u76, u77, u78, u79, u80, u81, u82, u83, u84, u85, u86, u87, u88, u89, u90, u91, u92, u93, u94, u95, u96, u97, u98, u99, u100, u101, u102, u103, u104, u105, u106, u107, u108, u109, u110, u111, u112, u113, u114, u115, u116, u117, u118, u119, u120, u121, u122, u123, u124, u125, u126, u127, u128, u129, u130, u131, u132, u133, u134, u135, u136, u137, u138, u139, u140, u141, u142, u143, u144, u145, u146, u147, u148, u149, u150, u151, u152, u153, u154, u155, u156, u157, u158, u159, u160, u161, u162, u163, u164, u165, u166, u167, u168, u169, u170, u171, u172, u173, u174, u175, u176], defers := [] } W := by
        intro W g8 A8 c8 u0 u1 u2 u4 u5 u7 u10 u11 u12 u13 u14 u15 u16 u17 u18 u19 u20 u21 u22 u23 u24 u25 u26 u27 u28 u29 u30 u31 u32 u33 u34 u35 u36 u37 u38 u39 u40 u41 u42 u43 u44 u45 u46 u47 u48 u49 u50 u51 u52 u53 u54 u55 u56 u57 u58 u59 u60 u61 u62 u63 u64 u65 u66 u67 u68 u69 u70 u71 u72 u73 u74 u75 u76 u77 u78 u79 u80 u81 u82 u83 u84 u85 u86 u87 u88 u89 u90 u91 u92 u93 u94 u95 u96 u97 u98 u99 u100 u101 u102 u103 u104 u105 u106 u107 u108 u109 u110 u111 u112 u113 u114 u115 u116 u117 u118 u119 u120 u121 u122 u123 u124 u125 u126 u127 u128 u129 u130 u131 u132 u133 u134 u135 u136 u137 u138 u139 u140 u141 u142 u143 u144 u145 u146 u147 u148 u149 u150 u151 u152 u153 u154 u155 u156 u157 u158 u159 u160 u161 u162 u163 u164 u165 u166 u167 u168 u169 u170 u171 u172 u173 u174 u175 u176 hr3 hs hr8 hs8 hbw
        clear HB R3 HS HSB HP1 HQS
        have R3 := Lib.hid hr3
        have HS := Lib.hid hs
        have R8 := Lib.hid hr8
        have HA8 := Lib.hid hs8
        have HB := Lib.hid hbw
        clear hr3 hs hr8 hs8 hbw
        refine HK.out _ _ ?_
        clear HK
        go_wp2_with (first | ((with_reducible refine wpl_load_row rtV ?_ (.tmp 3) ?_ (g3) ?_ 27 (vrow t c A l.length cap) ?_ R3.out ?_); rfl; rfl; rfl; rfl; simp only [Act.put, List.setIfInBounds_toArray, List.set_cons_succ, List.set_cons_zero]) | ((with_reducible refine wpl_load_row rtV ?_ (.tmp 8) ?_ (g8) ?_ 27 (vrow t c A8 l.length c8) ?_ R8.out ?_); rfl; rfl; rfl; rfl; simp only [Act.put, List.setIfInBounds_toArray, List.set_cons_succ, List.set_cons_zero]))
        have HQ := Lib.hid (vsame_any t c A l cap t c A8 l c8 W HS.out HA8.out HBY.out HBY.out)
        rw [smV_rf] at HQ
        refine (HQ.out).mono ?_
        rintro e x1 ⟨rfl, hb⟩
        replace R3 := Lib.hid ((hb.block _ (row_lt R3.out)).trans R3.out)
        replace HS := Lib.hid (HS.out.keep hb)
        replace R8 := Lib.hid ((hb.block _ (row_lt R8.out)).trans R8.out)
        replace HA8 := Lib.hid (HA8.out.keep hb)
        replace HB := Lib.hid (HB.out.trans (hb.mono HB.out.size))
        clear hb
        clear HQ R8 HA8
        go_wp2_with ((with_reducible refine wpl_load_row rtV ?_ (.tmp 3) ?_ (g3) ?_ 27 (vrow t c A l.length cap) ?_ R3.out ?_); rfl; rfl; rfl; rfl; simp only [Act.put, List.setIfInBounds_toArray, List.set_cons_succ, List.set_cons_zero])
        refine (nums_any t c A l cap _ HS.out (by omega) HBY.out).mono ?_
        rintro e x2 ⟨A10, c10, rfl, hx2_0, hb⟩
        replace R3 := Lib.hid ((hb.block _ (row_lt R3.out)).trans R3.out)
        replace HS := Lib.hid (HS.out.keep hb)
        replace HB := Lib.hid (HB.out.trans (hb.mono HB.out.size))
        have HN10 := Lib.hid hx2_0
        clear hx2_0 hb
        cases hnum : numB t c l with
        | false =>
          clear hnum
          clear HN10
          generalize numL t c l = NL
          go_wp2_with ((with_reducible refine wpl_load_row rtV ?_ (.tmp 3) ?_ (g3) ?_ 27 (vrow t c A l.length cap) ?_ R3.out ?_); rfl; rfl; rfl; rfl; simp only [Act.put, List.setIfInBounds_toArray, List.set_cons_succ, List.set_cons_zero])
          refine (rats_any t c A l cap _ HS.out (by omega) HBY.out).mono ?_
          rintro e x3 ⟨A14, c14, rfl, hx3_0, hb⟩
          replace R3 := Lib.hid ((hb.block _ (row_lt R3.out)).trans R3.out)
          replace HS := Lib.hid (HS.out.keep hb)
          replace HB := Lib.hid (HB.out.trans (hb.mono HB.out.size))
          have HR14 := Lib.hid hx3_0
          clear hx3_0 hb
          cases hrat : ratB t c l with
          | false =>
            clear hrat
            clear HR14
            generalize ratN t c l = RN
            go_wp2_with ((with_reducible refine wpl_load_row rtV ?_ (.tmp 3) ?_ (g3) ?_ 27 (vrow t c A l.length cap) ?_ R3.out ?_); rfl; rfl; rfl; rfl; simp only [Act.put, List.setIfInBounds_toArray, List.set_cons_succ, List.set_cons_zero])
            refine (text_any t c A l cap _ HS.out (by omega) HBY.out hlc).mono ?_
            rintro e x4 ⟨rfl, hb⟩
            replace R3 := Lib.hid ((hb.block _ (row_lt R3.out)).trans R3.out)
            replace HS := Lib.hid (HS.out.keep hb)
            replace HB := Lib.hid (HB.out.trans (hb.mono HB.out.size))
            clear hb
            cases htex : texB t c l with
            | false =>
              clear htex
              generalize texS t c l = TS
              go_wp2_with fail
              refine (awake_any _).mono ?_
              rintro e x5 ⟨rfl, hb⟩
              replace R3 := Lib.hid ((hb.block _ (row_lt R3.out)).trans R3.out)
              replace HS := Lib.hid (HS.out.keep hb)
              replace HB := Lib.hid (HB.out.trans (hb.mono HB.out.size))
              clear hb
              go_wp2_with fail
              go_ret
              exact ⟨rfl, HB.out⟩
            | true =>
              obtain ⟨n0, n1, n2, n3⟩ := tex_back HBY.out htex
              have HON := Lib.hid (fun (W : World) => otext_any (texS t c l) W (by omega))
              rw [n1, n2, on_t, on_t, n3, ← n0] at HON
              have nn : (((texS t c l).size : Int) != c - 1) = false := by rw [bne_eq_false_iff_eq]; omega
              have nc : 1 ≤ c := m3
              clear n0 n1 n2 n3 htex
              generalize texS t c l = TS at *
              go_wp2_with fail
              refine (HON.out _).mono ?_
              rintro e x5 ⟨A20, c20, rfl, hx5_0, hb⟩
              replace R3 := Lib.hid ((hb.block _ (row_lt R3.out)).trans R3.out)
              replace HS := Lib.hid (HS.out.keep hb)
              replace HB := Lib.hid (HB.out.trans (hb.mono HB.out.size))
              have HXtex := Lib.hid hx5_0
              clear hx5_0 hb
              simp only [vrow]
              clear HON
              have hb := (ba (brefl x5) (.cells (vrow t c A20 l.length c20) 27))
              have R20 := (alloc1 x5 (.cells (vrow t c A20 l.length c20) 27)).1
              replace R3 := Lib.hid ((hb.block _ (row_lt R3.out)).trans R3.out)
              replace HS := Lib.hid (HS.out.keep hb)
              replace HXtex := Lib.hid (HXtex.out.keep hb)
              replace HB := Lib.hid (HB.out.trans (hb.mono HB.out.size))
              clear hb
              replace R20 := Lib.hid R20
              go_wp2_with (first | ((with_reducible refine wpl_load_row rtV ?_ (.tmp 3) ?_ (g3) ?_ 27 (vrow t c A l.length cap) ?_ R3.out ?_); rfl; rfl; rfl; rfl; simp only [Act.put, List.setIfInBounds_toArray, List.set_cons_succ, List.set_cons_zero]) | ((with_reducible refine wpl_load_row rtV ?_ (.tmp 20) ?_ (x5.heap.size) ?_ 27 (vrow t c A20 l.length c20) ?_ R20.out ?_); rfl; rfl; rfl; rfl; simp only [Act.put, List.setIfInBounds_toArray, List.set_cons_succ, List.set_cons_zero]))
              generalize (x5.alloc (.cells (vrow t c A20 l.length c20) 27)) = x6 at *
              have HQ := Lib.hid (vsame_any t c A20 l c20 t c A l cap x6 HXtex.out HS.out HBY.out HBY.out)
              rw [smV_rf] at HQ
              refine (HQ.out).mono ?_
              rintro e x7 ⟨rfl, hb⟩
              replace R3 := Lib.hid ((hb.block _ (row_lt R3.out)).trans R3.out)
              replace HS := Lib.hid (HS.out.keep hb)
              replace HXtex := Lib.hid (HXtex.out.keep hb)
              replace R20 := Lib.hid ((hb.block _ (row_lt R20.out)).trans R20.out)
              replace HB := Lib.hid (HB.out.trans (hb.mono HB.out.size))
              clear hb
              clear HQ R20 HXtex
              have k1 := row_cell (v := .int .i64 c) R3.out 1 rfl
              go_wp2_with fail
              clear k1 nn
              refine (awake_any _).mono ?_
              rintro e x8 ⟨rfl, hb⟩
              replace R3 := Lib.hid ((hb.block _ (row_lt R3.out)).trans R3.out)
              replace HS := Lib.hid (HS.out.keep hb)
              replace HB := Lib.hid (HB.out.trans (hb.mono HB.out.size))
              clear hb
              go_wp2_with fail
              go_ret
              exact ⟨rfl, HB.out⟩
          | true =>
            obtain ⟨n1, n2, n3⟩ := rat_back HBY.out hrat
            have HON := Lib.hid (fun (W : World) (A : Option Addr) (c2 : Nat) (h : SlV W A (iv (ratL t c l))) => orat_any t A (ratN t c l) c2 (ratL t c l) W h (ratL_len t c l) (by have := ratN_le (t := t) (c := c) (l := l); omega))
            rw [n1, n2, on_t, on_t, n3] at HON
            have nn : (((ratN t c l : Nat) : Int) != c) = false := by rw [n3]; simp
            clear n1 n2 n3 hrat
            generalize ratL t c l = RL at *
            generalize ratN t c l = RN at *
            have k0 := row_cell (v := .int .i64 t) R3.out 0 rfl
            go_wp2_with fail
            clear k0
            refine (HON.out _ _ _ HR14.out).mono ?_
            rintro e x4 ⟨A16, c16, rfl, hx4_0, hb⟩
            replace R3 := Lib.hid ((hb.block _ (row_lt R3.out)).trans R3.out)
            replace HS := Lib.hid (HS.out.keep hb)
            replace HR14 := Lib.hid (HR14.out.keep hb)
            replace HB := Lib.hid (HB.out.trans (hb.mono HB.out.size))
            have HXrat := Lib.hid hx4_0
            clear hx4_0 hb
            simp only [vrow]
            clear HON
            have hb := (ba (brefl x4) (.cells (vrow t c A16 l.length c16) 27))
            have R16 := (alloc1 x4 (.cells (vrow t c A16 l.length c16) 27)).1
            replace R3 := Lib.hid ((hb.block _ (row_lt R3.out)).trans R3.out)
            replace HS := Lib.hid (HS.out.keep hb)
            replace HR14 := Lib.hid (HR14.out.keep hb)
            replace HXrat := Lib.hid (HXrat.out.keep hb)
            replace HB := Lib.hid (HB.out.trans (hb.mono HB.out.size))
            clear hb
            replace R16 := Lib.hid R16
            go_wp2_with (first | ((with_reducible refine wpl_load_row rtV ?_ (.tmp 3) ?_ (g3) ?_ 27 (vrow t c A l.length cap) ?_ R3.out ?_); rfl; rfl; rfl; rfl; simp only [Act.put, List.setIfInBounds_toArray, List.set_cons_succ, List.set_cons_zero]) | ((with_reducible refine wpl_load_row rtV ?_ (.tmp 16) ?_ (x4.heap.size) ?_ 27 (vrow t c A16 l.length c16) ?_ R16.out ?_); rfl; rfl; rfl; rfl; simp only [Act.put, List.setIfInBounds_toArray, List.set_cons_succ, List.set_cons_zero]))
            generalize (x4.alloc (.cells (vrow t c A16 l.length c16) 27)) = x5 at *
            have HQ := Lib.hid (vsame_any t c A16 l c16 t c A l cap x5 HXrat.out.sl'.2 HS.out HBY.out HBY.out)
            rw [smV_rf] at HQ
            refine (HQ.out).mono ?_
            rintro e x6 ⟨rfl, hb⟩
            replace R3 := Lib.hid ((hb.block _ (row_lt R3.out)).trans R3.out)
            replace HS := Lib.hid (HS.out.keep hb)
            replace HR14 := Lib.hid (HR14.out.keep hb)
            replace HXrat := Lib.hid (HXrat.out.keep hb)
            replace R16 := Lib.hid ((hb.block _ (row_lt R16.out)).trans R16.out)
            replace HB := Lib.hid (HB.out.trans (hb.mono HB.out.size))
            clear hb
            clear HQ R16 HXrat
            have k1 := row_cell (v := .int .i64 c) R3.out 1 rfl
            go_wp2_with ((with_reducible refine wpl_load_row rtV ?_ (.tmp 3) ?_ (g3) ?_ 27 (vrow t c A l.length cap) ?_ R3.out ?_); rfl; rfl; rfl; rfl; simp only [Act.put, List.setIfInBounds_toArray, List.set_cons_succ, List.set_cons_zero])
            clear k1 nn
            refine (text_any t c A l cap _ HS.out (by omega) HBY.out hlc).mono ?_
            rintro e x7 ⟨rfl, hb⟩
            replace R3 := Lib.hid ((hb.block _ (row_lt R3.out)).trans R3.out)
            replace HS := Lib.hid (HS.out.keep hb)
            replace HR14 := Lib.hid (HR14.out.keep hb)
            replace HB := Lib.hid (HB.out.trans (hb.mono HB.out.size))
            clear hb
            cases htex : texB t c l with
            | false =>
              clear htex
              generalize texS t c l = TS
              go_wp2_with fail
              refine (awake_any _).mono ?_
              rintro e x8 ⟨rfl, hb⟩
              replace R3 := Lib.hid ((hb.block _ (row_lt R3.out)).trans R3.out)
              replace HS := Lib.hid (HS.out.keep hb)
              replace HR14 := Lib.hid (HR14.out.keep hb)
              replace HB := Lib.hid (HB.out.trans (hb.mono HB.out.size))
              clear hb
              go_wp2_with fail
              go_ret
              exact ⟨rfl, HB.out⟩
            | true =>
              obtain ⟨n0, n1, n2, n3⟩ := tex_back HBY.out htex
              have HON := Lib.hid (fun (W : World) => otext_any (texS t c l) W (by omega))
              rw [n1, n2, on_t, on_t, n3, ← n0] at HON
              have nn : (((texS t c l).size : Int) != c - 1) = false := by rw [bne_eq_false_iff_eq]; omega
              have nc : 1 ≤ c := m3
              clear n0 n1 n2 n3 htex
              generalize texS t c l = TS at *
              go_wp2_with fail
              refine (HON.out _).mono ?_
              rintro e x8 ⟨A20, c20, rfl, hx8_0, hb⟩
              replace R3 := Lib.hid ((hb.block _ (row_lt R3.out)).trans R3.out)
              replace HS := Lib.hid (HS.out.keep hb)
              replace HR14 := Lib.hid (HR14.out.keep hb)
              replace HB := Lib.hid (HB.out.trans (hb.mono HB.out.size))
              have HXtex := Lib.hid hx8_0
              clear hx8_0 hb
              simp only [vrow]
              clear HON
              have hb := (ba (brefl x8) (.cells (vrow t c A20 l.length c20) 27))
              have R20 := (alloc1 x8 (.cells (vrow t c A20 l.length c20) 27)).1
              replace R3 := Lib.hid ((hb.block _ (row_lt R3.out)).trans R3.out)
              replace HS := Lib.hid (HS.out.keep hb)
              replace HR14 := Lib.hid (HR14.out.keep hb)
              replace HXtex := Lib.hid (HXtex.out.keep hb)
              replace HB := Lib.hid (HB.out.trans (hb.mono HB.out.size))
              clear hb
              replace R20 := Lib.hid R20
              go_wp2_with (first | ((with_reducible refine wpl_load_row rtV ?_ (.tmp 3) ?_ (g3) ?_ 27 (vrow t c A l.length cap) ?_ R3.out ?_); rfl; rfl; rfl; rfl; simp only [Act.put, List.setIfInBounds_toArray, List.set_cons_succ, List.set_cons_zero]) | ((with_reducible refine wpl_load_row rtV ?_ (.tmp 20) ?_ (x8.heap.size) ?_ 27 (vrow t c A20 l.length c20) ?_ R20.out ?_); rfl; rfl; rfl; rfl; simp only [Act.put, List.setIfInBounds_toArray, List.set_cons_succ, List.set_cons_zero]))
              generalize (x8.alloc (.cells (vrow t c A20 l.length c20) 27)) = x9 at *
              have HQ := Lib.hid (vsame_any t c A20 l c20 t c A l cap x9 HXtex.out HS.out HBY.out HBY.out)
              rw [smV_rf] at HQ
              refine (HQ.out).mono ?_
              rintro e x10 ⟨rfl, hb⟩
              replace R3 := Lib.hid ((hb.block _ (row_lt R3.out)).trans R3.out)
              replace HS := Lib.hid (HS.out.keep hb)
              replace HR14 := Lib.hid (HR14.out.keep hb)
              replace HXtex := Lib.hid (HXtex.out.keep hb)
              replace R20 := Lib.hid ((hb.block _ (row_lt R20.out)).trans R20.out)
              replace HB := Lib.hid (HB.out.trans (hb.mono HB.out.size))
              clear hb
              clear HQ R20 HXtex
              have k1 := row_cell (v := .int .i64 c) R3.out 1 rfl
              go_wp2_with fail
              clear k1 nn
              refine (awake_any _).mono ?_
              rintro e x11 ⟨rfl, hb⟩
              replace R3 := Lib.hid ((hb.block _ (row_lt R3.out)).trans R3.out)
              replace HS := Lib.hid (HS.out.keep hb)
              replace HR14 := Lib.hid (HR14.out.keep hb)
              replace HB := Lib.hid (HB.out.trans (hb.mono HB.out.size))
              clear hb
              go_wp2_with fail
              go_ret
              exact ⟨rfl, HB.out⟩
        | true =>
          obtain ⟨n1, n2, n3⟩ := num_back HBY.out hnum
          have HON := Lib.hid (fun (W : World) (A : Option Addr) (c2 : Nat) (h : Sl .i64 W A (numL t c l)) => onum_any t A (numL t c l) c2 W h (by omega))
          rw [n1, n2, on_t, on_t, n3] at HON
          have nn : (((numL t c l).length : Int) != c) = false := by rw [n3]; simp
          clear n1 n2 n3 hnum
          generalize numL t c l = NL at *
          have k0 := row_cell (v := .int .i64 t) R3.out 0 rfl
          go_wp2_with fail
          clear k0
          refine (HON.out _ _ _ HN10.out).mono ?_
          rintro e x3 ⟨A12, c12, rfl, hx3_0, hb⟩
          replace R3 := Lib.hid ((hb.block _ (row_lt R3.out)).trans R3.out)
          replace HS := Lib.hid (HS.out.keep hb)
          replace HN10 := Lib.hid (HN10.out.keep hb)
          replace HB := Lib.hid (HB.out.trans (hb.mono HB.out.size))
          have HXnum := Lib.hid hx3_0
          clear hx3_0 hb
          simp only [vrow]
          clear HON
          have hb := (ba (brefl x3) (.cells (vrow t c A12 l.length c12) 27))
          have R12 := (alloc1 x3 (.cells (vrow t c A12 l.length c12) 27)).1
          replace R3 := Lib.hid ((hb.block _ (row_lt R3.out)).trans R3.out)
          replace HS := Lib.hid (HS.out.keep hb)
          replace HN10 := Lib.hid (HN10.out.keep hb)
          replace HXnum := Lib.hid (HXnum.out.keep hb)
          replace HB := Lib.hid (HB.out.trans (hb.mono HB.out.size))
          clear hb
          replace R12 := Lib.hid R12
          go_wp2_with (first | ((with_reducible refine wpl_load_row rtV ?_ (.tmp 3) ?_ (g3) ?_ 27 (vrow t c A l.length cap) ?_ R3.out ?_); rfl; rfl; rfl; rfl; simp only [Act.put, List.setIfInBounds_toArray, List.set_cons_succ, List.set_cons_zero]) | ((with_reducible refine wpl_load_row rtV ?_ (.tmp 12) ?_ (x3.heap.size) ?_ 27 (vrow t c A12 l.length c12) ?_ R12.out ?_); rfl; rfl; rfl; rfl; simp only [Act.put, List.setIfInBounds_toArray, List.set_cons_succ, List.set_cons_zero]))
          generalize (x3.alloc (.cells (vrow t c A12 l.length c12) 27)) = x4 at *
          have HQ := Lib.hid (vsame_any t c A12 l c12 t c A l cap x4 HXnum.out.sl'.2 HS.out HBY.out HBY.out)
          rw [smV_rf] at HQ
          refine (HQ.out).mono ?_
          rintro e x5 ⟨rfl, hb⟩
          replace R3 := Lib.hid ((hb.block _ (row_lt R3.out)).trans R3.out)
          replace HS := Lib.hid (HS.out.keep hb)
          replace HN10 := Lib.hid (HN10.out.keep hb)
          replace HXnum := Lib.hid (HXnum.out.keep hb)
          replace R12 := Lib.hid ((hb.block _ (row_lt R12.out)).trans R12.out)
          replace HB := Lib.hid (HB.out.trans (hb.mono HB.out.size))
          clear hb
          clear HQ R12 HXnum
          have k1 := row_cell (v := .int .i64 c) R3.out 1 rfl
          go_wp2_with ((with_reducible refine wpl_load_row rtV ?_ (.tmp 3) ?_ (g3) ?_ 27 (vrow t c A l.length cap) ?_ R3.out ?_); rfl; rfl; rfl; rfl; simp only [Act.put, List.setIfInBounds_toArray, List.set_cons_succ, List.set_cons_zero])
          clear k1 nn
          refine (rats_any t c A l cap _ HS.out (by omega) HBY.out).mono ?_
          rintro e x6 ⟨A14, c14, rfl, hx6_0, hb⟩
          replace R3 := Lib.hid ((hb.block _ (row_lt R3.out)).trans R3.out)
          replace HS := Lib.hid (HS.out.keep hb)
          replace HN10 := Lib.hid (HN10.out.keep hb)
          replace HB := Lib.hid (HB.out.trans (hb.mono HB.out.size))
          have HR14 := Lib.hid hx6_0
          clear hx6_0 hb
          cases hrat : ratB t c l with
          | false =>
            clear hrat
            clear HR14
            generalize ratN t c l = RN
            go_wp2_with ((with_reducible refine wpl_load_row rtV ?_ (.tmp 3) ?_ (g3) ?_ 27 (vrow t c A l.length cap) ?_ R3.out ?_); rfl; rfl; rfl; rfl; simp only [Act.put, List.setIfInBounds_toArray, List.set_cons_succ, List.set_cons_zero])
            refine (text_any t c A l cap _ HS.out (by omega) HBY.out hlc).mono ?_
            rintro e x7 ⟨rfl, hb⟩
            replace R3 := Lib.hid ((hb.block _ (row_lt R3.out)).trans R3.out)
            replace HS := Lib.hid (HS.out.keep hb)
            replace HN10 := Lib.hid (HN10.out.keep hb)
            replace HB := Lib.hid (HB.out.trans (hb.mono HB.out.size))
            clear hb
            cases htex : texB t c l with
            | false =>
              clear htex
              generalize texS t c l = TS
              go_wp2_with fail
              refine (awake_any _).mono ?_
              rintro e x8 ⟨rfl, hb⟩
              replace R3 := Lib.hid ((hb.block _ (row_lt R3.out)).trans R3.out)
              replace HS := Lib.hid (HS.out.keep hb)
              replace HN10 := Lib.hid (HN10.out.keep hb)
              replace HB := Lib.hid (HB.out.trans (hb.mono HB.out.size))
              clear hb
              go_wp2_with fail
              go_ret
              exact ⟨rfl, HB.out⟩
            | true =>
              obtain ⟨n0, n1, n2, n3⟩ := tex_back HBY.out htex
              have HON := Lib.hid (fun (W : World) => otext_any (texS t c l) W (by omega))
              rw [n1, n2, on_t, on_t, n3, ← n0] at HON
              have nn : (((texS t c l).size : Int) != c - 1) = false := by rw [bne_eq_false_iff_eq]; omega
              have nc : 1 ≤ c := m3
              clear n0 n1 n2 n3 htex
              generalize texS t c l = TS at *
              go_wp2_with fail
              refine (HON.out _).mono ?_
              rintro e x8 ⟨A20, c20, rfl, hx8_0, hb⟩
              replace R3 := Lib.hid ((hb.block _ (row_lt R3.out)).trans R3.out)
              replace HS := Lib.hid (HS.out.keep hb)
              replace HN10 := Lib.hid (HN10.out.keep hb)
              replace HB := Lib.hid (HB.out.trans (hb.mono HB.out.size))
              have HXtex := Lib.hid hx8_0
              clear hx8_0 hb
              simp only [vrow]
              clear HON
              have hb := (ba (brefl x8) (.cells (vrow t c A20 l.length c20) 27))
              have R20 := (alloc1 x8 (.cells (vrow t c A20 l.length c20) 27)).1
              replace R3 := Lib.hid ((hb.block _ (row_lt R3.out)).trans R3.out)
              replace HS := Lib.hid (HS.out.keep hb)
              replace HN10 := Lib.hid (HN10.out.keep hb)
              replace HXtex := Lib.hid (HXtex.out.keep hb)
              replace HB := Lib.hid (HB.out.trans (hb.mono HB.out.size))
              clear hb
              replace R20 := Lib.hid R20
              go_wp2_with (first | ((with_reducible refine wpl_load_row rtV ?_ (.tmp 3) ?_ (g3) ?_ 27 (vrow t c A l.length cap) ?_ R3.out ?_); rfl; rfl; rfl; rfl; simp only [Act.put, List.setIfInBounds_toArray, List.set_cons_succ, List.set_cons_zero]) | ((with_reducible refine wpl_load_row rtV ?_ (.tmp 20) ?_ (x8.heap.size) ?_ 27 (vrow t c A20 l.length c20) ?_ R20.out ?_); rfl; rfl; rfl; rfl; simp only [Act.put, List.setIfInBounds_toArray, List.set_cons_succ, List.set_cons_zero]))
              generalize (x8.alloc (.cells (vrow t c A20 l.length c20) 27)) = x9 at *
              have HQ := Lib.hid (vsame_any t c A20 l c20 t c A l cap x9 HXtex.out HS.out HBY.out HBY.out)
              rw [smV_rf] at HQ
              refine (HQ.out).mono ?_
              rintro e x10 ⟨rfl, hb⟩
              replace R3 := Lib.hid ((hb.block _ (row_lt R3.out)).trans R3.out)
              replace HS := Lib.hid (HS.out.keep hb)
              replace HN10 := Lib.hid (HN10.out.keep hb)
              replace HXtex := Lib.hid (HXtex.out.keep hb)
              replace R20 := Lib.hid ((hb.block _ (row_lt R20.out)).trans R20.out)
              replace HB := Lib.hid (HB.out.trans (hb.mono HB.out.size))
              clear hb
              clear HQ R20 HXtex
              have k1 := row_cell (v := .int .i64 c) R3.out 1 rfl
              go_wp2_with fail
              clear k1 nn
              refine (awake_any _).mono ?_
              rintro e x11 ⟨rfl, hb⟩
              replace R3 := Lib.hid ((hb.block _ (row_lt R3.out)).trans R3.out)
              replace HS := Lib.hid (HS.out.keep hb)
              replace HN10 := Lib.hid (HN10.out.keep hb)
              replace HB := Lib.hid (HB.out.trans (hb.mono HB.out.size))
              clear hb
              go_wp2_with fail
              go_ret
              exact ⟨rfl, HB.out⟩
          | true =>
            obtain ⟨n1, n2, n3⟩ := rat_back HBY.out hrat
            have HON := Lib.hid (fun (W : World) (A : Option Addr) (c2 : Nat) (h : SlV W A (iv (ratL t c l))) => orat_any t A (ratN t c l) c2 (ratL t c l) W h (ratL_len t c l) (by have := ratN_le (t := t) (c := c) (l := l); omega))
            rw [n1, n2, on_t, on_t, n3] at HON
            have nn : (((ratN t c l : Nat) : Int) != c) = false := by rw [n3]; simp
            clear n1 n2 n3 hrat
            generalize ratL t c l = RL at *
            generalize ratN t c l = RN at *
            have k0 := row_cell (v := .int .i64 t) R3.out 0 rfl
            go_wp2_with fail
            clear k0
            refine (HON.out _ _ _ HR14.out).mono ?_
            rintro e x7 ⟨A16, c16, rfl, hx7_0, hb⟩
            replace R3 := Lib.hid ((hb.block _ (row_lt R3.out)).trans R3.out)
            replace HS := Lib.hid (HS.out.keep hb)
            replace HN10 := Lib.hid (HN10.out.keep hb)
            replace HR14 := Lib.hid (HR14.out.keep hb)
            replace HB := Lib.hid (HB.out.trans (hb.mono HB.out.size))
            have HXrat := Lib.hid hx7_0
            clear hx7_0 hb
            simp only [vrow]
            clear HON
            have hb := (ba (brefl x7) (.cells (vrow t c A16 l.length c16) 27))
            have R16 := (alloc1 x7 (.cells (vrow t c A16 l.length c16) 27)).1
            replace R3 := Lib.hid ((hb.block _ (row_lt R3.out)).trans R3.out)
            replace HS := Lib.hid (HS.out.keep hb)
            replace HN10 := Lib.hid (HN10.out.keep hb)
            replace HR14 := Lib.hid (HR14.out.keep hb)
            replace HXrat := Lib.hid (HXrat.out.keep hb)
            replace HB := Lib.hid (HB.out.trans (hb.mono HB.out.size))
            clear hb
            replace R16 := Lib.hid R16
            go_wp2_with (first | ((with_reducible refine wpl_load_row rtV ?_ (.tmp 3) ?_ (g3) ?_ 27 (vrow t c A l.length cap) ?_ R3.out ?_); rfl; rfl; rfl; rfl; simp only [Act.put, List.setIfInBounds_toArray, List.set_cons_succ, List.set_cons_zero]) | ((with_reducible refine wpl_load_row rtV ?_ (.tmp 16) ?_ (x7.heap.size) ?_ 27 (vrow t c A16 l.length c16) ?_ R16.out ?_); rfl; rfl; rfl; rfl; simp only [Act.put, List.setIfInBounds_toArray, List.set_cons_succ, List.set_cons_zero]))
            generalize (x7.alloc (.cells (vrow t c A16 l.length c16) 27)) = x8 at *
            have HQ := Lib.hid (vsame_any t c A16 l c16 t c A l cap x8 HXrat.out.sl'.2 HS.out HBY.out HBY.out)
            rw [smV_rf] at HQ
            refine (HQ.out).mono ?_
            rintro e x9 ⟨rfl, hb⟩
            replace R3 := Lib.hid ((hb.block _ (row_lt R3.out)).trans R3.out)
            replace HS := Lib.hid (HS.out.keep hb)
            replace HN10 := Lib.hid (HN10.out.keep hb)
            replace HR14 := Lib.hid (HR14.out.keep hb)
            replace HXrat := Lib.hid (HXrat.out.keep hb)
            replace R16 := Lib.hid ((hb.block _ (row_lt R16.out)).trans R16.out)
            replace HB := Lib.hid (HB.out.trans (hb.mono HB.out.size))
            clear hb
            clear HQ R16 HXrat
            have k1 := row_cell (v := .int .i64 c) R3.out 1 rfl
            go_wp2_with ((with_reducible refine wpl_load_row rtV ?_ (.tmp 3) ?_ (g3) ?_ 27 (vrow t c A l.length cap) ?_ R3.out ?_); rfl; rfl; rfl; rfl; simp only [Act.put, List.setIfInBounds_toArray, List.set_cons_succ, List.set_cons_zero])
            clear k1 nn
            refine (text_any t c A l cap _ HS.out (by omega) HBY.out hlc).mono ?_
            rintro e x10 ⟨rfl, hb⟩
            replace R3 := Lib.hid ((hb.block _ (row_lt R3.out)).trans R3.out)
            replace HS := Lib.hid (HS.out.keep hb)
            replace HN10 := Lib.hid (HN10.out.keep hb)
            replace HR14 := Lib.hid (HR14.out.keep hb)
            replace HB := Lib.hid (HB.out.trans (hb.mono HB.out.size))
            clear hb
            cases htex : texB t c l with
            | false =>
              clear htex
              generalize texS t c l = TS
              go_wp2_with fail
              refine (awake_any _).mono ?_
              rintro e x11 ⟨rfl, hb⟩
              replace R3 := Lib.hid ((hb.block _ (row_lt R3.out)).trans R3.out)
              replace HS := Lib.hid (HS.out.keep hb)
              replace HN10 := Lib.hid (HN10.out.keep hb)
              replace HR14 := Lib.hid (HR14.out.keep hb)
              replace HB := Lib.hid (HB.out.trans (hb.mono HB.out.size))
              clear hb
              go_wp2_with fail
              go_ret
              exact ⟨rfl, HB.out⟩
            | true =>
              obtain ⟨n0, n1, n2, n3⟩ := tex_back HBY.out htex
              have HON := Lib.hid (fun (W : World) => otext_any (texS t c l) W (by omega))
              rw [n1, n2, on_t, on_t, n3, ← n0] at HON
              have nn : (((texS t c l).size : Int) != c - 1) = false := by rw [bne_eq_false_iff_eq]; omega
              have nc : 1 ≤ c := m3
              clear n0 n1 n2 n3 htex
              generalize texS t c l = TS at *
              go_wp2_with fail
              refine (HON.out _).mono ?_
              rintro e x11 ⟨A20, c20, rfl, hx11_0, hb⟩
              replace R3 := Lib.hid ((hb.block _ (row_lt R3.out)).trans R3.out)
              replace HS := Lib.hid (HS.out.keep hb)
              replace HN10 := Lib.hid (HN10.out.keep hb)
              replace HR14 := Lib.hid (HR14.out.keep hb)
              replace HB := Lib.hid (HB.out.trans (hb.mono HB.out.size))
              have HXtex := Lib.hid hx11_0
              clear hx11_0 hb
              simp only [vrow]
              clear HON
              have hb := (ba (brefl x11) (.cells (vrow t c A20 l.length c20) 27))
              have R20 := (alloc1 x11 (.cells (vrow t c A20 l.length c20) 27)).1
              replace R3 := Lib.hid ((hb.block _ (row_lt R3.out)).trans R3.out)
              replace HS := Lib.hid (HS.out.keep hb)
              replace HN10 := Lib.hid (HN10.out.keep hb)
              replace HR14 := Lib.hid (HR14.out.keep hb)
              replace HXtex := Lib.hid (HXtex.out.keep hb)
              replace HB := Lib.hid (HB.out.trans (hb.mono HB.out.size))
              clear hb
              replace R20 := Lib.hid R20
              go_wp2_with (first | ((with_reducible refine wpl_load_row rtV ?_ (.tmp 3) ?_ (g3) ?_ 27 (vrow t c A l.length cap) ?_ R3.out ?_); rfl; rfl; rfl; rfl; simp only [Act.put, List.setIfInBounds_toArray, List.set_cons_succ, List.set_cons_zero]) | ((with_reducible refine wpl_load_row rtV ?_ (.tmp 20) ?_ (x11.heap.size) ?_ 27 (vrow t c A20 l.length c20) ?_ R20.out ?_); rfl; rfl; rfl; rfl; simp only [Act.put, List.setIfInBounds_toArray, List.set_cons_succ, List.set_cons_zero]))
              generalize (x11.alloc (.cells (vrow t c A20 l.length c20) 27)) = x12 at *
              have HQ := Lib.hid (vsame_any t c A20 l c20 t c A l cap x12 HXtex.out HS.out HBY.out HBY.out)
              rw [smV_rf] at HQ
              refine (HQ.out).mono ?_
              rintro e x13 ⟨rfl, hb⟩
              replace R3 := Lib.hid ((hb.block _ (row_lt R3.out)).trans R3.out)
              replace HS := Lib.hid (HS.out.keep hb)
              replace HN10 := Lib.hid (HN10.out.keep hb)
              replace HR14 := Lib.hid (HR14.out.keep hb)
              replace HXtex := Lib.hid (HXtex.out.keep hb)
              replace R20 := Lib.hid ((hb.block _ (row_lt R20.out)).trans R20.out)
              replace HB := Lib.hid (HB.out.trans (hb.mono HB.out.size))
              clear hb
              clear HQ R20 HXtex
              have k1 := row_cell (v := .int .i64 c) R3.out 1 rfl
              go_wp2_with fail
              clear k1 nn
              refine (awake_any _).mono ?_
              rintro e x14 ⟨rfl, hb⟩
              replace R3 := Lib.hid ((hb.block _ (row_lt R3.out)).trans R3.out)
              replace HS := Lib.hid (HS.out.keep hb)
              replace HN10 := Lib.hid (HN10.out.keep hb)
              replace HR14 := Lib.hid (HR14.out.keep hb)
              replace HB := Lib.hid (HB.out.trans (hb.mono HB.out.size))
              clear hb
              go_wp2_with fail
              go_ret
              exact ⟨rfl, HB.out⟩
      have SN := Lib.hid (brefl v4)
      have SN_R3 := R3
      have SN_HS := HS
      have SN_HSB := HSB
      have SN_le_HB := HB.out.size
      have LT_R3 : _ < v4.heap.size := row_lt R3.out
      have SZ : v4.heap.size ≤ v4.drew.heap.size := Nat.le_refl _
      have hb := ud' (brefl v4)
      replace R3 := Lib.hid ((hb.block _ (row_lt R3.out)).trans R3.out)
      replace HS := Lib.hid (HS.out.keep hb)
      replace HSB := Lib.hid (HSB.out.keep hb)
      replace HP1 := Lib.hid (HP1.out.keep hb)
      replace HB := Lib.hid (HB.out.trans (hb.mono HB.out.size))
      replace SN := Lib.hid (SN.out.trans (hb.mono SN.out.size))
      clear hb
      refine Tin.reg_begin (v4.heap.size) 16 (by rfl) (by kernel_rfl) ?_
      have kt : ∀ p : Bel (v4.heap.size) v4.drew, p.w'.cell? ⟨g3, 0, none⟩ = some (.int .i64 t) := fun p => row_cell ((p.h.block _ LT_R3).trans R3.out) 0 rfl
      have kc : ∀ p : Bel (v4.heap.size) v4.drew, p.w'.cell? ⟨g3, 1, none⟩ = some (.int .i64 c) := fun p => row_cell ((p.h.block _ LT_R3).trans R3.out) 1 rfl
      refine Tin.reg_quiets [0, 1, 2, 3, 4, 6, 8] _ 9 rfl (by simp only [Tin.pick, List.map_cons, List.map_nil, Array.getD_eq_getD_getElem?, List.getElem?_toArray, List.getElem?_cons_zero, List.getElem?_cons_succ, Option.getD_some]; rfl) (by kernel_rfl) (by kernel_rfl) ?_
      repeat (first | go_big_quiet_step (fail))
      refine wpQuiet_nil ?_
      clear kt kc
      refine Tin.reg_two 5 13 _ _ rfl rfl (by kernel_rfl) ?_ ?_
      · have L5 := SZ
        try simp only [List.getElem_toArray, List.getElem_cons_succ, List.getElem_cons_zero]
        go_wp2_with fail
        refine (own_any A1 BY c1 _ HP1.out.sl'.2 (by have := HLB.out; omega)).mono ?_
        rintro e v5 ⟨A5, d5, rfl, hv5_0, hv⟩
        have H5S := hv.size
        go_wp2_with fail
        refine ⟨v4.heap.size, hv.mono SZ, Nat.le_refl _, ?_⟩
        replace R3 := Lib.hid ((hv.block _ (row_lt R3.out)).trans R3.out)
        replace HS := Lib.hid (HS.out.keep hv)
        replace HSB := Lib.hid (HSB.out.keep hv)
        replace HP1 := Lib.hid (HP1.out.keep hv)
        replace HB := Lib.hid (HB.out.trans (hv.mono HB.out.size))
        replace SN := Lib.hid (SN.out.trans (hv.mono SN.out.size))
        have HA5 := Lib.hid hv5_0
        replace SZ := Nat.le_trans SZ hv.size
        clear hv5_0 hv
        have UB5 : ∀ q, (Value.slice A5 BY.length d5).ownBlock = some q → v4.drew.heap.size ≤ q ∧ q < v5.heap.size := fun q hq => World.ownsRow.lt HA5.out q hq
        refine Tin.reg_two 7 13 _ _ rfl rfl (by kernel_rfl) ?_ ?_
        · try simp only [List.getElem_toArray, List.getElem_cons_succ, List.getElem_cons_zero]
          go_wp2_with (at_builtin; refine Tin.wpl_app bt5 _ rfl (.tmp 78) (.tmp 79) rfl _ _ BY rfl HA5.out Ab lb.length capb lb rfl HSB.out rfl (by have := HLB.out; omega) (by have := HLB.out; omega) H5S ?_; intro z7 v6 ho7 hg7 hw7; rw [HL7.out] at ho7; obtain ⟨A7, d7, rfl⟩ := own_form ho7; have HC7 := Lib.hid (own_cap3 ho7))
          have hb7 : Below (v4.heap.size) v5 v6 := (Below.refl _ _).grown hg7 SZ (fun q hq => Nat.le_trans L5 (UB5 q hq).1)
          refine ⟨v4.heap.size, hb7, Nat.le_refl _, ?_⟩
          replace SZ := Nat.le_trans SZ hb7.size
          have HA7 := Lib.hid ho7.sl'.2
          replace SN := Lib.hid (SN.out.trans hb7)
          clear HP1 HA5
          replace R3 := Lib.hid ((SN.out.block _ (row_lt SN_R3.out)).trans SN_R3.out)
          replace HS := Lib.hid (SN_HS.out.keep SN.out)
          replace HSB := Lib.hid (SN_HSB.out.keep SN.out)
          replace HB := Lib.hid (HB.out.trans (hb7.mono SN_le_HB))
          clear ho7 hg7 hw7 hb7 UB5
          refine Tin.reg_two 9 13 _ _ rfl rfl (by kernel_rfl) ?_ ?_
          · try simp only [List.getElem_toArray, List.getElem_cons_succ, List.getElem_cons_zero]
            go_wp2_with fail
            refine (HOF.out _ _ _ HA7.out HC7.out HL7L.out).mono ?_
            rintro e v7 ⟨A9, d9, rfl, hv7_0, hv⟩
            simp only [vrow, on_t]
            go_wp2_with fail
            refine ⟨v4.heap.size, hv.mono SZ, Nat.le_refl _, ?_⟩
            replace R3 := Lib.hid ((hv.block _ (row_lt R3.out)).trans R3.out)
            replace HS := Lib.hid (HS.out.keep hv)
            replace HSB := Lib.hid (HSB.out.keep hv)
            replace HA7 := Lib.hid (HA7.out.keep hv)
            replace HB := Lib.hid (HB.out.trans (hv.mono HB.out.size))
            replace SN := Lib.hid (SN.out.trans (hv.mono SN.out.size))
            have HA9 := Lib.hid hv7_0
            replace SZ := Nat.le_trans SZ hv.size
            clear hv7_0 hv
            have UB9 : ∀ q, (Value.slice A9 l.length d9).ownBlock = some q → v6.heap.size ≤ q ∧ q < v7.heap.size := fun q hq => World.ownsRow.lt HA9.out q hq
            refine Tin.reg_quiets [10, 11, 12] _ 3 rfl (by simp only [Tin.pick, List.map_cons, List.map_nil, Array.getD_eq_getD_getElem?, List.getElem?_toArray, List.getElem?_cons_zero, List.getElem?_cons_succ, Option.getD_some]; rfl) (by kernel_rfl) (by kernel_rfl) ?_
            repeat (first | go_big_quiet_step (fail))
            refine wpQuiet_nil ?_
            refine Tin.reg_one 13 _ rfl (by kernel_rfl) ?_
            try simp only [List.getElem_toArray, List.getElem_cons_succ, List.getElem_cons_zero]
            go_wp2_with fail
            have hv := ba (brefl v7) (.cells (vrow 0 0 none 0 0) 27)
            have R8 := Lib.hid (show (v7.alloc (.cells (vrow 0 0 none 0 0) 27)).heap[v7.heap.size]? = some (.cells (vrow 0 0 none 0 0) 27 (0, 0)) from heap_alloc_new v7 (.cells (vrow 0 0 none 0 0) 27))
            refine ⟨v4.heap.size, hv.mono SZ, Nat.le_refl _, ?_⟩
            have SZ8 : v4.heap.size ≤ v7.heap.size := SZ
            replace R3 := Lib.hid ((hv.block _ (row_lt R3.out)).trans R3.out)
            replace HS := Lib.hid (HS.out.keep hv)
            replace HSB := Lib.hid (HSB.out.keep hv)
            replace HA7 := Lib.hid (HA7.out.keep hv)
            replace HA9 := Lib.hid (HA9.out.keep hv)
            replace HB := Lib.hid (HB.out.trans (hv.mono HB.out.size))
            replace SN := Lib.hid (SN.out.trans (hv.mono SN.out.size))
            replace SZ := Nat.le_trans SZ hv.size
            clear hv
            generalize v7.alloc (.cells (vrow 0 0 none 0 0) 27) = v8 at *
            obtain ⟨g8, hg8⟩ : ∃ g, g = v7.heap.size := ⟨_, rfl⟩
            rw [← hg8] at R8 SZ8 UB9 ⊢
            clear hg8
            refine Tin.reg_one 14 _ rfl (by kernel_rfl) ?_
            try simp only [List.getElem_toArray, List.getElem_cons_succ, List.getElem_cons_zero]
            go_wp2_with ((with_reducible refine wpl_store_row rtV ?_ (.tmp 8) (.tmp 83) ?_ (g8) ?_ (vrow t c A9 l.length d9) ?_ (vrow_one _ _ _ _ _) 27 ?_ _ ?_ R8.out ?_); rfl; rfl; rfl; rfl; rfl; rfl; intro v9 hr8 hg8' hs8; (try simp only [Act.put]))
            have hb8 : Below (v4.heap.size) v8 v9 := (Below.refl _ _).grown hg8' SZ (fun k hk => by cases hk; omega)
            have HA9n : Sl .u8 v9 A9 l := (HA9.out.kept hg8' (ne_own (fun q hq => by have h1 := UB9 q hq; omega))).sl'.2
            refine ⟨v4.heap.size, hb8, Nat.le_refl _, ?_⟩
            replace SN := Lib.hid (SN.out.trans hb8)
            clear HA7 HA9 R8
            replace R3 := Lib.hid ((SN.out.block _ (row_lt SN_R3.out)).trans SN_R3.out)
            replace HS := Lib.hid (SN_HS.out.keep SN.out)
            replace HSB := Lib.hid (SN_HSB.out.keep SN.out)
            replace HB := Lib.hid (HB.out.trans (hb8.mono SN_le_HB))
            refine Tin.reg_quiets [15] _ 0 rfl (by simp only [Tin.pick, List.map_cons, List.map_nil, Array.getD_eq_getD_getElem?, List.getElem?_toArray, List.getElem?_cons_zero, List.getElem?_cons_succ, Option.getD_some]; rfl) (by kernel_rfl) (by kernel_rfl) ?_
            repeat (first | go_big_quiet_step (fail))
            refine wpQuiet_nil ?_
            refine Tin.reg_done (by kernel_rfl) ?_
            exact tail _ (g8) A9 d9 _ _ _ _ _ _ _ _ _ _ _ _ _ _ _ _ _ _ _ _ _ _ _ _ _ _ _ _ _ _ _ _ _ _ _ _ _ _ _ _ _ _ _ _ _ _ _ _ _ _ _ _ _ _ _ _ _ _ _ _ _ _ _ _ _ _ _ _ _ _ _ _ _ _ _ _ _ _ _ _ _ _ _ _ _ _ _ _ _ _ _ _ _ _ _ _ _ _ _ _ _ _ _ _ _ _ _ _ _ _ _ _ _ _ _ _ _ _ _ _ _ _ _ _ _ _ _ _ _ _ _ _ _ _ _ _ _ _ _ _ _ _ _ _ _ _ _ _ _ _ _ _ _ _ _ _ _ _ _ _ _ _ _ _ _ _ _ _ _ _ _ _ _ R3.out HS.out hr8 HA9n HB.out
          · try simp only [List.getElem_toArray, List.getElem_cons_succ, List.getElem_cons_zero]
            go_wp2_with fail
            have hv := ba (brefl v6) (.cells (vrow 0 0 none 0 0) 27)
            have R8 := Lib.hid (show (v6.alloc (.cells (vrow 0 0 none 0 0) 27)).heap[v6.heap.size]? = some (.cells (vrow 0 0 none 0 0) 27 (0, 0)) from heap_alloc_new v6 (.cells (vrow 0 0 none 0 0) 27))
            refine ⟨v4.heap.size, hv.mono SZ, Nat.le_refl _, ?_⟩
            have SZ8 : v4.heap.size ≤ v6.heap.size := SZ
            replace R3 := Lib.hid ((hv.block _ (row_lt R3.out)).trans R3.out)
            replace HS := Lib.hid (HS.out.keep hv)
            replace HSB := Lib.hid (HSB.out.keep hv)
            replace HA7 := Lib.hid (HA7.out.keep hv)
            replace HB := Lib.hid (HB.out.trans (hv.mono HB.out.size))
            replace SN := Lib.hid (SN.out.trans (hv.mono SN.out.size))
            replace SZ := Nat.le_trans SZ hv.size
            clear hv
            generalize v6.alloc (.cells (vrow 0 0 none 0 0) 27) = v7 at *
            obtain ⟨g8, hg8⟩ : ∃ g, g = v6.heap.size := ⟨_, rfl⟩
            rw [← hg8] at R8 SZ8  ⊢
            clear hg8
            have G9 : g8 < v7.heap.size := row_lt R8.out
            refine Tin.reg_one 9 _ rfl (by kernel_rfl) ?_
            try simp only [List.getElem_toArray, List.getElem_cons_succ, List.getElem_cons_zero]
            go_wp2_with fail
            refine (HOF.out _ _ _ HA7.out HC7.out HL7L.out).mono ?_
            rintro e v8 ⟨A9, d9, rfl, hv8_0, hv⟩
            simp only [vrow, on_t]
            go_wp2_with fail
            refine ⟨v4.heap.size, hv.mono SZ, Nat.le_refl _, ?_⟩
            replace R3 := Lib.hid ((hv.block _ (row_lt R3.out)).trans R3.out)
            replace HS := Lib.hid (HS.out.keep hv)
            replace HSB := Lib.hid (HSB.out.keep hv)
            replace HA7 := Lib.hid (HA7.out.keep hv)
            replace R8 := Lib.hid ((hv.block _ (row_lt R8.out)).trans R8.out)
            replace HB := Lib.hid (HB.out.trans (hv.mono HB.out.size))
            replace SN := Lib.hid (SN.out.trans (hv.mono SN.out.size))
            have HA9 := Lib.hid hv8_0
            replace SZ := Nat.le_trans SZ hv.size
            clear hv8_0 hv
            have UB9 : ∀ q, (Value.slice A9 l.length d9).ownBlock = some q → v7.heap.size ≤ q ∧ q < v8.heap.size := fun q hq => World.ownsRow.lt HA9.out q hq
            refine Tin.reg_quiets [10, 11, 12] _ 2 rfl (by simp only [Tin.pick, List.map_cons, List.map_nil, Array.getD_eq_getD_getElem?, List.getElem?_toArray, List.getElem?_cons_zero, List.getElem?_cons_succ, Option.getD_some]; rfl) (by kernel_rfl) (by kernel_rfl) ?_
            repeat (first | go_big_quiet_step (fail))
            refine wpQuiet_nil ?_
            refine Tin.reg_one 14 _ rfl (by kernel_rfl) ?_
            try simp only [List.getElem_toArray, List.getElem_cons_succ, List.getElem_cons_zero]
            go_wp2_with ((with_reducible refine wpl_store_row rtV ?_ (.tmp 8) (.tmp 83) ?_ (g8) ?_ (vrow t c A9 l.length d9) ?_ (vrow_one _ _ _ _ _) 27 ?_ _ ?_ R8.out ?_); rfl; rfl; rfl; rfl; rfl; rfl; intro v9 hr8 hg8' hs8; (try simp only [Act.put]))
            have hb8 : Below (v4.heap.size) v8 v9 := (Below.refl _ _).grown hg8' SZ (fun k hk => by cases hk; omega)
            have HA9n : Sl .u8 v9 A9 l := (HA9.out.kept hg8' (ne_own (fun q hq => by have h1 := UB9 q hq; omega))).sl'.2
            refine ⟨v4.heap.size, hb8, Nat.le_refl _, ?_⟩
            replace SN := Lib.hid (SN.out.trans hb8)
            clear HA7 R8 HA9
            replace R3 := Lib.hid ((SN.out.block _ (row_lt SN_R3.out)).trans SN_R3.out)
            replace HS := Lib.hid (SN_HS.out.keep SN.out)
            replace HSB := Lib.hid (SN_HSB.out.keep SN.out)
            replace HB := Lib.hid (HB.out.trans (hb8.mono SN_le_HB))
            refine Tin.reg_quiets [15] _ 0 rfl (by simp only [Tin.pick, List.map_cons, List.map_nil, Array.getD_eq_getD_getElem?, List.getElem?_toArray, List.getElem?_cons_zero, List.getElem?_cons_succ, Option.getD_some]; rfl) (by kernel_rfl) (by kernel_rfl) ?_
            repeat (first | go_big_quiet_step (fail))
            refine wpQuiet_nil ?_
            refine Tin.reg_done (by kernel_rfl) ?_
            exact tail _ (g8) A9 d9 _ _ _ _ _ _ _ _ _ _ _ _ _ _ _ _ _ _ _ _ _ _ _ _ _ _ _ _ _ _ _ _ _ _ _ _ _ _ _ _ _ _ _ _ _ _ _ _ _ _ _ _ _ _ _ _ _ _ _ _ _ _ _ _ _ _ _ _ _ _ _ _ _ _ _ _ _ _ _ _ _ _ _ _ _ _ _ _ _ _ _ _ _ _ _ _ _ _ _ _ _ _ _ _ _ _ _ _ _ _ _ _ _ _ _ _ _ _ _ _ _ _ _ _ _ _ _ _ _ _ _ _ _ _ _ _ _ _ _ _ _ _ _ _ _ _ _ _ _ _ _ _ _ _ _ _ _ _ _ _ _ _ _ _ _ _ _ _ _ _ _ _ _ R3.out HS.out hr8 HA9n HB.out
        · try simp only [List.getElem_toArray, List.getElem_cons_succ, List.getElem_cons_zero]
          go_wp2_with fail
          have hv := ba (brefl v5) (.cells (vrow 0 0 none 0 0) 27)
          have R8 := Lib.hid (show (v5.alloc (.cells (vrow 0 0 none 0 0) 27)).heap[v5.heap.size]? = some (.cells (vrow 0 0 none 0 0) 27 (0, 0)) from heap_alloc_new v5 (.cells (vrow 0 0 none 0 0) 27))
          refine ⟨v4.heap.size, hv.mono SZ, Nat.le_refl _, ?_⟩
          have SZ8 : v4.heap.size ≤ v5.heap.size := SZ
          replace H5S := Nat.le_trans H5S hv.size
          replace R3 := Lib.hid ((hv.block _ (row_lt R3.out)).trans R3.out)
          replace HS := Lib.hid (HS.out.keep hv)
          replace HSB := Lib.hid (HSB.out.keep hv)
          replace HP1 := Lib.hid (HP1.out.keep hv)
          replace HA5 := Lib.hid (HA5.out.keep hv)
          replace HB := Lib.hid (HB.out.trans (hv.mono HB.out.size))
          replace SN := Lib.hid (SN.out.trans (hv.mono SN.out.size))
          replace SZ := Nat.le_trans SZ hv.size
          clear hv
          generalize v5.alloc (.cells (vrow 0 0 none 0 0) 27) = v6 at *
          obtain ⟨g8, hg8⟩ : ∃ g, g = v5.heap.size := ⟨_, rfl⟩
          rw [← hg8] at R8 SZ8 UB5 ⊢
          clear hg8
          refine Tin.reg_one 7 _ rfl (by kernel_rfl) ?_
          try simp only [List.getElem_toArray, List.getElem_cons_succ, List.getElem_cons_zero]
          go_wp2_with (at_builtin; refine Tin.wpl_app bt5 _ rfl (.tmp 78) (.tmp 79) rfl _ _ BY rfl HA5.out Ab lb.length capb lb rfl HSB.out rfl (by have := HLB.out; omega) (by have := HLB.out; omega) H5S ?_; intro z7 v7 ho7 hg7 hw7; rw [HL7.out] at ho7; obtain ⟨A7, d7, rfl⟩ := own_form ho7; have HC7 := Lib.hid (own_cap3 ho7))
          have hb7 : Below (v4.heap.size) v6 v7 := (Below.refl _ _).grown hg7 SZ (fun q hq => Nat.le_trans L5 (UB5 q hq).1)
          have R8n := Lib.hid ((hg7.block (g8) (row_lt R8.out) (fun e => by have := UB5 _ e.symm; omega)).trans R8.out)
          refine ⟨v4.heap.size, hb7, Nat.le_refl _, ?_⟩
          replace SZ := Nat.le_trans SZ hb7.size
          have HA7 := Lib.hid ho7.sl'.2
          replace SN := Lib.hid (SN.out.trans hb7)
          clear HP1 HA5 R8
          replace R3 := Lib.hid ((SN.out.block _ (row_lt SN_R3.out)).trans SN_R3.out)
          replace HS := Lib.hid (SN_HS.out.keep SN.out)
          replace HSB := Lib.hid (SN_HSB.out.keep SN.out)
          replace HB := Lib.hid (HB.out.trans (hb7.mono SN_le_HB))
          have R8 := R8n
          clear R8n
          clear ho7 hg7 hw7 hb7 UB5
          have G9 : g8 < v7.heap.size := row_lt R8.out
          refine Tin.reg_one 9 _ rfl (by kernel_rfl) ?_
          try simp only [List.getElem_toArray, List.getElem_cons_succ, List.getElem_cons_zero]
          go_wp2_with fail
          refine (HOF.out _ _ _ HA7.out HC7.out HL7L.out).mono ?_
          rintro e v8 ⟨A9, d9, rfl, hv8_0, hv⟩
          simp only [vrow, on_t]
          go_wp2_with fail
          refine ⟨v4.heap.size, hv.mono SZ, Nat.le_refl _, ?_⟩
          replace R3 := Lib.hid ((hv.block _ (row_lt R3.out)).trans R3.out)
          replace HS := Lib.hid (HS.out.keep hv)
          replace HSB := Lib.hid (HSB.out.keep hv)
          replace HA7 := Lib.hid (HA7.out.keep hv)
          replace R8 := Lib.hid ((hv.block _ (row_lt R8.out)).trans R8.out)
          replace HB := Lib.hid (HB.out.trans (hv.mono HB.out.size))
          replace SN := Lib.hid (SN.out.trans (hv.mono SN.out.size))
          have HA9 := Lib.hid hv8_0
          replace SZ := Nat.le_trans SZ hv.size
          clear hv8_0 hv
          have UB9 : ∀ q, (Value.slice A9 l.length d9).ownBlock = some q → v7.heap.size ≤ q ∧ q < v8.heap.size := fun q hq => World.ownsRow.lt HA9.out q hq
          refine Tin.reg_quiets [10, 11, 12] _ 2 rfl (by simp only [Tin.pick, List.map_cons, List.map_nil, Array.getD_eq_getD_getElem?, List.getElem?_toArray, List.getElem?_cons_zero, List.getElem?_cons_succ, Option.getD_some]; rfl) (by kernel_rfl) (by kernel_rfl) ?_
          repeat (first | go_big_quiet_step (fail))
          refine wpQuiet_nil ?_
          refine Tin.reg_one 14 _ rfl (by kernel_rfl) ?_
          try simp only [List.getElem_toArray, List.getElem_cons_succ, List.getElem_cons_zero]
          go_wp2_with ((with_reducible refine wpl_store_row rtV ?_ (.tmp 8) (.tmp 83) ?_ (g8) ?_ (vrow t c A9 l.length d9) ?_ (vrow_one _ _ _ _ _) 27 ?_ _ ?_ R8.out ?_); rfl; rfl; rfl; rfl; rfl; rfl; intro v9 hr8 hg8' hs8; (try simp only [Act.put]))
          have hb8 : Below (v4.heap.size) v8 v9 := (Below.refl _ _).grown hg8' SZ (fun k hk => by cases hk; omega)
          have HA9n : Sl .u8 v9 A9 l := (HA9.out.kept hg8' (ne_own (fun q hq => by have h1 := UB9 q hq; omega))).sl'.2
          refine ⟨v4.heap.size, hb8, Nat.le_refl _, ?_⟩
          replace SN := Lib.hid (SN.out.trans hb8)
          clear HA7 R8 HA9
          replace R3 := Lib.hid ((SN.out.block _ (row_lt SN_R3.out)).trans SN_R3.out)
          replace HS := Lib.hid (SN_HS.out.keep SN.out)
          replace HSB := Lib.hid (SN_HSB.out.keep SN.out)
          replace HB := Lib.hid (HB.out.trans (hb8.mono SN_le_HB))
          refine Tin.reg_quiets [15] _ 0 rfl (by simp only [Tin.pick, List.map_cons, List.map_nil, Array.getD_eq_getD_getElem?, List.getElem?_toArray, List.getElem?_cons_zero, List.getElem?_cons_succ, Option.getD_some]; rfl) (by kernel_rfl) (by kernel_rfl) ?_
          repeat (first | go_big_quiet_step (fail))
          refine wpQuiet_nil ?_
          refine Tin.reg_done (by kernel_rfl) ?_
          exact tail _ (g8) A9 d9 _ _ _ _ _ _ _ _ _ _ _ _ _ _ _ _ _ _ _ _ _ _ _ _ _ _ _ _ _ _ _ _ _ _ _ _ _ _ _ _ _ _ _ _ _ _ _ _ _ _ _ _ _ _ _ _ _ _ _ _ _ _ _ _ _ _ _ _ _ _ _ _ _ _ _ _ _ _ _ _ _ _ _ _ _ _ _ _ _ _ _ _ _ _ _ _ _ _ _ _ _ _ _ _ _ _ _ _ _ _ _ _ _ _ _ _ _ _ _ _ _ _ _ _ _ _ _ _ _ _ _ _ _ _ _ _ _ _ _ _ _ _ _ _ _ _ _ _ _ _ _ _ _ _ _ _ _ _ _ _ _ _ _ _ _ _ _ _ _ _ _ _ _ R3.out HS.out hr8 HA9n HB.out
      · try simp only [List.getElem_toArray, List.getElem_cons_succ, List.getElem_cons_zero]
        go_wp2_with fail
        have hv0 := ba (brefl v4) (.cells (vrow 0 0 none 0 0) 27)
        have hv : Below v4.drew.heap.size v4.drew ((v4.alloc (.cells (vrow 0 0 none 0 0) 27)).drew) := ⟨hv0.os, hv0.tape, hv0.output, hv0.size, hv0.block⟩
        clear hv0
        have R8 := Lib.hid (show ((v4.alloc (.cells (vrow 0 0 none 0 0) 27)).drew).heap[v4.heap.size]? = some (.cells (vrow 0 0 none 0 0) 27 (0, 0)) from heap_alloc_new v4 (.cells (vrow 0 0 none 0 0) 27))
        refine ⟨v4.heap.size, hv.mono SZ, Nat.le_refl _, ?_⟩
        have SZ8 : v4.heap.size ≤ v4.heap.size := SZ
        replace R3 := Lib.hid ((hv.block _ (row_lt R3.out)).trans R3.out)
        replace HS := Lib.hid (HS.out.keep hv)
        replace HSB := Lib.hid (HSB.out.keep hv)
        replace HP1 := Lib.hid (HP1.out.keep hv)
        replace HB := Lib.hid (HB.out.trans (hv.mono HB.out.size))
        replace SN := Lib.hid (SN.out.trans (hv.mono SN.out.size))
        replace SZ := Nat.le_trans SZ hv.size
        clear hv
        generalize (v4.alloc (.cells (vrow 0 0 none 0 0) 27)).drew = v5 at *
        have L5 := SZ
        have G5 : v4.heap.size < v5.heap.size := row_lt R8.out
        refine Tin.reg_one 5 _ rfl (by kernel_rfl) ?_
        try simp only [List.getElem_toArray, List.getElem_cons_succ, List.getElem_cons_zero]
        go_wp2_with fail
        refine (own_any A1 BY c1 _ HP1.out.sl'.2 (by have := HLB.out; omega)).mono ?_
        rintro e v6 ⟨A5, d5, rfl, hv6_0, hv⟩
        have H5S := hv.size
        go_wp2_with fail
        refine ⟨v4.heap.size, hv.mono SZ, Nat.le_refl _, ?_⟩
        replace R3 := Lib.hid ((hv.block _ (row_lt R3.out)).trans R3.out)
        replace HS := Lib.hid (HS.out.keep hv)
        replace HSB := Lib.hid (HSB.out.keep hv)
        replace HP1 := Lib.hid (HP1.out.keep hv)
        replace R8 := Lib.hid ((hv.block _ (row_lt R8.out)).trans R8.out)
        replace HB := Lib.hid (HB.out.trans (hv.mono HB.out.size))
        replace SN := Lib.hid (SN.out.trans (hv.mono SN.out.size))
        have HA5 := Lib.hid hv6_0
        replace SZ := Nat.le_trans SZ hv.size
        clear hv6_0 hv
        have UB5 : ∀ q, (Value.slice A5 BY.length d5).ownBlock = some q → v5.heap.size ≤ q ∧ q < v6.heap.size := fun q hq => World.ownsRow.lt HA5.out q hq
        refine Tin.reg_one 7 _ rfl (by kernel_rfl) ?_
        try simp only [List.getElem_toArray, List.getElem_cons_succ, List.getElem_cons_zero]
        go_wp2_with (at_builtin; refine Tin.wpl_app bt5 _ rfl (.tmp 78) (.tmp 79) rfl _ _ BY rfl HA5.out Ab lb.length capb lb rfl HSB.out rfl (by have := HLB.out; omega) (by have := HLB.out; omega) H5S ?_; intro z7 v7 ho7 hg7 hw7; rw [HL7.out] at ho7; obtain ⟨A7, d7, rfl⟩ := own_form ho7; have HC7 := Lib.hid (own_cap3 ho7))
        have hb7 : Below (v4.heap.size) v6 v7 := (Below.refl _ _).grown hg7 SZ (fun q hq => Nat.le_trans L5 (UB5 q hq).1)
        have R8n := Lib.hid ((hg7.block (v4.heap.size) (row_lt R8.out) (fun e => by have := UB5 _ e.symm; omega)).trans R8.out)
        refine ⟨v4.heap.size, hb7, Nat.le_refl _, ?_⟩
        replace SZ := Nat.le_trans SZ hb7.size
        have HA7 := Lib.hid ho7.sl'.2
        replace SN := Lib.hid (SN.out.trans hb7)
        clear HP1 R8 HA5
        replace R3 := Lib.hid ((SN.out.block _ (row_lt SN_R3.out)).trans SN_R3.out)
        replace HS := Lib.hid (SN_HS.out.keep SN.out)
        replace HSB := Lib.hid (SN_HSB.out.keep SN.out)
        replace HB := Lib.hid (HB.out.trans (hb7.mono SN_le_HB))
        have R8 := R8n
        clear R8n
        clear ho7 hg7 hw7 hb7 UB5
        have G9 : v4.heap.size < v7.heap.size := row_lt R8.out
        refine Tin.reg_one 9 _ rfl (by kernel_rfl) ?_
        try simp only [List.getElem_toArray, List.getElem_cons_succ, List.getElem_cons_zero]
        go_wp2_with fail
        refine (HOF.out _ _ _ HA7.out HC7.out HL7L.out).mono ?_
        rintro e v8 ⟨A9, d9, rfl, hv8_0, hv⟩
        simp only [vrow, on_t]
        go_wp2_with fail
        refine ⟨v4.heap.size, hv.mono SZ, Nat.le_refl _, ?_⟩
        replace R3 := Lib.hid ((hv.block _ (row_lt R3.out)).trans R3.out)
        replace HS := Lib.hid (HS.out.keep hv)
        replace HSB := Lib.hid (HSB.out.keep hv)
        replace HA7 := Lib.hid (HA7.out.keep hv)
        replace R8 := Lib.hid ((hv.block _ (row_lt R8.out)).trans R8.out)
        replace HB := Lib.hid (HB.out.trans (hv.mono HB.out.size))
        replace SN := Lib.hid (SN.out.trans (hv.mono SN.out.size))
        have HA9 := Lib.hid hv8_0
        replace SZ := Nat.le_trans SZ hv.size
        clear hv8_0 hv
        have UB9 : ∀ q, (Value.slice A9 l.length d9).ownBlock = some q → v7.heap.size ≤ q ∧ q < v8.heap.size := fun q hq => World.ownsRow.lt HA9.out q hq
        refine Tin.reg_quiets [10, 11, 12] _ 2 rfl (by simp only [Tin.pick, List.map_cons, List.map_nil, Array.getD_eq_getD_getElem?, List.getElem?_toArray, List.getElem?_cons_zero, List.getElem?_cons_succ, Option.getD_some]; rfl) (by kernel_rfl) (by kernel_rfl) ?_
        repeat (first | go_big_quiet_step (fail))
        refine wpQuiet_nil ?_
        refine Tin.reg_one 14 _ rfl (by kernel_rfl) ?_
        try simp only [List.getElem_toArray, List.getElem_cons_succ, List.getElem_cons_zero]
        go_wp2_with ((with_reducible refine wpl_store_row rtV ?_ (.tmp 8) (.tmp 83) ?_ (v4.heap.size) ?_ (vrow t c A9 l.length d9) ?_ (vrow_one _ _ _ _ _) 27 ?_ _ ?_ R8.out ?_); rfl; rfl; rfl; rfl; rfl; rfl; intro v9 hr8 hg8' hs8; (try simp only [Act.put]))
        have hb8 : Below (v4.heap.size) v8 v9 := (Below.refl _ _).grown hg8' SZ (fun k hk => by cases hk; omega)
        have HA9n : Sl .u8 v9 A9 l := (HA9.out.kept hg8' (ne_own (fun q hq => by have h1 := UB9 q hq; omega))).sl'.2
        refine ⟨v4.heap.size, hb8, Nat.le_refl _, ?_⟩
        replace SN := Lib.hid (SN.out.trans hb8)
        clear HA7 R8 HA9
        replace R3 := Lib.hid ((SN.out.block _ (row_lt SN_R3.out)).trans SN_R3.out)
        replace HS := Lib.hid (SN_HS.out.keep SN.out)
        replace HSB := Lib.hid (SN_HSB.out.keep SN.out)
        replace HB := Lib.hid (HB.out.trans (hb8.mono SN_le_HB))
        refine Tin.reg_quiets [15] _ 0 rfl (by simp only [Tin.pick, List.map_cons, List.map_nil, Array.getD_eq_getD_getElem?, List.getElem?_toArray, List.getElem?_cons_zero, List.getElem?_cons_succ, Option.getD_some]; rfl) (by kernel_rfl) (by kernel_rfl) ?_
        repeat (first | go_big_quiet_step (fail))
        refine wpQuiet_nil ?_
        refine Tin.reg_done (by kernel_rfl) ?_
        exact tail _ (v4.heap.size) A9 d9 _ _ _ _ _ _ _ _ _ _ _ _ _ _ _ _ _ _ _ _ _ _ _ _ _ _ _ _ _ _ _ _ _ _ _ _ _ _ _ _ _ _ _ _ _ _ _ _ _ _ _ _ _ _ _ _ _ _ _ _ _ _ _ _ _ _ _ _ _ _ _ _ _ _ _ _ _ _ _ _ _ _ _ _ _ _ _ _ _ _ _ _ _ _ _ _ _ _ _ _ _ _ _ _ _ _ _ _ _ _ _ _ _ _ _ _ _ _ _ _ _ _ _ _ _ _ _ _ _ _ _ _ _ _ _ _ _ _ _ _ _ _ _ _ _ _ _ _ _ _ _ _ _ _ _ _ _ _ _ _ _ _ _ _ _ _ _ _ _ _ _ _ _ R3.out HS.out hr8 HA9n HB.out
end Go.Proofs.Ytmdcdmgbillehaa
