/- The walk of EntryBack. -/
import Derived.Test.YthjmnahmejagmaaEnN
namespace Go.Proofs.Ythjmnahmejagmaa
open Go.RowKit
open Go.Tin
set_option linter.unusedVariables false
set_option linter.unusedSimpArgs false


theorem eqE_slot (a b c e f : Int) : eqE a b c e a b c f = decide (e = f) := by
  unfold eqE
  by_cases h : e = f <;> simp [h]
set_option maxRecDepth 100000 in
set_option maxHeartbeats 16000000 in
theorem back_any (Aa : Option Addr) (lena capa : Nat) (la : List Int) (Ab : Option Addr) (lenb capb : Nat) (lb : List Int) (x0 x1 x2 x3 t c : Int) (A : Option Addr) (len cap : Nat) (l : List Int) (tag o : Int) (w : World) (hra : IsRow .u8 w Aa lena capa la) (hrb : IsRow .u8 w Ab lenb capb lb) (y0 : (Lit.int .i64 x0).wf = true) (y1 : (Lit.int .i64 x1).wf = true) (y2 : (Lit.int .i64 x2).wf = true) (y3 : (Lit.int .i64 x3).wf = true) (wt : (Lit.int .i64 t).wf = true) (wc : (Lit.int .i64 c).wf = true) (hr : IsRow .u8 w A len cap l) (wtag : (Lit.int .i64 tag).wf = true) (wo : (Lit.int .i64 o).wf = true) :
    Calls Try.prog 6 #[.slice Aa lena capa, .slice Ab lenb capb, .agg #[.int .i64 x0, .int .i64 x1, .int .i64 x2, .int .i64 x3], .agg #[.int .i64 t, .int .i64 c, .slice A len cap], .int .i64 tag, .int .i64 o] w fun e w' => e = .returned (.bool true) ∧ Below w.heap.size w w' := by
  obtain ⟨hs, hlen, hlc, hcm, hwf⟩ := Sl.of_row hr
  have hby := byts_wf hwf
  generalize l.take len = l at *
  subst hlen
  obtain ⟨hsa, hlena, hlca, hcma, hwfa⟩ := Sl.of_row hra
  have hbya := byts_wf hwfa
  generalize la.take lena = la at *
  subst hlena
  obtain ⟨hsb, hlenb, hlcb, hcmb, hwfb⟩ := Sl.of_row hrb
  have hbyb := byts_wf hwfb
  generalize lb.take lenb = lb at *
  subst hlenb
  clear hwf hr hwfa hra hwfb hrb wtag wo wt wc y0 y1 y2 y3
  unfold maxLen at hcm hcma hcmb
  have HBY := Lib.hid hby
  have HBA := Lib.hid hbya
  have HBB := Lib.hid hbyb
  have HB := Lib.hid (ba (ba (brefl w) (.cells (erow x0 x1 x2 x3) 26)) (.cells (vrow t c A l.length cap) 24))
  have RX := Lib.hid (show ((w.alloc (.cells (erow x0 x1 x2 x3) 26)).alloc (.cells (vrow t c A l.length cap) 24)).heap[w.heap.size]? = some (.cells (erow x0 x1 x2 x3) 26 (0, 0)) by rw [Below.heap_alloc _ _ _ (by simp)]; exact heap_alloc_new w _)
  have RV := Lib.hid (show ((w.alloc (.cells (erow x0 x1 x2 x3) 26)).alloc (.cells (vrow t c A l.length cap) 24)).heap[w.heap.size + 1]? = some (.cells (vrow t c A l.length cap) 24 (0, 0)) by
    have := heap_alloc_new (w.alloc (.cells (erow x0 x1 x2 x3) 26)) (.cells (vrow t c A l.length cap) 24)
    simpa using this)
  have HS := Lib.hid (hs.keep HB.out)
  have HA := Lib.hid (hsa.keep HB.out)
  have HBH := Lib.hid (hsb.keep HB.out)
  clear hs hsa hsb hby hbya hbyb
  have kb := row_cell (v := .slice A l.length cap) RV.out 2 rfl
  by_cases h1 : 200 < la.length
  · have h3 : (200 : Int) < (la.length : Int) := by omega
    go_enter Try.func6, Try.ntmps6
    go_wp2_with fail
    refine (awake_any _).mono ?_
    rintro e w1 ⟨rfl, hb⟩
    go_wp2_with fail
    go_ret
    exact ⟨rfl, HB.out.trans (hb.mono HB.out.size)⟩

  have i1 : (la.length : Int) ≤ 200 := by omega
  by_cases h2 : 200 < lb.length
  · have h3 : (200 : Int) < (lb.length : Int) := by omega
    go_enter Try.func6, Try.ntmps6
    go_wp2_with fail
    refine (awake_any _).mono ?_
    rintro e w1 ⟨rfl, hb⟩
    go_wp2_with fail
    go_ret
    exact ⟨rfl, HB.out.trans (hb.mono HB.out.size)⟩

  have i2 : (lb.length : Int) ≤ 200 := by omega
  by_cases h4 : 300 < l.length
  · have h3 : (300 : Int) < (l.length : Int) := by omega
    go_enter Try.func6, Try.ntmps6
    go_wp2_with fail
    refine (awake_any _).mono ?_
    rintro e w1 ⟨rfl, hb⟩
    go_wp2_with fail
    go_ret
    exact ⟨rfl, HB.out.trans (hb.mono HB.out.size)⟩

  have i3 : (l.length : Int) ≤ 300 := by omega
  clear h1 h2 h4
  go_enter Try.func6, Try.ntmps6
  have RX0 := Lib.hid RX.out
  go_wp2_with (first | ((with_reducible refine wpl_load_row rtE ?_ (.tmp 8) ?_ (w.heap.size) ?_ 26 (erow x0 x1 x2 x3) ?_ RX0.out ?_); rfl; rfl; rfl; rfl; simp only [Act.put, List.setIfInBounds_toArray, List.set_cons_succ, List.set_cons_zero]))
  generalize ((w.alloc (.cells (erow x0 x1 x2 x3) 26)).alloc (.cells (vrow t c A l.length cap) 24)) = W at *
  clear kb RX0
  have HER := Lib.hid (show ewB x0 x1 x2 x3 o = true → (ewL x0 x1 x2 x3 o).length = 12 ∧ erB (ewL x0 x1 x2 x3 o) 1 o = false ∧ (erB (la ++ ewL x0 x1 x2 x3 o ++ lb) (la.length : Int) o = true ∧ er0 (la ++ ewL x0 x1 x2 x3 o ++ lb) (la.length : Int) o = x0 ∧ er1 (la ++ ewL x0 x1 x2 x3 o ++ lb) (la.length : Int) o = x1 ∧ er2 (la ++ ewL x0 x1 x2 x3 o ++ lb) (la.length : Int) o = x2 ∧ er3 (la ++ ewL x0 x1 x2 x3 o ++ lb) (la.length : Int) o = x3) from fun h => ⟨ew_len h, ew_short h, ew_read h la lb⟩)
  have HWB := Lib.hid (show Byts (ewL x0 x1 x2 x3 o) by
    unfold ewL
    split
    · exact byts_app (byts_app (byts_app (byts_app (show Byts (preE [x0, x1, x2, x3] o 0) from fun x hx => by simp [preE] at hx) (byts_putL _ _ _)) (byts_putL _ _ _)) (byts_putL _ _ _)) (byts_putL _ _ _)
    · intro x hx; simp at hx)
  refine (ewr_any x0 x1 x2 x3 o W).mono ?_
  rintro e w1 ⟨A1, c1, rfl, hox, hbx⟩
  have HW1 := Lib.hid hox
  replace RX := Lib.hid ((hbx.block _ (row_lt RX.out)).trans RX.out)
  replace RV := Lib.hid ((hbx.block _ (row_lt RV.out)).trans RV.out)
  replace HA := Lib.hid (HA.out.keep hbx)
  replace HBH := Lib.hid (HBH.out.keep hbx)
  replace HS := Lib.hid (HS.out.keep hbx)
  replace HB := Lib.hid (HB.out.trans (hbx.mono HB.out.size))
  clear hox hbx
  generalize ewL x0 x1 x2 x3 o = WL at *
  cases hwb : ewB x0 x1 x2 x3 o with
  | false =>
    clear hwb HER
    go_wp2_with fail
    have HEW := Lib.hid (show erB lb 0 o = true → ewB (er0 lb 0 o) (er1 lb 0 o) (er2 lb 0 o) (er3 lb 0 o) o = true ∧ ewL (er0 lb 0 o) (er1 lb 0 o) (er2 lb 0 o) (er3 lb 0 o) o = lb.take 12 ∧ 12 ≤ lb.length from fun h => er_write HBB.out h)
    have HWR := Lib.hid (fun W => ewr_any (er0 lb 0 o) (er1 lb 0 o) (er2 lb 0 o) (er3 lb 0 o) o W)
    refine (erd_any Ab lb capb 0 o w1 HBH.out (by omega) HBB.out).mono ?_
    rintro e x5 ⟨rfl, hbx⟩
    replace RX := Lib.hid ((hbx.block _ (row_lt RX.out)).trans RX.out)
    replace RV := Lib.hid ((hbx.block _ (row_lt RV.out)).trans RV.out)
    replace HW1 := Lib.hid (HW1.out.keep hbx)
    replace HA := Lib.hid (HA.out.keep hbx)
    replace HBH := Lib.hid (HBH.out.keep hbx)
    replace HS := Lib.hid (HS.out.keep hbx)
    replace HB := Lib.hid (HB.out.trans (hbx.mono HB.out.size))
    clear hbx
    generalize er0 lb 0 o = r0 at *
    generalize er1 lb 0 o = r1 at *
    generalize er2 lb 0 o = r2 at *
    generalize er3 lb 0 o = r3 at *
    cases hrb : erB lb 0 o with
    | false =>
      clear hrb HEW HWR
      go_wp2_with (first | ((with_reducible refine wpl_store_row rtE ?_ (.tmp 19) (.tmp 94) ?_ (x5.heap.size) ?_ (erow r0 r1 r2 r3) ?_ (erow_one _ _ _ _) 26 ?_ _ ?_ (heap_alloc_new x5 _) ?_); rfl; rfl; rfl; rfl; rfl; rfl; intro x6 hr hg hs; have hb : Below x5.heap.size x5 x6 := (ba (brefl x5) _).grown hg (by simp) (fun k hk => by cases hk; exact Nat.le_refl _); replace RX := Lib.hid ((hb.block _ (row_lt RX.out)).trans RX.out); replace RV := Lib.hid ((hb.block _ (row_lt RV.out)).trans RV.out); replace HW1 := Lib.hid (HW1.out.keep hb); replace HA := Lib.hid (HA.out.keep hb); replace HBH := Lib.hid (HBH.out.keep hb); replace HS := Lib.hid (HS.out.keep hb); replace HB := Lib.hid (HB.out.trans (hb.mono HB.out.size)); have R19 := Lib.hid hr; clear hr hg hs hb; (try simp only [Act.put])) | ((with_reducible refine wpl_load_row rtV ?_ (.tmp 9) ?_ (w.heap.size + 1) ?_ 24 (vrow t c A l.length cap) ?_ RV.out ?_); rfl; rfl; rfl; rfl; simp only [Act.put, List.setIfInBounds_toArray, List.set_cons_succ, List.set_cons_zero]))
      have HEF := Lib.hid (show eB tag t c l o = true → evB t c (eN t c l o) o = true ∧ evL t c (eN t c l o) o = l ∧ evC t c (eN t c l o) o = true from fun h => eof_back HBY.out h)
      refine (eof_any tag t c A l cap o x6 HS.out (by omega) HBY.out).mono ?_
      rintro e y1 ⟨rfl, hbx⟩
      replace RX := Lib.hid ((hbx.block _ (row_lt RX.out)).trans RX.out)
      replace RV := Lib.hid ((hbx.block _ (row_lt RV.out)).trans RV.out)
      replace HW1 := Lib.hid (HW1.out.keep hbx)
      replace HA := Lib.hid (HA.out.keep hbx)
      replace HBH := Lib.hid (HBH.out.keep hbx)
      replace HS := Lib.hid (HS.out.keep hbx)
      replace HB := Lib.hid (HB.out.trans (hbx.mono HB.out.size))
      clear hbx
      cases heb : eB tag t c l o with
      | false =>
        clear heb HEF
        generalize on false tag = u0
        generalize on false t = u1
        generalize on false c = u2
        generalize on false (eN t c l o) = u3
        go_wp2_with (first | ((with_reducible refine wpl_store_row rtE ?_ (.tmp 23) (.tmp 122) ?_ (y1.heap.size) ?_ (erow u0 u1 u2 u3) ?_ (erow_one _ _ _ _) 26 ?_ _ ?_ (heap_alloc_new y1 _) ?_); rfl; rfl; rfl; rfl; rfl; rfl; intro y2 hr hg hs; have hb : Below y1.heap.size y1 y2 := (ba (brefl y1) _).grown hg (by simp) (fun k hk => by cases hk; exact Nat.le_refl _); replace RX := Lib.hid ((hb.block _ (row_lt RX.out)).trans RX.out); replace RV := Lib.hid ((hb.block _ (row_lt RV.out)).trans RV.out); replace HW1 := Lib.hid (HW1.out.keep hb); replace HA := Lib.hid (HA.out.keep hb); replace HBH := Lib.hid (HBH.out.keep hb); replace HS := Lib.hid (HS.out.keep hb); replace HB := Lib.hid (HB.out.trans (hb.mono HB.out.size)); have R23 := Lib.hid hr; clear hr hg hs hb; (try simp only [Act.put])) | ((with_reducible refine wpl_load_row rtE ?_ (.tmp 8) ?_ (w.heap.size) ?_ 26 (erow x0 x1 x2 x3) ?_ RX.out ?_); rfl; rfl; rfl; rfl; simp only [Act.put, List.setIfInBounds_toArray, List.set_cons_succ, List.set_cons_zero]))
        have HVB := Lib.hid (show (evB x1 x2 x3 o = false → evL x1 x2 x3 o = [] ∧ evC x1 x2 x3 o = false) ∧ (evB x1 x2 x3 o = true → eB x0 x1 x2 (evL x1 x2 x3 o) o = (decide (0 ≤ x0) && decide (x0 < 65536)) ∧ decide (eN x1 x2 (evL x1 x2 x3 o) o = x3) = evC x1 x2 x3 o ∧ Byts (evL x1 x2 x3 o) ∧ (evL x1 x2 x3 o).length ≤ 4) from ⟨fun h => ⟨by unfold evL; rw [h]; rfl, by unfold evC; rw [h]; rfl⟩, fun h => val_back h⟩)
        refine (eval_any x0 x1 x2 x3 o y2).mono ?_
        rintro e z1 ⟨A8, c8, rfl, hox, hbx⟩
        have HV8 := Lib.hid hox
        replace RX := Lib.hid ((hbx.block _ (row_lt RX.out)).trans RX.out)
        replace RV := Lib.hid ((hbx.block _ (row_lt RV.out)).trans RV.out)
        replace R23 := Lib.hid ((hbx.block _ (row_lt R23.out)).trans R23.out)
        replace HW1 := Lib.hid (HW1.out.keep hbx)
        replace HA := Lib.hid (HA.out.keep hbx)
        replace HBH := Lib.hid (HBH.out.keep hbx)
        replace HS := Lib.hid (HS.out.keep hbx)
        replace HB := Lib.hid (HB.out.trans (hbx.mono HB.out.size))
        clear hox hbx
        cases hvb : evB x1 x2 x3 o with
        | false =>
          obtain ⟨v1, v2⟩ := HVB.out.1 hvb
          rw [v1] at HV8 ⊢
          rw [v2]
          clear hvb v1 v2 HVB
          generalize on false x1 = u1
          generalize on false x2 = u2
          go_wp2_with (first | ((with_reducible refine wpl_store_row rtV ?_ (.tmp 28) (.tmp 154) ?_ (z1.heap.size) ?_ (vrow u1 u2 A8 0 c8) ?_ (vrow_one _ _ _ _ _) 24 ?_ _ ?_ (heap_alloc_new z1 _) ?_); rfl; rfl; rfl; rfl; rfl; rfl; intro z2 hr hg hs; have hb : Below z1.heap.size z1 z2 := (ba (brefl z1) _).grown hg (by simp) (fun k hk => by cases hk; exact Nat.le_refl _); replace RX := Lib.hid ((hb.block _ (row_lt RX.out)).trans RX.out); replace RV := Lib.hid ((hb.block _ (row_lt RV.out)).trans RV.out); replace R23 := Lib.hid ((hb.block _ (row_lt R23.out)).trans R23.out); replace HW1 := Lib.hid (HW1.out.keep hb); replace HV8 := Lib.hid (HV8.out.keep hb); replace HA := Lib.hid (HA.out.keep hb); replace HBH := Lib.hid (HBH.out.keep hb); replace HS := Lib.hid (HS.out.keep hb); replace HB := Lib.hid (HB.out.trans (hb.mono HB.out.size)); have R28 := Lib.hid hr; have q28 := row_cell (v := .slice A8 0 c8) R28.out 2 rfl; clear hr hg hs hb; (try simp only [Act.put])))
          refine (awake_any _).mono ?_
          rintro e z3 ⟨rfl, hbx⟩
          go_wp2_with fail
          go_ret
          exact ⟨rfl, HB.out.trans (hbx.mono HB.out.size)⟩
        | true =>
          obtain ⟨v1, v2, v3, v4⟩ := HVB.out.2 hvb
          have HV1 := Lib.hid v1
          have HV2 := Lib.hid v2
          have HV3 := Lib.hid v3
          have HOFX := Lib.hid (fun W A c (h : Sl .u8 W A (evL x1 x2 x3 o)) => eof_any x0 x1 x2 A (evL x1 x2 x3 o) c o W h (by omega) v3)
          rw [on_t, on_t]
          clear hvb v1 v2 v3 v4 HVB
          generalize eN x1 x2 (evL x1 x2 x3 o) o = EN at *
          generalize hEB : eB x0 x1 x2 (evL x1 x2 x3 o) o = EB at *
          clear hEB
          generalize evL x1 x2 x3 o = VL at *
          generalize evC x1 x2 x3 o = VC at *
          go_wp2_with (first | ((with_reducible refine wpl_store_row rtV ?_ (.tmp 28) (.tmp 154) ?_ (z1.heap.size) ?_ (vrow x1 x2 A8 VL.length c8) ?_ (vrow_one _ _ _ _ _) 24 ?_ _ ?_ (heap_alloc_new z1 _) ?_); rfl; rfl; rfl; rfl; rfl; rfl; intro z2 hr hg hs; have hb : Below z1.heap.size z1 z2 := (ba (brefl z1) _).grown hg (by simp) (fun k hk => by cases hk; exact Nat.le_refl _); replace RX := Lib.hid ((hb.block _ (row_lt RX.out)).trans RX.out); replace RV := Lib.hid ((hb.block _ (row_lt RV.out)).trans RV.out); replace R23 := Lib.hid ((hb.block _ (row_lt R23.out)).trans R23.out); replace HW1 := Lib.hid (HW1.out.keep hb); replace HV8 := Lib.hid (HV8.out.keep hb); replace HA := Lib.hid (HA.out.keep hb); replace HBH := Lib.hid (HBH.out.keep hb); replace HS := Lib.hid (HS.out.keep hb); replace HB := Lib.hid (HB.out.trans (hb.mono HB.out.size)); have R28 := Lib.hid hr; have k0 := row_cell (v := .int .i64 x0) RX.out 0 rfl; clear hr hg hs hb; (try simp only [Act.put])) | ((with_reducible refine wpl_load_row rtV ?_ (.tmp 28) ?_ (z1.heap.size) ?_ 24 (vrow x1 x2 A8 VL.length c8) ?_ R28.out ?_); rfl; rfl; rfl; rfl; simp only [Act.put, List.setIfInBounds_toArray, List.set_cons_succ, List.set_cons_zero]))
          refine (HOFX.out _ _ _ HV8.out.sl'.2).mono ?_
          rintro e z3 ⟨rfl, hbx⟩
          replace RX := Lib.hid ((hbx.block _ (row_lt RX.out)).trans RX.out)
          replace RV := Lib.hid ((hbx.block _ (row_lt RV.out)).trans RV.out)
          replace R23 := Lib.hid ((hbx.block _ (row_lt R23.out)).trans R23.out)
          replace R28 := Lib.hid ((hbx.block _ (row_lt R28.out)).trans R28.out)
          replace HW1 := Lib.hid (HW1.out.keep hbx)
          replace HV8 := Lib.hid (HV8.out.keep hbx)
          replace HA := Lib.hid (HA.out.keep hbx)
          replace HBH := Lib.hid (HBH.out.keep hbx)
          replace HS := Lib.hid (HS.out.keep hbx)
          replace HB := Lib.hid (HB.out.trans (hbx.mono HB.out.size))
          clear hbx
          clear k0
          have vc : (VC == VC) = true := by simp
          have step : (decide (0 ≤ x0) = false ∧ EB = false) ∨ (decide (0 ≤ x0) = true ∧ decide (x0 < 65536) = false ∧ EB = false) ∨ (decide (0 ≤ x0) = true ∧ decide (x0 < 65536) = true ∧ EB = true) := by
            rw [HV1.out]
            cases decide (0 ≤ x0) <;> cases decide (x0 < 65536) <;> simp
          have HEQ := Lib.hid (show ∀ w, (Op.equalIn 10000 26 (.agg (erow x0 x1 x2 EN)) (.agg (erow x0 x1 x2 x3))).run Try.prog w = .ok VC w from fun w => by rw [entry_q, eqE_slot, HV2.out])
          clear HV1 HV3 HOFX HEQ
          rcases step with ⟨t1, hE⟩ | ⟨t1, t2, hE⟩ | ⟨t1, t2, hE⟩
          · subst hE
            generalize on false x0 = u0
            generalize on false x1 = u1
            generalize on false x2 = u2
            generalize on false EN = u3
            go_wp2_with (first | ((with_reducible refine wpl_store_row rtE ?_ (.tmp 31) (.tmp 176) ?_ (z3.heap.size) ?_ (erow u0 u1 u2 u3) ?_ (erow_one _ _ _ _) 26 ?_ _ ?_ (heap_alloc_new z3 _) ?_); rfl; rfl; rfl; rfl; rfl; rfl; intro z4 hr hg hs; have hb : Below z3.heap.size z3 z4 := (ba (brefl z3) _).grown hg (by simp) (fun k hk => by cases hk; exact Nat.le_refl _); replace RX := Lib.hid ((hb.block _ (row_lt RX.out)).trans RX.out); replace RV := Lib.hid ((hb.block _ (row_lt RV.out)).trans RV.out); replace R23 := Lib.hid ((hb.block _ (row_lt R23.out)).trans R23.out); replace R28 := Lib.hid ((hb.block _ (row_lt R28.out)).trans R28.out); replace HW1 := Lib.hid (HW1.out.keep hb); replace HV8 := Lib.hid (HV8.out.keep hb); replace HA := Lib.hid (HA.out.keep hb); replace HBH := Lib.hid (HBH.out.keep hb); replace HS := Lib.hid (HS.out.keep hb); replace HB := Lib.hid (HB.out.trans (hb.mono HB.out.size)); have R31 := Lib.hid hr; have k0 := row_cell (v := .int .i64 x0) RX.out 0 rfl; clear hr hg hs hb; (try simp only [Act.put])))
            refine (awake_any _).mono ?_
            rintro e z5 ⟨rfl, hbx⟩
            go_wp2_with fail
            go_ret
            exact ⟨rfl, HB.out.trans (hbx.mono HB.out.size)⟩
          · subst hE
            generalize on false x0 = u0
            generalize on false x1 = u1
            generalize on false x2 = u2
            generalize on false EN = u3
            go_wp2_with (first | ((with_reducible refine wpl_store_row rtE ?_ (.tmp 31) (.tmp 176) ?_ (z3.heap.size) ?_ (erow u0 u1 u2 u3) ?_ (erow_one _ _ _ _) 26 ?_ _ ?_ (heap_alloc_new z3 _) ?_); rfl; rfl; rfl; rfl; rfl; rfl; intro z4 hr hg hs; have hb : Below z3.heap.size z3 z4 := (ba (brefl z3) _).grown hg (by simp) (fun k hk => by cases hk; exact Nat.le_refl _); replace RX := Lib.hid ((hb.block _ (row_lt RX.out)).trans RX.out); replace RV := Lib.hid ((hb.block _ (row_lt RV.out)).trans RV.out); replace R23 := Lib.hid ((hb.block _ (row_lt R23.out)).trans R23.out); replace R28 := Lib.hid ((hb.block _ (row_lt R28.out)).trans R28.out); replace HW1 := Lib.hid (HW1.out.keep hb); replace HV8 := Lib.hid (HV8.out.keep hb); replace HA := Lib.hid (HA.out.keep hb); replace HBH := Lib.hid (HBH.out.keep hb); replace HS := Lib.hid (HS.out.keep hb); replace HB := Lib.hid (HB.out.trans (hb.mono HB.out.size)); have R31 := Lib.hid hr; have k0 := row_cell (v := .int .i64 x0) RX.out 0 rfl; clear hr hg hs hb; (try simp only [Act.put])))
            refine (awake_any _).mono ?_
            rintro e z5 ⟨rfl, hbx⟩
            go_wp2_with fail
            go_ret
            exact ⟨rfl, HB.out.trans (hbx.mono HB.out.size)⟩
          · subst hE
            rw [on_t, on_t, on_t, on_t]
            clear vc
            by_cases hen : EN = x3
            · have hvc : VC = true := by rw [← HV2.out]; simpa using hen
              subst hvc
              have hen2 := hen.symm
              clear HV2 hen
              subst hen2
              go_wp2_with (first | ((with_reducible refine wpl_store_row rtE ?_ (.tmp 31) (.tmp 176) ?_ (z3.heap.size) ?_ (erow x0 x1 x2 x3) ?_ (erow_one _ _ _ _) 26 ?_ _ ?_ (heap_alloc_new z3 _) ?_); rfl; rfl; rfl; rfl; rfl; rfl; intro z4 hr hg hs; have hb : Below z3.heap.size z3 z4 := (ba (brefl z3) _).grown hg (by simp) (fun k hk => by cases hk; exact Nat.le_refl _); replace RX := Lib.hid ((hb.block _ (row_lt RX.out)).trans RX.out); replace RV := Lib.hid ((hb.block _ (row_lt RV.out)).trans RV.out); replace R23 := Lib.hid ((hb.block _ (row_lt R23.out)).trans R23.out); replace R28 := Lib.hid ((hb.block _ (row_lt R28.out)).trans R28.out); replace HW1 := Lib.hid (HW1.out.keep hb); replace HV8 := Lib.hid (HV8.out.keep hb); replace HA := Lib.hid (HA.out.keep hb); replace HBH := Lib.hid (HBH.out.keep hb); replace HS := Lib.hid (HS.out.keep hb); replace HB := Lib.hid (HB.out.trans (hb.mono HB.out.size)); have R31 := Lib.hid hr; have k0 := row_cell (v := .int .i64 x0) RX.out 0 rfl; clear hr hg hs hb; (try simp only [Act.put])) | ((with_reducible refine wpl_load_row rtE ?_ (.tmp 31) ?_ (z3.heap.size) ?_ 26 (erow x0 x1 x2 x3) ?_ R31.out ?_); rfl; rfl; rfl; rfl; simp only [Act.put, List.setIfInBounds_toArray, List.set_cons_succ, List.set_cons_zero]) | ((with_reducible refine wpl_load_row rtE ?_ (.tmp 8) ?_ (w.heap.size) ?_ 26 (erow x0 x1 x2 x3) ?_ RX.out ?_); rfl; rfl; rfl; rfl; simp only [Act.put, List.setIfInBounds_toArray, List.set_cons_succ, List.set_cons_zero]))
              refine (awake_any _).mono ?_
              rintro e z5 ⟨rfl, hbx⟩
              go_wp2_with fail
              go_ret
              exact ⟨rfl, HB.out.trans (hbx.mono HB.out.size)⟩
            · have hvc : VC = false := by rw [← HV2.out]; simpa using hen
              subst hvc
              clear HV2
              go_wp2_with (first | ((with_reducible refine wpl_store_row rtE ?_ (.tmp 31) (.tmp 176) ?_ (z3.heap.size) ?_ (erow x0 x1 x2 EN) ?_ (erow_one _ _ _ _) 26 ?_ _ ?_ (heap_alloc_new z3 _) ?_); rfl; rfl; rfl; rfl; rfl; rfl; intro z4 hr hg hs; have hb : Below z3.heap.size z3 z4 := (ba (brefl z3) _).grown hg (by simp) (fun k hk => by cases hk; exact Nat.le_refl _); replace RX := Lib.hid ((hb.block _ (row_lt RX.out)).trans RX.out); replace RV := Lib.hid ((hb.block _ (row_lt RV.out)).trans RV.out); replace R23 := Lib.hid ((hb.block _ (row_lt R23.out)).trans R23.out); replace R28 := Lib.hid ((hb.block _ (row_lt R28.out)).trans R28.out); replace HW1 := Lib.hid (HW1.out.keep hb); replace HV8 := Lib.hid (HV8.out.keep hb); replace HA := Lib.hid (HA.out.keep hb); replace HBH := Lib.hid (HBH.out.keep hb); replace HS := Lib.hid (HS.out.keep hb); replace HB := Lib.hid (HB.out.trans (hb.mono HB.out.size)); have R31 := Lib.hid hr; have k0 := row_cell (v := .int .i64 x0) RX.out 0 rfl; clear hr hg hs hb; (try simp only [Act.put])) | ((with_reducible refine wpl_load_row rtE ?_ (.tmp 31) ?_ (z3.heap.size) ?_ 26 (erow x0 x1 x2 EN) ?_ R31.out ?_); rfl; rfl; rfl; rfl; simp only [Act.put, List.setIfInBounds_toArray, List.set_cons_succ, List.set_cons_zero]) | ((with_reducible refine wpl_load_row rtE ?_ (.tmp 8) ?_ (w.heap.size) ?_ 26 (erow x0 x1 x2 x3) ?_ RX.out ?_); rfl; rfl; rfl; rfl; simp only [Act.put, List.setIfInBounds_toArray, List.set_cons_succ, List.set_cons_zero]))
              refine (awake_any _).mono ?_
              rintro e z5 ⟨rfl, hbx⟩
              go_wp2_with fail
              go_ret
              exact ⟨rfl, HB.out.trans (hbx.mono HB.out.size)⟩
      | true =>
        obtain ⟨v1, v2, v3⟩ := HEF.out heb
        rw [on_t, on_t, on_t, on_t]
        have HVV := Lib.hid (fun W => eval_any tag t c (eN t c l o) o W)
        rw [v1, v2, v3, on_t, on_t] at HVV
        clear heb HEF v1 v2 v3
        generalize eN t c l o = EV at *
        go_wp2_with (first | ((with_reducible refine wpl_store_row rtE ?_ (.tmp 23) (.tmp 122) ?_ (y1.heap.size) ?_ (erow tag t c EV) ?_ (erow_one _ _ _ _) 26 ?_ _ ?_ (heap_alloc_new y1 _) ?_); rfl; rfl; rfl; rfl; rfl; rfl; intro y2 hr hg hs; have hb : Below y1.heap.size y1 y2 := (ba (brefl y1) _).grown hg (by simp) (fun k hk => by cases hk; exact Nat.le_refl _); replace RX := Lib.hid ((hb.block _ (row_lt RX.out)).trans RX.out); replace RV := Lib.hid ((hb.block _ (row_lt RV.out)).trans RV.out); replace HW1 := Lib.hid (HW1.out.keep hb); replace HA := Lib.hid (HA.out.keep hb); replace HBH := Lib.hid (HBH.out.keep hb); replace HS := Lib.hid (HS.out.keep hb); replace HB := Lib.hid (HB.out.trans (hb.mono HB.out.size)); have R23 := Lib.hid hr; clear hr hg hs hb; (try simp only [Act.put])) | ((with_reducible refine wpl_load_row rtE ?_ (.tmp 23) ?_ (y1.heap.size) ?_ 26 (erow tag t c EV) ?_ R23.out ?_); rfl; rfl; rfl; rfl; simp only [Act.put, List.setIfInBounds_toArray, List.set_cons_succ, List.set_cons_zero]))
        obtain ⟨g23, hg23⟩ : ∃ g, g = y1.heap.size := ⟨_, rfl⟩
        rw [← hg23] at R23 ⊢
        clear hg23
        refine (HVV.out y2).mono ?_
        rintro e y3 ⟨A7, c7, rfl, hox, hbx⟩
        have HV7 := Lib.hid hox
        replace RX := Lib.hid ((hbx.block _ (row_lt RX.out)).trans RX.out)
        replace RV := Lib.hid ((hbx.block _ (row_lt RV.out)).trans RV.out)
        replace R23 := Lib.hid ((hbx.block _ (row_lt R23.out)).trans R23.out)
        replace HW1 := Lib.hid (HW1.out.keep hbx)
        replace HA := Lib.hid (HA.out.keep hbx)
        replace HBH := Lib.hid (HBH.out.keep hbx)
        replace HS := Lib.hid (HS.out.keep hbx)
        replace HB := Lib.hid (HB.out.trans (hbx.mono HB.out.size))
        clear hox hbx
        have tt : (tag != tag) = false := by simp
        go_wp2_with (first | ((with_reducible refine wpl_store_row rtV ?_ (.tmp 25) (.tmp 129) ?_ (y3.heap.size) ?_ (vrow t c A7 l.length c7) ?_ (vrow_one _ _ _ _ _) 24 ?_ _ ?_ (heap_alloc_new y3 _) ?_); rfl; rfl; rfl; rfl; rfl; rfl; intro y4 hr hg hs; have hb : Below y3.heap.size y3 y4 := (ba (brefl y3) _).grown hg (by simp) (fun k hk => by cases hk; exact Nat.le_refl _); replace RX := Lib.hid ((hb.block _ (row_lt RX.out)).trans RX.out); replace RV := Lib.hid ((hb.block _ (row_lt RV.out)).trans RV.out); replace R23 := Lib.hid ((hb.block _ (row_lt R23.out)).trans R23.out); replace HW1 := Lib.hid (HW1.out.keep hb); replace HV7 := Lib.hid (HV7.out.keep hb); replace HA := Lib.hid (HA.out.keep hb); replace HBH := Lib.hid (HBH.out.keep hb); replace HS := Lib.hid (HS.out.keep hb); replace HB := Lib.hid (HB.out.trans (hb.mono HB.out.size)); have R25 := Lib.hid hr; clear hr hg hs hb; (try simp only [Act.put])) | ((with_reducible refine wpl_load_row rtV ?_ (.tmp 25) ?_ (y3.heap.size) ?_ 24 (vrow t c A7 l.length c7) ?_ R25.out ?_); rfl; rfl; rfl; rfl; simp only [Act.put, List.setIfInBounds_toArray, List.set_cons_succ, List.set_cons_zero]) | ((with_reducible refine wpl_load_row rtV ?_ (.tmp 9) ?_ (w.heap.size + 1) ?_ 24 (vrow t c A l.length cap) ?_ RV.out ?_); rfl; rfl; rfl; rfl; simp only [Act.put, List.setIfInBounds_toArray, List.set_cons_succ, List.set_cons_zero]))
        have HQS := Lib.hid (vsame_any t c A7 l c7 t c A l cap y4 HV7.out.sl'.2 HS.out HBY.out HBY.out)
        rw [smV_refl] at HQS
        refine (HQS.out).mono ?_
        rintro e y5 ⟨rfl, hbx⟩
        replace RX := Lib.hid ((hbx.block _ (row_lt RX.out)).trans RX.out)
        replace RV := Lib.hid ((hbx.block _ (row_lt RV.out)).trans RV.out)
        replace R23 := Lib.hid ((hbx.block _ (row_lt R23.out)).trans R23.out)
        replace R25 := Lib.hid ((hbx.block _ (row_lt R25.out)).trans R25.out)
        replace HW1 := Lib.hid (HW1.out.keep hbx)
        replace HV7 := Lib.hid (HV7.out.keep hbx)
        replace HA := Lib.hid (HA.out.keep hbx)
        replace HBH := Lib.hid (HBH.out.keep hbx)
        replace HS := Lib.hid (HS.out.keep hbx)
        replace HB := Lib.hid (HB.out.trans (hbx.mono HB.out.size))
        clear hbx
        have k0 := row_cell (v := .int .i64 tag) R23.out 0 rfl
        clear HQS HVV
        go_wp2_with (first | ((with_reducible refine wpl_load_row rtE ?_ (.tmp 8) ?_ (w.heap.size) ?_ 26 (erow x0 x1 x2 x3) ?_ RX.out ?_); rfl; rfl; rfl; rfl; simp only [Act.put, List.setIfInBounds_toArray, List.set_cons_succ, List.set_cons_zero]))
        clear k0
        have HVB := Lib.hid (show (evB x1 x2 x3 o = false → evL x1 x2 x3 o = [] ∧ evC x1 x2 x3 o = false) ∧ (evB x1 x2 x3 o = true → eB x0 x1 x2 (evL x1 x2 x3 o) o = (decide (0 ≤ x0) && decide (x0 < 65536)) ∧ decide (eN x1 x2 (evL x1 x2 x3 o) o = x3) = evC x1 x2 x3 o ∧ Byts (evL x1 x2 x3 o) ∧ (evL x1 x2 x3 o).length ≤ 4) from ⟨fun h => ⟨by unfold evL; rw [h]; rfl, by unfold evC; rw [h]; rfl⟩, fun h => val_back h⟩)
        refine (eval_any x0 x1 x2 x3 o y5).mono ?_
        rintro e z1 ⟨A8, c8, rfl, hox, hbx⟩
        have HV8 := Lib.hid hox
        replace RX := Lib.hid ((hbx.block _ (row_lt RX.out)).trans RX.out)
        replace RV := Lib.hid ((hbx.block _ (row_lt RV.out)).trans RV.out)
        replace R23 := Lib.hid ((hbx.block _ (row_lt R23.out)).trans R23.out)
        replace R25 := Lib.hid ((hbx.block _ (row_lt R25.out)).trans R25.out)
        replace HW1 := Lib.hid (HW1.out.keep hbx)
        replace HV7 := Lib.hid (HV7.out.keep hbx)
        replace HA := Lib.hid (HA.out.keep hbx)
        replace HBH := Lib.hid (HBH.out.keep hbx)
        replace HS := Lib.hid (HS.out.keep hbx)
        replace HB := Lib.hid (HB.out.trans (hbx.mono HB.out.size))
        clear hox hbx
        cases hvb : evB x1 x2 x3 o with
        | false =>
          obtain ⟨v1, v2⟩ := HVB.out.1 hvb
          rw [v1] at HV8 ⊢
          rw [v2]
          clear hvb v1 v2 HVB
          generalize on false x1 = u1
          generalize on false x2 = u2
          go_wp2_with (first | ((with_reducible refine wpl_store_row rtV ?_ (.tmp 28) (.tmp 154) ?_ (z1.heap.size) ?_ (vrow u1 u2 A8 0 c8) ?_ (vrow_one _ _ _ _ _) 24 ?_ _ ?_ (heap_alloc_new z1 _) ?_); rfl; rfl; rfl; rfl; rfl; rfl; intro z2 hr hg hs; have hb : Below z1.heap.size z1 z2 := (ba (brefl z1) _).grown hg (by simp) (fun k hk => by cases hk; exact Nat.le_refl _); replace RX := Lib.hid ((hb.block _ (row_lt RX.out)).trans RX.out); replace RV := Lib.hid ((hb.block _ (row_lt RV.out)).trans RV.out); replace R23 := Lib.hid ((hb.block _ (row_lt R23.out)).trans R23.out); replace R25 := Lib.hid ((hb.block _ (row_lt R25.out)).trans R25.out); replace HW1 := Lib.hid (HW1.out.keep hb); replace HV7 := Lib.hid (HV7.out.keep hb); replace HV8 := Lib.hid (HV8.out.keep hb); replace HA := Lib.hid (HA.out.keep hb); replace HBH := Lib.hid (HBH.out.keep hb); replace HS := Lib.hid (HS.out.keep hb); replace HB := Lib.hid (HB.out.trans (hb.mono HB.out.size)); have R28 := Lib.hid hr; have q28 := row_cell (v := .slice A8 0 c8) R28.out 2 rfl; clear hr hg hs hb; (try simp only [Act.put])))
          refine (awake_any _).mono ?_
          rintro e z3 ⟨rfl, hbx⟩
          go_wp2_with fail
          go_ret
          exact ⟨rfl, HB.out.trans (hbx.mono HB.out.size)⟩
        | true =>
          obtain ⟨v1, v2, v3, v4⟩ := HVB.out.2 hvb
          have HV1 := Lib.hid v1
          have HV2 := Lib.hid v2
          have HV3 := Lib.hid v3
          have HOFX := Lib.hid (fun W A c (h : Sl .u8 W A (evL x1 x2 x3 o)) => eof_any x0 x1 x2 A (evL x1 x2 x3 o) c o W h (by omega) v3)
          rw [on_t, on_t]
          clear hvb v1 v2 v3 v4 HVB
          generalize eN x1 x2 (evL x1 x2 x3 o) o = EN at *
          generalize hEB : eB x0 x1 x2 (evL x1 x2 x3 o) o = EB at *
          clear hEB
          generalize evL x1 x2 x3 o = VL at *
          generalize evC x1 x2 x3 o = VC at *
          go_wp2_with (first | ((with_reducible refine wpl_store_row rtV ?_ (.tmp 28) (.tmp 154) ?_ (z1.heap.size) ?_ (vrow x1 x2 A8 VL.length c8) ?_ (vrow_one _ _ _ _ _) 24 ?_ _ ?_ (heap_alloc_new z1 _) ?_); rfl; rfl; rfl; rfl; rfl; rfl; intro z2 hr hg hs; have hb : Below z1.heap.size z1 z2 := (ba (brefl z1) _).grown hg (by simp) (fun k hk => by cases hk; exact Nat.le_refl _); replace RX := Lib.hid ((hb.block _ (row_lt RX.out)).trans RX.out); replace RV := Lib.hid ((hb.block _ (row_lt RV.out)).trans RV.out); replace R23 := Lib.hid ((hb.block _ (row_lt R23.out)).trans R23.out); replace R25 := Lib.hid ((hb.block _ (row_lt R25.out)).trans R25.out); replace HW1 := Lib.hid (HW1.out.keep hb); replace HV7 := Lib.hid (HV7.out.keep hb); replace HV8 := Lib.hid (HV8.out.keep hb); replace HA := Lib.hid (HA.out.keep hb); replace HBH := Lib.hid (HBH.out.keep hb); replace HS := Lib.hid (HS.out.keep hb); replace HB := Lib.hid (HB.out.trans (hb.mono HB.out.size)); have R28 := Lib.hid hr; have k0 := row_cell (v := .int .i64 x0) RX.out 0 rfl; clear hr hg hs hb; (try simp only [Act.put])) | ((with_reducible refine wpl_load_row rtV ?_ (.tmp 28) ?_ (z1.heap.size) ?_ 24 (vrow x1 x2 A8 VL.length c8) ?_ R28.out ?_); rfl; rfl; rfl; rfl; simp only [Act.put, List.setIfInBounds_toArray, List.set_cons_succ, List.set_cons_zero]))
          refine (HOFX.out _ _ _ HV8.out.sl'.2).mono ?_
          rintro e z3 ⟨rfl, hbx⟩
          replace RX := Lib.hid ((hbx.block _ (row_lt RX.out)).trans RX.out)
          replace RV := Lib.hid ((hbx.block _ (row_lt RV.out)).trans RV.out)
          replace R23 := Lib.hid ((hbx.block _ (row_lt R23.out)).trans R23.out)
          replace R25 := Lib.hid ((hbx.block _ (row_lt R25.out)).trans R25.out)
          replace R28 := Lib.hid ((hbx.block _ (row_lt R28.out)).trans R28.out)
          replace HW1 := Lib.hid (HW1.out.keep hbx)
          replace HV7 := Lib.hid (HV7.out.keep hbx)
          replace HV8 := Lib.hid (HV8.out.keep hbx)
          replace HA := Lib.hid (HA.out.keep hbx)
          replace HBH := Lib.hid (HBH.out.keep hbx)
          replace HS := Lib.hid (HS.out.keep hbx)
          replace HB := Lib.hid (HB.out.trans (hbx.mono HB.out.size))
          clear hbx
          clear k0
          have vc : (VC == VC) = true := by simp
          have step : (decide (0 ≤ x0) = false ∧ EB = false) ∨ (decide (0 ≤ x0) = true ∧ decide (x0 < 65536) = false ∧ EB = false) ∨ (decide (0 ≤ x0) = true ∧ decide (x0 < 65536) = true ∧ EB = true) := by
            rw [HV1.out]
            cases decide (0 ≤ x0) <;> cases decide (x0 < 65536) <;> simp
          have HEQ := Lib.hid (show ∀ w, (Op.equalIn 10000 26 (.agg (erow x0 x1 x2 EN)) (.agg (erow x0 x1 x2 x3))).run Try.prog w = .ok VC w from fun w => by rw [entry_q, eqE_slot, HV2.out])
          clear HV1 HV3 HOFX HEQ
          rcases step with ⟨t1, hE⟩ | ⟨t1, t2, hE⟩ | ⟨t1, t2, hE⟩
          · subst hE
            generalize on false x0 = u0
            generalize on false x1 = u1
            generalize on false x2 = u2
            generalize on false EN = u3
            go_wp2_with (first | ((with_reducible refine wpl_store_row rtE ?_ (.tmp 31) (.tmp 176) ?_ (z3.heap.size) ?_ (erow u0 u1 u2 u3) ?_ (erow_one _ _ _ _) 26 ?_ _ ?_ (heap_alloc_new z3 _) ?_); rfl; rfl; rfl; rfl; rfl; rfl; intro z4 hr hg hs; have hb : Below z3.heap.size z3 z4 := (ba (brefl z3) _).grown hg (by simp) (fun k hk => by cases hk; exact Nat.le_refl _); replace RX := Lib.hid ((hb.block _ (row_lt RX.out)).trans RX.out); replace RV := Lib.hid ((hb.block _ (row_lt RV.out)).trans RV.out); replace R23 := Lib.hid ((hb.block _ (row_lt R23.out)).trans R23.out); replace R25 := Lib.hid ((hb.block _ (row_lt R25.out)).trans R25.out); replace R28 := Lib.hid ((hb.block _ (row_lt R28.out)).trans R28.out); replace HW1 := Lib.hid (HW1.out.keep hb); replace HV7 := Lib.hid (HV7.out.keep hb); replace HV8 := Lib.hid (HV8.out.keep hb); replace HA := Lib.hid (HA.out.keep hb); replace HBH := Lib.hid (HBH.out.keep hb); replace HS := Lib.hid (HS.out.keep hb); replace HB := Lib.hid (HB.out.trans (hb.mono HB.out.size)); have R31 := Lib.hid hr; have k0 := row_cell (v := .int .i64 x0) RX.out 0 rfl; clear hr hg hs hb; (try simp only [Act.put])))
            refine (awake_any _).mono ?_
            rintro e z5 ⟨rfl, hbx⟩
            go_wp2_with fail
            go_ret
            exact ⟨rfl, HB.out.trans (hbx.mono HB.out.size)⟩
          · subst hE
            generalize on false x0 = u0
            generalize on false x1 = u1
            generalize on false x2 = u2
            generalize on false EN = u3
            go_wp2_with (first | ((with_reducible refine wpl_store_row rtE ?_ (.tmp 31) (.tmp 176) ?_ (z3.heap.size) ?_ (erow u0 u1 u2 u3) ?_ (erow_one _ _ _ _) 26 ?_ _ ?_ (heap_alloc_new z3 _) ?_); rfl; rfl; rfl; rfl; rfl; rfl; intro z4 hr hg hs; have hb : Below z3.heap.size z3 z4 := (ba (brefl z3) _).grown hg (by simp) (fun k hk => by cases hk; exact Nat.le_refl _); replace RX := Lib.hid ((hb.block _ (row_lt RX.out)).trans RX.out); replace RV := Lib.hid ((hb.block _ (row_lt RV.out)).trans RV.out); replace R23 := Lib.hid ((hb.block _ (row_lt R23.out)).trans R23.out); replace R25 := Lib.hid ((hb.block _ (row_lt R25.out)).trans R25.out); replace R28 := Lib.hid ((hb.block _ (row_lt R28.out)).trans R28.out); replace HW1 := Lib.hid (HW1.out.keep hb); replace HV7 := Lib.hid (HV7.out.keep hb); replace HV8 := Lib.hid (HV8.out.keep hb); replace HA := Lib.hid (HA.out.keep hb); replace HBH := Lib.hid (HBH.out.keep hb); replace HS := Lib.hid (HS.out.keep hb); replace HB := Lib.hid (HB.out.trans (hb.mono HB.out.size)); have R31 := Lib.hid hr; have k0 := row_cell (v := .int .i64 x0) RX.out 0 rfl; clear hr hg hs hb; (try simp only [Act.put])))
            refine (awake_any _).mono ?_
            rintro e z5 ⟨rfl, hbx⟩
            go_wp2_with fail
            go_ret
            exact ⟨rfl, HB.out.trans (hbx.mono HB.out.size)⟩
          · subst hE
            rw [on_t, on_t, on_t, on_t]
            clear vc
            by_cases hen : EN = x3
            · have hvc : VC = true := by rw [← HV2.out]; simpa using hen
              subst hvc
              have hen2 := hen.symm
              clear HV2 hen
              subst hen2
              go_wp2_with (first | ((with_reducible refine wpl_store_row rtE ?_ (.tmp 31) (.tmp 176) ?_ (z3.heap.size) ?_ (erow x0 x1 x2 x3) ?_ (erow_one _ _ _ _) 26 ?_ _ ?_ (heap_alloc_new z3 _) ?_); rfl; rfl; rfl; rfl; rfl; rfl; intro z4 hr hg hs; have hb : Below z3.heap.size z3 z4 := (ba (brefl z3) _).grown hg (by simp) (fun k hk => by cases hk; exact Nat.le_refl _); replace RX := Lib.hid ((hb.block _ (row_lt RX.out)).trans RX.out); replace RV := Lib.hid ((hb.block _ (row_lt RV.out)).trans RV.out); replace R23 := Lib.hid ((hb.block _ (row_lt R23.out)).trans R23.out); replace R25 := Lib.hid ((hb.block _ (row_lt R25.out)).trans R25.out); replace R28 := Lib.hid ((hb.block _ (row_lt R28.out)).trans R28.out); replace HW1 := Lib.hid (HW1.out.keep hb); replace HV7 := Lib.hid (HV7.out.keep hb); replace HV8 := Lib.hid (HV8.out.keep hb); replace HA := Lib.hid (HA.out.keep hb); replace HBH := Lib.hid (HBH.out.keep hb); replace HS := Lib.hid (HS.out.keep hb); replace HB := Lib.hid (HB.out.trans (hb.mono HB.out.size)); have R31 := Lib.hid hr; have k0 := row_cell (v := .int .i64 x0) RX.out 0 rfl; clear hr hg hs hb; (try simp only [Act.put])) | ((with_reducible refine wpl_load_row rtE ?_ (.tmp 31) ?_ (z3.heap.size) ?_ 26 (erow x0 x1 x2 x3) ?_ R31.out ?_); rfl; rfl; rfl; rfl; simp only [Act.put, List.setIfInBounds_toArray, List.set_cons_succ, List.set_cons_zero]) | ((with_reducible refine wpl_load_row rtE ?_ (.tmp 8) ?_ (w.heap.size) ?_ 26 (erow x0 x1 x2 x3) ?_ RX.out ?_); rfl; rfl; rfl; rfl; simp only [Act.put, List.setIfInBounds_toArray, List.set_cons_succ, List.set_cons_zero]))
              refine (awake_any _).mono ?_
              rintro e z5 ⟨rfl, hbx⟩
              go_wp2_with fail
              go_ret
              exact ⟨rfl, HB.out.trans (hbx.mono HB.out.size)⟩
            · have hvc : VC = false := by rw [← HV2.out]; simpa using hen
              subst hvc
              clear HV2
              go_wp2_with (first | ((with_reducible refine wpl_store_row rtE ?_ (.tmp 31) (.tmp 176) ?_ (z3.heap.size) ?_ (erow x0 x1 x2 EN) ?_ (erow_one _ _ _ _) 26 ?_ _ ?_ (heap_alloc_new z3 _) ?_); rfl; rfl; rfl; rfl; rfl; rfl; intro z4 hr hg hs; have hb : Below z3.heap.size z3 z4 := (ba (brefl z3) _).grown hg (by simp) (fun k hk => by cases hk; exact Nat.le_refl _); replace RX := Lib.hid ((hb.block _ (row_lt RX.out)).trans RX.out); replace RV := Lib.hid ((hb.block _ (row_lt RV.out)).trans RV.out); replace R23 := Lib.hid ((hb.block _ (row_lt R23.out)).trans R23.out); replace R25 := Lib.hid ((hb.block _ (row_lt R25.out)).trans R25.out); replace R28 := Lib.hid ((hb.block _ (row_lt R28.out)).trans R28.out); replace HW1 := Lib.hid (HW1.out.keep hb); replace HV7 := Lib.hid (HV7.out.keep hb); replace HV8 := Lib.hid (HV8.out.keep hb); replace HA := Lib.hid (HA.out.keep hb); replace HBH := Lib.hid (HBH.out.keep hb); replace HS := Lib.hid (HS.out.keep hb); replace HB := Lib.hid (HB.out.trans (hb.mono HB.out.size)); have R31 := Lib.hid hr; have k0 := row_cell (v := .int .i64 x0) RX.out 0 rfl; clear hr hg hs hb; (try simp only [Act.put])) | ((with_reducible refine wpl_load_row rtE ?_ (.tmp 31) ?_ (z3.heap.size) ?_ 26 (erow x0 x1 x2 EN) ?_ R31.out ?_); rfl; rfl; rfl; rfl; simp only [Act.put, List.setIfInBounds_toArray, List.set_cons_succ, List.set_cons_zero]) | ((with_reducible refine wpl_load_row rtE ?_ (.tmp 8) ?_ (w.heap.size) ?_ 26 (erow x0 x1 x2 x3) ?_ RX.out ?_); rfl; rfl; rfl; rfl; simp only [Act.put, List.setIfInBounds_toArray, List.set_cons_succ, List.set_cons_zero]))
              refine (awake_any _).mono ?_
              rintro e z5 ⟨rfl, hbx⟩
              go_wp2_with fail
              go_ret
              exact ⟨rfl, HB.out.trans (hbx.mono HB.out.size)⟩
    | true =>
      obtain ⟨v1, v2, v3⟩ := HEW.out hrb
      have h12 : (lb.take 12).length = 12 := by rw [List.length_take]; omega
      have i12 : ¬ ((lb.length : Int) < 12) := by omega
      have j12 : (12 : Int) ≤ (capb : Int) := by omega
      rw [v1, v2, h12] at HWR
      have HSM := Lib.hid (fun W A c (h : Sl .u8 W A (lb.take 12)) (h2 : Sl .u8 W Ab (lb.take 12)) => same_any A Ab (lb.take 12) (lb.take 12) c capb W h h2 (by omega) (by omega))
      rw [h12] at HSM
      have HL12 := Lib.hid h12
      clear hrb HEW v1 v2 v3 h12
      have dd : decide (lb.take 12 = lb.take 12) = true := by simp
      go_wp2_with (first | ((with_reducible refine wpl_store_row rtE ?_ (.tmp 19) (.tmp 94) ?_ (x5.heap.size) ?_ (erow r0 r1 r2 r3) ?_ (erow_one _ _ _ _) 26 ?_ _ ?_ (heap_alloc_new x5 _) ?_); rfl; rfl; rfl; rfl; rfl; rfl; intro x6 hr hg hs; have hb : Below x5.heap.size x5 x6 := (ba (brefl x5) _).grown hg (by simp) (fun k hk => by cases hk; exact Nat.le_refl _); replace RX := Lib.hid ((hb.block _ (row_lt RX.out)).trans RX.out); replace RV := Lib.hid ((hb.block _ (row_lt RV.out)).trans RV.out); replace HW1 := Lib.hid (HW1.out.keep hb); replace HA := Lib.hid (HA.out.keep hb); replace HBH := Lib.hid (HBH.out.keep hb); replace HS := Lib.hid (HS.out.keep hb); replace HB := Lib.hid (HB.out.trans (hb.mono HB.out.size)); have R19 := Lib.hid hr; clear hr hg hs hb; (try simp only [Act.put])) | ((with_reducible refine wpl_load_row rtE ?_ (.tmp 19) ?_ (x5.heap.size) ?_ 26 (erow r0 r1 r2 r3) ?_ R19.out ?_); rfl; rfl; rfl; rfl; simp only [Act.put, List.setIfInBounds_toArray, List.set_cons_succ, List.set_cons_zero]))
      refine (HWR.out x6).mono ?_
      rintro e x7 ⟨A5, c5, rfl, hox, hbx⟩
      have HW5 := Lib.hid hox
      replace RX := Lib.hid ((hbx.block _ (row_lt RX.out)).trans RX.out)
      replace RV := Lib.hid ((hbx.block _ (row_lt RV.out)).trans RV.out)
      replace HW1 := Lib.hid (HW1.out.keep hbx)
      replace HA := Lib.hid (HA.out.keep hbx)
      replace HBH := Lib.hid (HBH.out.keep hbx)
      replace HS := Lib.hid (HS.out.keep hbx)
      replace HB := Lib.hid (HB.out.trans (hbx.mono HB.out.size))
      clear hox hbx
      go_wp2_with fail
      refine (HSM.out x7 _ _ HW5.out.sl'.2 (HBH.out.take 12)).mono ?_
      rintro e x8 ⟨rfl, hbx⟩
      replace RX := Lib.hid ((hbx.block _ (row_lt RX.out)).trans RX.out)
      replace RV := Lib.hid ((hbx.block _ (row_lt RV.out)).trans RV.out)
      replace HW1 := Lib.hid (HW1.out.keep hbx)
      replace HW5 := Lib.hid (HW5.out.keep hbx)
      replace HA := Lib.hid (HA.out.keep hbx)
      replace HBH := Lib.hid (HBH.out.keep hbx)
      replace HS := Lib.hid (HS.out.keep hbx)
      replace HB := Lib.hid (HB.out.trans (hbx.mono HB.out.size))
      clear hbx
      rw [dd]
      clear dd HSM HWR
      go_wp2_with (first | ((with_reducible refine wpl_load_row rtV ?_ (.tmp 9) ?_ (w.heap.size + 1) ?_ 24 (vrow t c A l.length cap) ?_ RV.out ?_); rfl; rfl; rfl; rfl; simp only [Act.put, List.setIfInBounds_toArray, List.set_cons_succ, List.set_cons_zero]))
      clear HW5
      clear i12 j12
      have HEF := Lib.hid (show eB tag t c l o = true → evB t c (eN t c l o) o = true ∧ evL t c (eN t c l o) o = l ∧ evC t c (eN t c l o) o = true from fun h => eof_back HBY.out h)
      refine (eof_any tag t c A l cap o x8 HS.out (by omega) HBY.out).mono ?_
      rintro e y1 ⟨rfl, hbx⟩
      replace RX := Lib.hid ((hbx.block _ (row_lt RX.out)).trans RX.out)
      replace RV := Lib.hid ((hbx.block _ (row_lt RV.out)).trans RV.out)
      replace HW1 := Lib.hid (HW1.out.keep hbx)
      replace HA := Lib.hid (HA.out.keep hbx)
      replace HBH := Lib.hid (HBH.out.keep hbx)
      replace HS := Lib.hid (HS.out.keep hbx)
      replace HB := Lib.hid (HB.out.trans (hbx.mono HB.out.size))
      clear hbx
      cases heb : eB tag t c l o with
      | false =>
        clear heb HEF
        generalize on false tag = u0
        generalize on false t = u1
        generalize on false c = u2
        generalize on false (eN t c l o) = u3
        go_wp2_with (first | ((with_reducible refine wpl_store_row rtE ?_ (.tmp 23) (.tmp 122) ?_ (y1.heap.size) ?_ (erow u0 u1 u2 u3) ?_ (erow_one _ _ _ _) 26 ?_ _ ?_ (heap_alloc_new y1 _) ?_); rfl; rfl; rfl; rfl; rfl; rfl; intro y2 hr hg hs; have hb : Below y1.heap.size y1 y2 := (ba (brefl y1) _).grown hg (by simp) (fun k hk => by cases hk; exact Nat.le_refl _); replace RX := Lib.hid ((hb.block _ (row_lt RX.out)).trans RX.out); replace RV := Lib.hid ((hb.block _ (row_lt RV.out)).trans RV.out); replace HW1 := Lib.hid (HW1.out.keep hb); replace HA := Lib.hid (HA.out.keep hb); replace HBH := Lib.hid (HBH.out.keep hb); replace HS := Lib.hid (HS.out.keep hb); replace HB := Lib.hid (HB.out.trans (hb.mono HB.out.size)); have R23 := Lib.hid hr; clear hr hg hs hb; (try simp only [Act.put])) | ((with_reducible refine wpl_load_row rtE ?_ (.tmp 8) ?_ (w.heap.size) ?_ 26 (erow x0 x1 x2 x3) ?_ RX.out ?_); rfl; rfl; rfl; rfl; simp only [Act.put, List.setIfInBounds_toArray, List.set_cons_succ, List.set_cons_zero]))
        have HVB := Lib.hid (show (evB x1 x2 x3 o = false → evL x1 x2 x3 o = [] ∧ evC x1 x2 x3 o = false) ∧ (evB x1 x2 x3 o = true → eB x0 x1 x2 (evL x1 x2 x3 o) o = (decide (0 ≤ x0) && decide (x0 < 65536)) ∧ decide (eN x1 x2 (evL x1 x2 x3 o) o = x3) = evC x1 x2 x3 o ∧ Byts (evL x1 x2 x3 o) ∧ (evL x1 x2 x3 o).length ≤ 4) from ⟨fun h => ⟨by unfold evL; rw [h]; rfl, by unfold evC; rw [h]; rfl⟩, fun h => val_back h⟩)
        refine (eval_any x0 x1 x2 x3 o y2).mono ?_
        rintro e z1 ⟨A8, c8, rfl, hox, hbx⟩
        have HV8 := Lib.hid hox
        replace RX := Lib.hid ((hbx.block _ (row_lt RX.out)).trans RX.out)
        replace RV := Lib.hid ((hbx.block _ (row_lt RV.out)).trans RV.out)
        replace R23 := Lib.hid ((hbx.block _ (row_lt R23.out)).trans R23.out)
        replace HW1 := Lib.hid (HW1.out.keep hbx)
        replace HA := Lib.hid (HA.out.keep hbx)
        replace HBH := Lib.hid (HBH.out.keep hbx)
        replace HS := Lib.hid (HS.out.keep hbx)
        replace HB := Lib.hid (HB.out.trans (hbx.mono HB.out.size))
        clear hox hbx
        cases hvb : evB x1 x2 x3 o with
        | false =>
          obtain ⟨v1, v2⟩ := HVB.out.1 hvb
          rw [v1] at HV8 ⊢
          rw [v2]
          clear hvb v1 v2 HVB
          generalize on false x1 = u1
          generalize on false x2 = u2
          go_wp2_with (first | ((with_reducible refine wpl_store_row rtV ?_ (.tmp 28) (.tmp 154) ?_ (z1.heap.size) ?_ (vrow u1 u2 A8 0 c8) ?_ (vrow_one _ _ _ _ _) 24 ?_ _ ?_ (heap_alloc_new z1 _) ?_); rfl; rfl; rfl; rfl; rfl; rfl; intro z2 hr hg hs; have hb : Below z1.heap.size z1 z2 := (ba (brefl z1) _).grown hg (by simp) (fun k hk => by cases hk; exact Nat.le_refl _); replace RX := Lib.hid ((hb.block _ (row_lt RX.out)).trans RX.out); replace RV := Lib.hid ((hb.block _ (row_lt RV.out)).trans RV.out); replace R23 := Lib.hid ((hb.block _ (row_lt R23.out)).trans R23.out); replace HW1 := Lib.hid (HW1.out.keep hb); replace HV8 := Lib.hid (HV8.out.keep hb); replace HA := Lib.hid (HA.out.keep hb); replace HBH := Lib.hid (HBH.out.keep hb); replace HS := Lib.hid (HS.out.keep hb); replace HB := Lib.hid (HB.out.trans (hb.mono HB.out.size)); have R28 := Lib.hid hr; have q28 := row_cell (v := .slice A8 0 c8) R28.out 2 rfl; clear hr hg hs hb; (try simp only [Act.put])))
          refine (awake_any _).mono ?_
          rintro e z3 ⟨rfl, hbx⟩
          go_wp2_with fail
          go_ret
          exact ⟨rfl, HB.out.trans (hbx.mono HB.out.size)⟩
        | true =>
          obtain ⟨v1, v2, v3, v4⟩ := HVB.out.2 hvb
          have HV1 := Lib.hid v1
          have HV2 := Lib.hid v2
          have HV3 := Lib.hid v3
          have HOFX := Lib.hid (fun W A c (h : Sl .u8 W A (evL x1 x2 x3 o)) => eof_any x0 x1 x2 A (evL x1 x2 x3 o) c o W h (by omega) v3)
          rw [on_t, on_t]
          clear hvb v1 v2 v3 v4 HVB
          generalize eN x1 x2 (evL x1 x2 x3 o) o = EN at *
          generalize hEB : eB x0 x1 x2 (evL x1 x2 x3 o) o = EB at *
          clear hEB
          generalize evL x1 x2 x3 o = VL at *
          generalize evC x1 x2 x3 o = VC at *
          go_wp2_with (first | ((with_reducible refine wpl_store_row rtV ?_ (.tmp 28) (.tmp 154) ?_ (z1.heap.size) ?_ (vrow x1 x2 A8 VL.length c8) ?_ (vrow_one _ _ _ _ _) 24 ?_ _ ?_ (heap_alloc_new z1 _) ?_); rfl; rfl; rfl; rfl; rfl; rfl; intro z2 hr hg hs; have hb : Below z1.heap.size z1 z2 := (ba (brefl z1) _).grown hg (by simp) (fun k hk => by cases hk; exact Nat.le_refl _); replace RX := Lib.hid ((hb.block _ (row_lt RX.out)).trans RX.out); replace RV := Lib.hid ((hb.block _ (row_lt RV.out)).trans RV.out); replace R23 := Lib.hid ((hb.block _ (row_lt R23.out)).trans R23.out); replace HW1 := Lib.hid (HW1.out.keep hb); replace HV8 := Lib.hid (HV8.out.keep hb); replace HA := Lib.hid (HA.out.keep hb); replace HBH := Lib.hid (HBH.out.keep hb); replace HS := Lib.hid (HS.out.keep hb); replace HB := Lib.hid (HB.out.trans (hb.mono HB.out.size)); have R28 := Lib.hid hr; have k0 := row_cell (v := .int .i64 x0) RX.out 0 rfl; clear hr hg hs hb; (try simp only [Act.put])) | ((with_reducible refine wpl_load_row rtV ?_ (.tmp 28) ?_ (z1.heap.size) ?_ 24 (vrow x1 x2 A8 VL.length c8) ?_ R28.out ?_); rfl; rfl; rfl; rfl; simp only [Act.put, List.setIfInBounds_toArray, List.set_cons_succ, List.set_cons_zero]))
          refine (HOFX.out _ _ _ HV8.out.sl'.2).mono ?_
          rintro e z3 ⟨rfl, hbx⟩
          replace RX := Lib.hid ((hbx.block _ (row_lt RX.out)).trans RX.out)
          replace RV := Lib.hid ((hbx.block _ (row_lt RV.out)).trans RV.out)
          replace R23 := Lib.hid ((hbx.block _ (row_lt R23.out)).trans R23.out)
          replace R28 := Lib.hid ((hbx.block _ (row_lt R28.out)).trans R28.out)
          replace HW1 := Lib.hid (HW1.out.keep hbx)
          replace HV8 := Lib.hid (HV8.out.keep hbx)
          replace HA := Lib.hid (HA.out.keep hbx)
          replace HBH := Lib.hid (HBH.out.keep hbx)
          replace HS := Lib.hid (HS.out.keep hbx)
          replace HB := Lib.hid (HB.out.trans (hbx.mono HB.out.size))
          clear hbx
          clear k0
          have vc : (VC == VC) = true := by simp
          have step : (decide (0 ≤ x0) = false ∧ EB = false) ∨ (decide (0 ≤ x0) = true ∧ decide (x0 < 65536) = false ∧ EB = false) ∨ (decide (0 ≤ x0) = true ∧ decide (x0 < 65536) = true ∧ EB = true) := by
            rw [HV1.out]
            cases decide (0 ≤ x0) <;> cases decide (x0 < 65536) <;> simp
          have HEQ := Lib.hid (show ∀ w, (Op.equalIn 10000 26 (.agg (erow x0 x1 x2 EN)) (.agg (erow x0 x1 x2 x3))).run Try.prog w = .ok VC w from fun w => by rw [entry_q, eqE_slot, HV2.out])
          clear HV1 HV3 HOFX HEQ
          rcases step with ⟨t1, hE⟩ | ⟨t1, t2, hE⟩ | ⟨t1, t2, hE⟩
          · subst hE
            generalize on false x0 = u0
            generalize on false x1 = u1
            generalize on false x2 = u2
            generalize on false EN = u3
            go_wp2_with (first | ((with_reducible refine wpl_store_row rtE ?_ (.tmp 31) (.tmp 176) ?_ (z3.heap.size) ?_ (erow u0 u1 u2 u3) ?_ (erow_one _ _ _ _) 26 ?_ _ ?_ (heap_alloc_new z3 _) ?_); rfl; rfl; rfl; rfl; rfl; rfl; intro z4 hr hg hs; have hb : Below z3.heap.size z3 z4 := (ba (brefl z3) _).grown hg (by simp) (fun k hk => by cases hk; exact Nat.le_refl _); replace RX := Lib.hid ((hb.block _ (row_lt RX.out)).trans RX.out); replace RV := Lib.hid ((hb.block _ (row_lt RV.out)).trans RV.out); replace R23 := Lib.hid ((hb.block _ (row_lt R23.out)).trans R23.out); replace R28 := Lib.hid ((hb.block _ (row_lt R28.out)).trans R28.out); replace HW1 := Lib.hid (HW1.out.keep hb); replace HV8 := Lib.hid (HV8.out.keep hb); replace HA := Lib.hid (HA.out.keep hb); replace HBH := Lib.hid (HBH.out.keep hb); replace HS := Lib.hid (HS.out.keep hb); replace HB := Lib.hid (HB.out.trans (hb.mono HB.out.size)); have R31 := Lib.hid hr; have k0 := row_cell (v := .int .i64 x0) RX.out 0 rfl; clear hr hg hs hb; (try simp only [Act.put])))
            refine (awake_any _).mono ?_
            rintro e z5 ⟨rfl, hbx⟩
            go_wp2_with fail
            go_ret
            exact ⟨rfl, HB.out.trans (hbx.mono HB.out.size)⟩
          · subst hE
            generalize on false x0 = u0
            generalize on false x1 = u1
            generalize on false x2 = u2
            generalize on false EN = u3
            go_wp2_with (first | ((with_reducible refine wpl_store_row rtE ?_ (.tmp 31) (.tmp 176) ?_ (z3.heap.size) ?_ (erow u0 u1 u2 u3) ?_ (erow_one _ _ _ _) 26 ?_ _ ?_ (heap_alloc_new z3 _) ?_); rfl; rfl; rfl; rfl; rfl; rfl; intro z4 hr hg hs; have hb : Below z3.heap.size z3 z4 := (ba (brefl z3) _).grown hg (by simp) (fun k hk => by cases hk; exact Nat.le_refl _); replace RX := Lib.hid ((hb.block _ (row_lt RX.out)).trans RX.out); replace RV := Lib.hid ((hb.block _ (row_lt RV.out)).trans RV.out); replace R23 := Lib.hid ((hb.block _ (row_lt R23.out)).trans R23.out); replace R28 := Lib.hid ((hb.block _ (row_lt R28.out)).trans R28.out); replace HW1 := Lib.hid (HW1.out.keep hb); replace HV8 := Lib.hid (HV8.out.keep hb); replace HA := Lib.hid (HA.out.keep hb); replace HBH := Lib.hid (HBH.out.keep hb); replace HS := Lib.hid (HS.out.keep hb); replace HB := Lib.hid (HB.out.trans (hb.mono HB.out.size)); have R31 := Lib.hid hr; have k0 := row_cell (v := .int .i64 x0) RX.out 0 rfl; clear hr hg hs hb; (try simp only [Act.put])))
            refine (awake_any _).mono ?_
            rintro e z5 ⟨rfl, hbx⟩
            go_wp2_with fail
            go_ret
            exact ⟨rfl, HB.out.trans (hbx.mono HB.out.size)⟩
          · subst hE
            rw [on_t, on_t, on_t, on_t]
            clear vc
            by_cases hen : EN = x3
            · have hvc : VC = true := by rw [← HV2.out]; simpa using hen
              subst hvc
              have hen2 := hen.symm
              clear HV2 hen
              subst hen2
              go_wp2_with (first | ((with_reducible refine wpl_store_row rtE ?_ (.tmp 31) (.tmp 176) ?_ (z3.heap.size) ?_ (erow x0 x1 x2 x3) ?_ (erow_one _ _ _ _) 26 ?_ _ ?_ (heap_alloc_new z3 _) ?_); rfl; rfl; rfl; rfl; rfl; rfl; intro z4 hr hg hs; have hb : Below z3.heap.size z3 z4 := (ba (brefl z3) _).grown hg (by simp) (fun k hk => by cases hk; exact Nat.le_refl _); replace RX := Lib.hid ((hb.block _ (row_lt RX.out)).trans RX.out); replace RV := Lib.hid ((hb.block _ (row_lt RV.out)).trans RV.out); replace R23 := Lib.hid ((hb.block _ (row_lt R23.out)).trans R23.out); replace R28 := Lib.hid ((hb.block _ (row_lt R28.out)).trans R28.out); replace HW1 := Lib.hid (HW1.out.keep hb); replace HV8 := Lib.hid (HV8.out.keep hb); replace HA := Lib.hid (HA.out.keep hb); replace HBH := Lib.hid (HBH.out.keep hb); replace HS := Lib.hid (HS.out.keep hb); replace HB := Lib.hid (HB.out.trans (hb.mono HB.out.size)); have R31 := Lib.hid hr; have k0 := row_cell (v := .int .i64 x0) RX.out 0 rfl; clear hr hg hs hb; (try simp only [Act.put])) | ((with_reducible refine wpl_load_row rtE ?_ (.tmp 31) ?_ (z3.heap.size) ?_ 26 (erow x0 x1 x2 x3) ?_ R31.out ?_); rfl; rfl; rfl; rfl; simp only [Act.put, List.setIfInBounds_toArray, List.set_cons_succ, List.set_cons_zero]) | ((with_reducible refine wpl_load_row rtE ?_ (.tmp 8) ?_ (w.heap.size) ?_ 26 (erow x0 x1 x2 x3) ?_ RX.out ?_); rfl; rfl; rfl; rfl; simp only [Act.put, List.setIfInBounds_toArray, List.set_cons_succ, List.set_cons_zero]))
              refine (awake_any _).mono ?_
              rintro e z5 ⟨rfl, hbx⟩
              go_wp2_with fail
              go_ret
              exact ⟨rfl, HB.out.trans (hbx.mono HB.out.size)⟩
            · have hvc : VC = false := by rw [← HV2.out]; simpa using hen
              subst hvc
              clear HV2
              go_wp2_with (first | ((with_reducible refine wpl_store_row rtE ?_ (.tmp 31) (.tmp 176) ?_ (z3.heap.size) ?_ (erow x0 x1 x2 EN) ?_ (erow_one _ _ _ _) 26 ?_ _ ?_ (heap_alloc_new z3 _) ?_); rfl; rfl; rfl; rfl; rfl; rfl; intro z4 hr hg hs; have hb : Below z3.heap.size z3 z4 := (ba (brefl z3) _).grown hg (by simp) (fun k hk => by cases hk; exact Nat.le_refl _); replace RX := Lib.hid ((hb.block _ (row_lt RX.out)).trans RX.out); replace RV := Lib.hid ((hb.block _ (row_lt RV.out)).trans RV.out); replace R23 := Lib.hid ((hb.block _ (row_lt R23.out)).trans R23.out); replace R28 := Lib.hid ((hb.block _ (row_lt R28.out)).trans R28.out); replace HW1 := Lib.hid (HW1.out.keep hb); replace HV8 := Lib.hid (HV8.out.keep hb); replace HA := Lib.hid (HA.out.keep hb); replace HBH := Lib.hid (HBH.out.keep hb); replace HS := Lib.hid (HS.out.keep hb); replace HB := Lib.hid (HB.out.trans (hb.mono HB.out.size)); have R31 := Lib.hid hr; have k0 := row_cell (v := .int .i64 x0) RX.out 0 rfl; clear hr hg hs hb; (try simp only [Act.put])) | ((with_reducible refine wpl_load_row rtE ?_ (.tmp 31) ?_ (z3.heap.size) ?_ 26 (erow x0 x1 x2 EN) ?_ R31.out ?_); rfl; rfl; rfl; rfl; simp only [Act.put, List.setIfInBounds_toArray, List.set_cons_succ, List.set_cons_zero]) | ((with_reducible refine wpl_load_row rtE ?_ (.tmp 8) ?_ (w.heap.size) ?_ 26 (erow x0 x1 x2 x3) ?_ RX.out ?_); rfl; rfl; rfl; rfl; simp only [Act.put, List.setIfInBounds_toArray, List.set_cons_succ, List.set_cons_zero]))
              refine (awake_any _).mono ?_
              rintro e z5 ⟨rfl, hbx⟩
              go_wp2_with fail
              go_ret
              exact ⟨rfl, HB.out.trans (hbx.mono HB.out.size)⟩
      | true =>
        obtain ⟨v1, v2, v3⟩ := HEF.out heb
        rw [on_t, on_t, on_t, on_t]
        have HVV := Lib.hid (fun W => eval_any tag t c (eN t c l o) o W)
        rw [v1, v2, v3, on_t, on_t] at HVV
        clear heb HEF v1 v2 v3
        generalize eN t c l o = EV at *
        go_wp2_with (first | ((with_reducible refine wpl_store_row rtE ?_ (.tmp 23) (.tmp 122) ?_ (y1.heap.size) ?_ (erow tag t c EV) ?_ (erow_one _ _ _ _) 26 ?_ _ ?_ (heap_alloc_new y1 _) ?_); rfl; rfl; rfl; rfl; rfl; rfl; intro y2 hr hg hs; have hb : Below y1.heap.size y1 y2 := (ba (brefl y1) _).grown hg (by simp) (fun k hk => by cases hk; exact Nat.le_refl _); replace RX := Lib.hid ((hb.block _ (row_lt RX.out)).trans RX.out); replace RV := Lib.hid ((hb.block _ (row_lt RV.out)).trans RV.out); replace HW1 := Lib.hid (HW1.out.keep hb); replace HA := Lib.hid (HA.out.keep hb); replace HBH := Lib.hid (HBH.out.keep hb); replace HS := Lib.hid (HS.out.keep hb); replace HB := Lib.hid (HB.out.trans (hb.mono HB.out.size)); have R23 := Lib.hid hr; clear hr hg hs hb; (try simp only [Act.put])) | ((with_reducible refine wpl_load_row rtE ?_ (.tmp 23) ?_ (y1.heap.size) ?_ 26 (erow tag t c EV) ?_ R23.out ?_); rfl; rfl; rfl; rfl; simp only [Act.put, List.setIfInBounds_toArray, List.set_cons_succ, List.set_cons_zero]))
        obtain ⟨g23, hg23⟩ : ∃ g, g = y1.heap.size := ⟨_, rfl⟩
        rw [← hg23] at R23 ⊢
        clear hg23
        refine (HVV.out y2).mono ?_
        rintro e y3 ⟨A7, c7, rfl, hox, hbx⟩
        have HV7 := Lib.hid hox
        replace RX := Lib.hid ((hbx.block _ (row_lt RX.out)).trans RX.out)
        replace RV := Lib.hid ((hbx.block _ (row_lt RV.out)).trans RV.out)
        replace R23 := Lib.hid ((hbx.block _ (row_lt R23.out)).trans R23.out)
        replace HW1 := Lib.hid (HW1.out.keep hbx)
        replace HA := Lib.hid (HA.out.keep hbx)
        replace HBH := Lib.hid (HBH.out.keep hbx)
        replace HS := Lib.hid (HS.out.keep hbx)
        replace HB := Lib.hid (HB.out.trans (hbx.mono HB.out.size))
        clear hox hbx
        have tt : (tag != tag) = false := by simp
        go_wp2_with (first | ((with_reducible refine wpl_store_row rtV ?_ (.tmp 25) (.tmp 129) ?_ (y3.heap.size) ?_ (vrow t c A7 l.length c7) ?_ (vrow_one _ _ _ _ _) 24 ?_ _ ?_ (heap_alloc_new y3 _) ?_); rfl; rfl; rfl; rfl; rfl; rfl; intro y4 hr hg hs; have hb : Below y3.heap.size y3 y4 := (ba (brefl y3) _).grown hg (by simp) (fun k hk => by cases hk; exact Nat.le_refl _); replace RX := Lib.hid ((hb.block _ (row_lt RX.out)).trans RX.out); replace RV := Lib.hid ((hb.block _ (row_lt RV.out)).trans RV.out); replace R23 := Lib.hid ((hb.block _ (row_lt R23.out)).trans R23.out); replace HW1 := Lib.hid (HW1.out.keep hb); replace HV7 := Lib.hid (HV7.out.keep hb); replace HA := Lib.hid (HA.out.keep hb); replace HBH := Lib.hid (HBH.out.keep hb); replace HS := Lib.hid (HS.out.keep hb); replace HB := Lib.hid (HB.out.trans (hb.mono HB.out.size)); have R25 := Lib.hid hr; clear hr hg hs hb; (try simp only [Act.put])) | ((with_reducible refine wpl_load_row rtV ?_ (.tmp 25) ?_ (y3.heap.size) ?_ 24 (vrow t c A7 l.length c7) ?_ R25.out ?_); rfl; rfl; rfl; rfl; simp only [Act.put, List.setIfInBounds_toArray, List.set_cons_succ, List.set_cons_zero]) | ((with_reducible refine wpl_load_row rtV ?_ (.tmp 9) ?_ (w.heap.size + 1) ?_ 24 (vrow t c A l.length cap) ?_ RV.out ?_); rfl; rfl; rfl; rfl; simp only [Act.put, List.setIfInBounds_toArray, List.set_cons_succ, List.set_cons_zero]))
        have HQS := Lib.hid (vsame_any t c A7 l c7 t c A l cap y4 HV7.out.sl'.2 HS.out HBY.out HBY.out)
        rw [smV_refl] at HQS
        refine (HQS.out).mono ?_
        rintro e y5 ⟨rfl, hbx⟩
        replace RX := Lib.hid ((hbx.block _ (row_lt RX.out)).trans RX.out)
        replace RV := Lib.hid ((hbx.block _ (row_lt RV.out)).trans RV.out)
        replace R23 := Lib.hid ((hbx.block _ (row_lt R23.out)).trans R23.out)
        replace R25 := Lib.hid ((hbx.block _ (row_lt R25.out)).trans R25.out)
        replace HW1 := Lib.hid (HW1.out.keep hbx)
        replace HV7 := Lib.hid (HV7.out.keep hbx)
        replace HA := Lib.hid (HA.out.keep hbx)
        replace HBH := Lib.hid (HBH.out.keep hbx)
        replace HS := Lib.hid (HS.out.keep hbx)
        replace HB := Lib.hid (HB.out.trans (hbx.mono HB.out.size))
        clear hbx
        have k0 := row_cell (v := .int .i64 tag) R23.out 0 rfl
        clear HQS HVV
        go_wp2_with (first | ((with_reducible refine wpl_load_row rtE ?_ (.tmp 8) ?_ (w.heap.size) ?_ 26 (erow x0 x1 x2 x3) ?_ RX.out ?_); rfl; rfl; rfl; rfl; simp only [Act.put, List.setIfInBounds_toArray, List.set_cons_succ, List.set_cons_zero]))
        clear k0
        have HVB := Lib.hid (show (evB x1 x2 x3 o = false → evL x1 x2 x3 o = [] ∧ evC x1 x2 x3 o = false) ∧ (evB x1 x2 x3 o = true → eB x0 x1 x2 (evL x1 x2 x3 o) o = (decide (0 ≤ x0) && decide (x0 < 65536)) ∧ decide (eN x1 x2 (evL x1 x2 x3 o) o = x3) = evC x1 x2 x3 o ∧ Byts (evL x1 x2 x3 o) ∧ (evL x1 x2 x3 o).length ≤ 4) from ⟨fun h => ⟨by unfold evL; rw [h]; rfl, by unfold evC; rw [h]; rfl⟩, fun h => val_back h⟩)
        refine (eval_any x0 x1 x2 x3 o y5).mono ?_
        rintro e z1 ⟨A8, c8, rfl, hox, hbx⟩
        have HV8 := Lib.hid hox
        replace RX := Lib.hid ((hbx.block _ (row_lt RX.out)).trans RX.out)
        replace RV := Lib.hid ((hbx.block _ (row_lt RV.out)).trans RV.out)
        replace R23 := Lib.hid ((hbx.block _ (row_lt R23.out)).trans R23.out)
        replace R25 := Lib.hid ((hbx.block _ (row_lt R25.out)).trans R25.out)
        replace HW1 := Lib.hid (HW1.out.keep hbx)
        replace HV7 := Lib.hid (HV7.out.keep hbx)
        replace HA := Lib.hid (HA.out.keep hbx)
        replace HBH := Lib.hid (HBH.out.keep hbx)
        replace HS := Lib.hid (HS.out.keep hbx)
        replace HB := Lib.hid (HB.out.trans (hbx.mono HB.out.size))
        clear hox hbx
        cases hvb : evB x1 x2 x3 o with
        | false =>
          obtain ⟨v1, v2⟩ := HVB.out.1 hvb
          rw [v1] at HV8 ⊢
          rw [v2]
          clear hvb v1 v2 HVB
          generalize on false x1 = u1
          generalize on false x2 = u2
          go_wp2_with (first | ((with_reducible refine wpl_store_row rtV ?_ (.tmp 28) (.tmp 154) ?_ (z1.heap.size) ?_ (vrow u1 u2 A8 0 c8) ?_ (vrow_one _ _ _ _ _) 24 ?_ _ ?_ (heap_alloc_new z1 _) ?_); rfl; rfl; rfl; rfl; rfl; rfl; intro z2 hr hg hs; have hb : Below z1.heap.size z1 z2 := (ba (brefl z1) _).grown hg (by simp) (fun k hk => by cases hk; exact Nat.le_refl _); replace RX := Lib.hid ((hb.block _ (row_lt RX.out)).trans RX.out); replace RV := Lib.hid ((hb.block _ (row_lt RV.out)).trans RV.out); replace R23 := Lib.hid ((hb.block _ (row_lt R23.out)).trans R23.out); replace R25 := Lib.hid ((hb.block _ (row_lt R25.out)).trans R25.out); replace HW1 := Lib.hid (HW1.out.keep hb); replace HV7 := Lib.hid (HV7.out.keep hb); replace HV8 := Lib.hid (HV8.out.keep hb); replace HA := Lib.hid (HA.out.keep hb); replace HBH := Lib.hid (HBH.out.keep hb); replace HS := Lib.hid (HS.out.keep hb); replace HB := Lib.hid (HB.out.trans (hb.mono HB.out.size)); have R28 := Lib.hid hr; have q28 := row_cell (v := .slice A8 0 c8) R28.out 2 rfl; clear hr hg hs hb; (try simp only [Act.put])))
          refine (awake_any _).mono ?_
          rintro e z3 ⟨rfl, hbx⟩
          go_wp2_with fail
          go_ret
          exact ⟨rfl, HB.out.trans (hbx.mono HB.out.size)⟩
        | true =>
          obtain ⟨v1, v2, v3, v4⟩ := HVB.out.2 hvb
          have HV1 := Lib.hid v1
          have HV2 := Lib.hid v2
          have HV3 := Lib.hid v3
          have HOFX := Lib.hid (fun W A c (h : Sl .u8 W A (evL x1 x2 x3 o)) => eof_any x0 x1 x2 A (evL x1 x2 x3 o) c o W h (by omega) v3)
          rw [on_t, on_t]
          clear hvb v1 v2 v3 v4 HVB
          generalize eN x1 x2 (evL x1 x2 x3 o) o = EN at *
          generalize hEB : eB x0 x1 x2 (evL x1 x2 x3 o) o = EB at *
          clear hEB
          generalize evL x1 x2 x3 o = VL at *
          generalize evC x1 x2 x3 o = VC at *
          go_wp2_with (first | ((with_reducible refine wpl_store_row rtV ?_ (.tmp 28) (.tmp 154) ?_ (z1.heap.size) ?_ (vrow x1 x2 A8 VL.length c8) ?_ (vrow_one _ _ _ _ _) 24 ?_ _ ?_ (heap_alloc_new z1 _) ?_); rfl; rfl; rfl; rfl; rfl; rfl; intro z2 hr hg hs; have hb : Below z1.heap.size z1 z2 := (ba (brefl z1) _).grown hg (by simp) (fun k hk => by cases hk; exact Nat.le_refl _); replace RX := Lib.hid ((hb.block _ (row_lt RX.out)).trans RX.out); replace RV := Lib.hid ((hb.block _ (row_lt RV.out)).trans RV.out); replace R23 := Lib.hid ((hb.block _ (row_lt R23.out)).trans R23.out); replace R25 := Lib.hid ((hb.block _ (row_lt R25.out)).trans R25.out); replace HW1 := Lib.hid (HW1.out.keep hb); replace HV7 := Lib.hid (HV7.out.keep hb); replace HV8 := Lib.hid (HV8.out.keep hb); replace HA := Lib.hid (HA.out.keep hb); replace HBH := Lib.hid (HBH.out.keep hb); replace HS := Lib.hid (HS.out.keep hb); replace HB := Lib.hid (HB.out.trans (hb.mono HB.out.size)); have R28 := Lib.hid hr; have k0 := row_cell (v := .int .i64 x0) RX.out 0 rfl; clear hr hg hs hb; (try simp only [Act.put])) | ((with_reducible refine wpl_load_row rtV ?_ (.tmp 28) ?_ (z1.heap.size) ?_ 24 (vrow x1 x2 A8 VL.length c8) ?_ R28.out ?_); rfl; rfl; rfl; rfl; simp only [Act.put, List.setIfInBounds_toArray, List.set_cons_succ, List.set_cons_zero]))
          refine (HOFX.out _ _ _ HV8.out.sl'.2).mono ?_
          rintro e z3 ⟨rfl, hbx⟩
          replace RX := Lib.hid ((hbx.block _ (row_lt RX.out)).trans RX.out)
          replace RV := Lib.hid ((hbx.block _ (row_lt RV.out)).trans RV.out)
          replace R23 := Lib.hid ((hbx.block _ (row_lt R23.out)).trans R23.out)
          replace R25 := Lib.hid ((hbx.block _ (row_lt R25.out)).trans R25.out)
          replace R28 := Lib.hid ((hbx.block _ (row_lt R28.out)).trans R28.out)
          replace HW1 := Lib.hid (HW1.out.keep hbx)
          replace HV7 := Lib.hid (HV7.out.keep hbx)
          replace HV8 := Lib.hid (HV8.out.keep hbx)
          replace HA := Lib.hid (HA.out.keep hbx)
          replace HBH := Lib.hid (HBH.out.keep hbx)
          replace HS := Lib.hid (HS.out.keep hbx)
          replace HB := Lib.hid (HB.out.trans (hbx.mono HB.out.size))
          clear hbx
          clear k0
          have vc : (VC == VC) = true := by simp
          have step : (decide (0 ≤ x0) = false ∧ EB = false) ∨ (decide (0 ≤ x0) = true ∧ decide (x0 < 65536) = false ∧ EB = false) ∨ (decide (0 ≤ x0) = true ∧ decide (x0 < 65536) = true ∧ EB = true) := by
            rw [HV1.out]
            cases decide (0 ≤ x0) <;> cases decide (x0 < 65536) <;> simp
          have HEQ := Lib.hid (show ∀ w, (Op.equalIn 10000 26 (.agg (erow x0 x1 x2 EN)) (.agg (erow x0 x1 x2 x3))).run Try.prog w = .ok VC w from fun w => by rw [entry_q, eqE_slot, HV2.out])
          clear HV1 HV3 HOFX HEQ
          rcases step with ⟨t1, hE⟩ | ⟨t1, t2, hE⟩ | ⟨t1, t2, hE⟩
          · subst hE
            generalize on false x0 = u0
            generalize on false x1 = u1
            generalize on false x2 = u2
            generalize on false EN = u3
            go_wp2_with (first | ((with_reducible refine wpl_store_row rtE ?_ (.tmp 31) (.tmp 176) ?_ (z3.heap.size) ?_ (erow u0 u1 u2 u3) ?_ (erow_one _ _ _ _) 26 ?_ _ ?_ (heap_alloc_new z3 _) ?_); rfl; rfl; rfl; rfl; rfl; rfl; intro z4 hr hg hs; have hb : Below z3.heap.size z3 z4 := (ba (brefl z3) _).grown hg (by simp) (fun k hk => by cases hk; exact Nat.le_refl _); replace RX := Lib.hid ((hb.block _ (row_lt RX.out)).trans RX.out); replace RV := Lib.hid ((hb.block _ (row_lt RV.out)).trans RV.out); replace R23 := Lib.hid ((hb.block _ (row_lt R23.out)).trans R23.out); replace R25 := Lib.hid ((hb.block _ (row_lt R25.out)).trans R25.out); replace R28 := Lib.hid ((hb.block _ (row_lt R28.out)).trans R28.out); replace HW1 := Lib.hid (HW1.out.keep hb); replace HV7 := Lib.hid (HV7.out.keep hb); replace HV8 := Lib.hid (HV8.out.keep hb); replace HA := Lib.hid (HA.out.keep hb); replace HBH := Lib.hid (HBH.out.keep hb); replace HS := Lib.hid (HS.out.keep hb); replace HB := Lib.hid (HB.out.trans (hb.mono HB.out.size)); have R31 := Lib.hid hr; have k0 := row_cell (v := .int .i64 x0) RX.out 0 rfl; clear hr hg hs hb; (try simp only [Act.put])))
            refine (awake_any _).mono ?_
            rintro e z5 ⟨rfl, hbx⟩
            go_wp2_with fail
            go_ret
            exact ⟨rfl, HB.out.trans (hbx.mono HB.out.size)⟩
          · subst hE
            generalize on false x0 = u0
            generalize on false x1 = u1
            generalize on false x2 = u2
            generalize on false EN = u3
            go_wp2_with (first | ((with_reducible refine wpl_store_row rtE ?_ (.tmp 31) (.tmp 176) ?_ (z3.heap.size) ?_ (erow u0 u1 u2 u3) ?_ (erow_one _ _ _ _) 26 ?_ _ ?_ (heap_alloc_new z3 _) ?_); rfl; rfl; rfl; rfl; rfl; rfl; intro z4 hr hg hs; have hb : Below z3.heap.size z3 z4 := (ba (brefl z3) _).grown hg (by simp) (fun k hk => by cases hk; exact Nat.le_refl _); replace RX := Lib.hid ((hb.block _ (row_lt RX.out)).trans RX.out); replace RV := Lib.hid ((hb.block _ (row_lt RV.out)).trans RV.out); replace R23 := Lib.hid ((hb.block _ (row_lt R23.out)).trans R23.out); replace R25 := Lib.hid ((hb.block _ (row_lt R25.out)).trans R25.out); replace R28 := Lib.hid ((hb.block _ (row_lt R28.out)).trans R28.out); replace HW1 := Lib.hid (HW1.out.keep hb); replace HV7 := Lib.hid (HV7.out.keep hb); replace HV8 := Lib.hid (HV8.out.keep hb); replace HA := Lib.hid (HA.out.keep hb); replace HBH := Lib.hid (HBH.out.keep hb); replace HS := Lib.hid (HS.out.keep hb); replace HB := Lib.hid (HB.out.trans (hb.mono HB.out.size)); have R31 := Lib.hid hr; have k0 := row_cell (v := .int .i64 x0) RX.out 0 rfl; clear hr hg hs hb; (try simp only [Act.put])))
            refine (awake_any _).mono ?_
            rintro e z5 ⟨rfl, hbx⟩
            go_wp2_with fail
            go_ret
            exact ⟨rfl, HB.out.trans (hbx.mono HB.out.size)⟩
          · subst hE
            rw [on_t, on_t, on_t, on_t]
            clear vc
            by_cases hen : EN = x3
            · have hvc : VC = true := by rw [← HV2.out]; simpa using hen
              subst hvc
              have hen2 := hen.symm
              clear HV2 hen
              subst hen2
              go_wp2_with (first | ((with_reducible refine wpl_store_row rtE ?_ (.tmp 31) (.tmp 176) ?_ (z3.heap.size) ?_ (erow x0 x1 x2 x3) ?_ (erow_one _ _ _ _) 26 ?_ _ ?_ (heap_alloc_new z3 _) ?_); rfl; rfl; rfl; rfl; rfl; rfl; intro z4 hr hg hs; have hb : Below z3.heap.size z3 z4 := (ba (brefl z3) _).grown hg (by simp) (fun k hk => by cases hk; exact Nat.le_refl _); replace RX := Lib.hid ((hb.block _ (row_lt RX.out)).trans RX.out); replace RV := Lib.hid ((hb.block _ (row_lt RV.out)).trans RV.out); replace R23 := Lib.hid ((hb.block _ (row_lt R23.out)).trans R23.out); replace R25 := Lib.hid ((hb.block _ (row_lt R25.out)).trans R25.out); replace R28 := Lib.hid ((hb.block _ (row_lt R28.out)).trans R28.out); replace HW1 := Lib.hid (HW1.out.keep hb); replace HV7 := Lib.hid (HV7.out.keep hb); replace HV8 := Lib.hid (HV8.out.keep hb); replace HA := Lib.hid (HA.out.keep hb); replace HBH := Lib.hid (HBH.out.keep hb); replace HS := Lib.hid (HS.out.keep hb); replace HB := Lib.hid (HB.out.trans (hb.mono HB.out.size)); have R31 := Lib.hid hr; have k0 := row_cell (v := .int .i64 x0) RX.out 0 rfl; clear hr hg hs hb; (try simp only [Act.put])) | ((with_reducible refine wpl_load_row rtE ?_ (.tmp 31) ?_ (z3.heap.size) ?_ 26 (erow x0 x1 x2 x3) ?_ R31.out ?_); rfl; rfl; rfl; rfl; simp only [Act.put, List.setIfInBounds_toArray, List.set_cons_succ, List.set_cons_zero]) | ((with_reducible refine wpl_load_row rtE ?_ (.tmp 8) ?_ (w.heap.size) ?_ 26 (erow x0 x1 x2 x3) ?_ RX.out ?_); rfl; rfl; rfl; rfl; simp only [Act.put, List.setIfInBounds_toArray, List.set_cons_succ, List.set_cons_zero]))
              refine (awake_any _).mono ?_
              rintro e z5 ⟨rfl, hbx⟩
              go_wp2_with fail
              go_ret
              exact ⟨rfl, HB.out.trans (hbx.mono HB.out.size)⟩
            · have hvc : VC = false := by rw [← HV2.out]; simpa using hen
              subst hvc
              clear HV2
              go_wp2_with (first | ((with_reducible refine wpl_store_row rtE ?_ (.tmp 31) (.tmp 176) ?_ (z3.heap.size) ?_ (erow x0 x1 x2 EN) ?_ (erow_one _ _ _ _) 26 ?_ _ ?_ (heap_alloc_new z3 _) ?_); rfl; rfl; rfl; rfl; rfl; rfl; intro z4 hr hg hs; have hb : Below z3.heap.size z3 z4 := (ba (brefl z3) _).grown hg (by simp) (fun k hk => by cases hk; exact Nat.le_refl _); replace RX := Lib.hid ((hb.block _ (row_lt RX.out)).trans RX.out); replace RV := Lib.hid ((hb.block _ (row_lt RV.out)).trans RV.out); replace R23 := Lib.hid ((hb.block _ (row_lt R23.out)).trans R23.out); replace R25 := Lib.hid ((hb.block _ (row_lt R25.out)).trans R25.out); replace R28 := Lib.hid ((hb.block _ (row_lt R28.out)).trans R28.out); replace HW1 := Lib.hid (HW1.out.keep hb); replace HV7 := Lib.hid (HV7.out.keep hb); replace HV8 := Lib.hid (HV8.out.keep hb); replace HA := Lib.hid (HA.out.keep hb); replace HBH := Lib.hid (HBH.out.keep hb); replace HS := Lib.hid (HS.out.keep hb); replace HB := Lib.hid (HB.out.trans (hb.mono HB.out.size)); have R31 := Lib.hid hr; have k0 := row_cell (v := .int .i64 x0) RX.out 0 rfl; clear hr hg hs hb; (try simp only [Act.put])) | ((with_reducible refine wpl_load_row rtE ?_ (.tmp 31) ?_ (z3.heap.size) ?_ 26 (erow x0 x1 x2 EN) ?_ R31.out ?_); rfl; rfl; rfl; rfl; simp only [Act.put, List.setIfInBounds_toArray, List.set_cons_succ, List.set_cons_zero]) | ((with_reducible refine wpl_load_row rtE ?_ (.tmp 8) ?_ (w.heap.size) ?_ 26 (erow x0 x1 x2 x3) ?_ RX.out ?_); rfl; rfl; rfl; rfl; simp only [Act.put, List.setIfInBounds_toArray, List.set_cons_succ, List.set_cons_zero]))
              refine (awake_any _).mono ?_
              rintro e z5 ⟨rfl, hbx⟩
              go_wp2_with fail
              go_ret
              exact ⟨rfl, HB.out.trans (hbx.mono HB.out.size)⟩
  | true =>
    obtain ⟨v1, v2, v3, e0, e1, e2, e3⟩ := HER.out hwb
    have HL12 := Lib.hid v1
    have n12 : ((WL.length : Int) != 12) = false := by rw [v1]; rfl
    have HRA := Lib.hid (fun W A c (h : Sl .u8 W A (la ++ WL ++ lb)) => erd_any A (la ++ WL ++ lb) c (la.length : Int) o W h (by rw [List.length_append, List.length_append, v1]; omega) (byts_app (byts_app HBA.out HWB.out) HBB.out))
    rw [v3, e0, e1, e2, e3] at HRA
    have HRS := Lib.hid (fun W (h : Sl .u8 W A1 WL) => erd_any A1 WL c1 1 o W h (by omega) HWB.out)
    rw [v2] at HRS
    clear hwb HER v1 v2 v3 e0 e1 e2 e3
    go_wp2_with fail
    refine (own_any Aa la capa w1 HA.out (by omega)).mono ?_
    rintro e w2 ⟨A2, c2, rfl, ho2, hb2⟩
    have HO2 := Lib.hid ho2
    have HQ2 := Lib.hid hb2
    have HWq := Lib.hid (HW1.out.keep hb2)
    have hs2 := Lib.hid (show w1.heap.size ≤ w2.heap.size from hb2.size)
    clear ho2 hb2
    go_wp2_with (first | (at_builtin; refine Tin.wpl_app bt5 _ rfl (.tmp 58) (.tmp 59) rfl w1.heap.size _ la rfl HO2.out A1 WL.length c1 WL rfl HWq.out.sl'.2 rfl (by have := HL12.out; omega) (by have := HL12.out; omega) hs2.out ?_; intro v3 w3 ho3 hg3 hw3; generalize hl3 : la ++ WL = L3 at ho3; have HM3 := Lib.hid hl3; have HN3 := Lib.hid (show L3.length ≤ 300 by rw [← hl3, List.length_append]; have := HL12.out; omega); clear hl3; obtain ⟨A3, c3, rfl⟩ := own_form ho3; have HO3 := Lib.hid ho3; have HQ3 := Lib.hid (HQ2.out.grown hg3 HQ2.out.size (fun k hk => (World.ownsRow.lt HO2.out k hk).1)); have HBq := Lib.hid (HBH.out.keep HQ3.out); clear ho3 hg3 hw3) | (at_builtin; refine Tin.wpl_app bt5 _ rfl (.tmp 60) (.tmp 61) rfl w1.heap.size _ L3 rfl HO3.out Ab lb.length capb lb rfl HBq.out rfl (by have := HN3.out; omega) (by have := HN3.out; omega) HQ3.out.size ?_; intro v4 w4 ho4 hg4 hw4; generalize hl4 : L3 ++ lb = L4 at ho4; have HM4 := Lib.hid hl4; clear hl4; obtain ⟨A4, c4, rfl⟩ := own_form ho4; have HO4 := Lib.hid ho4; have HQ4 := Lib.hid (HQ3.out.grown hg4 HQ3.out.size (fun k hk => (World.ownsRow.lt HO3.out k hk).1)); clear ho4 hg4 hw4))
    rw [HM3.out, HM4.out] at HRA
    replace RX := Lib.hid ((HQ4.out.block _ (row_lt RX.out)).trans RX.out)
    replace RV := Lib.hid ((HQ4.out.block _ (row_lt RV.out)).trans RV.out)
    replace HW1 := Lib.hid (HW1.out.keep HQ4.out)
    replace HA := Lib.hid (HA.out.keep HQ4.out)
    replace HBH := Lib.hid (HBH.out.keep HQ4.out)
    replace HS := Lib.hid (HS.out.keep HQ4.out)
    replace HB := Lib.hid (HB.out.trans (HQ4.out.mono HB.out.size))
    clear HQ2 HQ3 HQ4 HWq HBq HO2 HO3 HM3 HM4 HN3
    refine (HRA.out w4 A4 c4 HO4.out.sl'.2).mono ?_
    rintro e w5 ⟨rfl, hbx⟩
    replace RX := Lib.hid ((hbx.block _ (row_lt RX.out)).trans RX.out)
    replace RV := Lib.hid ((hbx.block _ (row_lt RV.out)).trans RV.out)
    replace HW1 := Lib.hid (HW1.out.keep hbx)
    replace HA := Lib.hid (HA.out.keep hbx)
    replace HBH := Lib.hid (HBH.out.keep hbx)
    replace HS := Lib.hid (HS.out.keep hbx)
    replace HB := Lib.hid (HB.out.trans (hbx.mono HB.out.size))
    clear hbx
    clear HO4 HRA
    go_wp2_with (first | ((with_reducible refine wpl_store_row rtE ?_ (.tmp 15) (.tmp 67) ?_ (w5.heap.size) ?_ (erow x0 x1 x2 x3) ?_ (erow_one _ _ _ _) 26 ?_ _ ?_ (heap_alloc_new w5 _) ?_); rfl; rfl; rfl; rfl; rfl; rfl; intro w6 hr hg hs; have hb : Below w5.heap.size w5 w6 := (ba (brefl w5) _).grown hg (by simp) (fun k hk => by cases hk; exact Nat.le_refl _); replace RX := Lib.hid ((hb.block _ (row_lt RX.out)).trans RX.out); replace RV := Lib.hid ((hb.block _ (row_lt RV.out)).trans RV.out); replace HW1 := Lib.hid (HW1.out.keep hb); replace HA := Lib.hid (HA.out.keep hb); replace HBH := Lib.hid (HBH.out.keep hb); replace HS := Lib.hid (HS.out.keep hb); replace HB := Lib.hid (HB.out.trans (hb.mono HB.out.size)); have R15 := Lib.hid hr; clear hr hg hs hb; (try simp only [Act.put])))
    obtain ⟨g15, hg15⟩ : ∃ g, g = w5.heap.size := ⟨_, rfl⟩
    rw [← hg15] at R15 ⊢
    clear hg15
    refine (HRS.out w6 HW1.out.sl'.2).mono ?_
    rintro e w7 ⟨rfl, hbx⟩
    replace RX := Lib.hid ((hbx.block _ (row_lt RX.out)).trans RX.out)
    replace RV := Lib.hid ((hbx.block _ (row_lt RV.out)).trans RV.out)
    replace R15 := Lib.hid ((hbx.block _ (row_lt R15.out)).trans R15.out)
    replace HW1 := Lib.hid (HW1.out.keep hbx)
    replace HA := Lib.hid (HA.out.keep hbx)
    replace HBH := Lib.hid (HBH.out.keep hbx)
    replace HS := Lib.hid (HS.out.keep hbx)
    replace HB := Lib.hid (HB.out.trans (hbx.mono HB.out.size))
    clear hbx
    clear HRS
    generalize er0 WL 1 o = q0
    generalize er1 WL 1 o = q1
    generalize er2 WL 1 o = q2
    generalize er3 WL 1 o = q3
    go_wp2_with (first | ((with_reducible refine wpl_store_row rtE ?_ (.tmp 17) (.tmp 73) ?_ (w7.heap.size) ?_ (erow q0 q1 q2 q3) ?_ (erow_one _ _ _ _) 26 ?_ _ ?_ (heap_alloc_new w7 _) ?_); rfl; rfl; rfl; rfl; rfl; rfl; intro w8 hr hg hs; have hb : Below w7.heap.size w7 w8 := (ba (brefl w7) _).grown hg (by simp) (fun k hk => by cases hk; exact Nat.le_refl _); replace RX := Lib.hid ((hb.block _ (row_lt RX.out)).trans RX.out); replace RV := Lib.hid ((hb.block _ (row_lt RV.out)).trans RV.out); replace R15 := Lib.hid ((hb.block _ (row_lt R15.out)).trans R15.out); replace HW1 := Lib.hid (HW1.out.keep hb); replace HA := Lib.hid (HA.out.keep hb); replace HBH := Lib.hid (HBH.out.keep hb); replace HS := Lib.hid (HS.out.keep hb); replace HB := Lib.hid (HB.out.trans (hb.mono HB.out.size)); have R17 := Lib.hid hr; clear hr hg hs hb; (try simp only [Act.put])) | ((with_reducible refine wpl_load_row rtE ?_ (.tmp 15) ?_ (g15) ?_ 26 (erow x0 x1 x2 x3) ?_ R15.out ?_); rfl; rfl; rfl; rfl; simp only [Act.put, List.setIfInBounds_toArray, List.set_cons_succ, List.set_cons_zero]) | ((with_reducible refine wpl_load_row rtE ?_ (.tmp 8) ?_ (w.heap.size) ?_ 26 (erow x0 x1 x2 x3) ?_ RX.out ?_); rfl; rfl; rfl; rfl; simp only [Act.put, List.setIfInBounds_toArray, List.set_cons_succ, List.set_cons_zero]) | ((with_reducible refine wpl_neq entryE ?_ (.tmp 78) (.tmp 79) 26 rfl rfl rfl (entry_r _ _ _ _) ?_); rfl; simp only [Act.put, List.setIfInBounds_toArray, List.set_cons_succ, List.set_cons_zero]))
    clear n12 HL12
    clear R15 R17 HW1
    have HEW := Lib.hid (show erB lb 0 o = true → ewB (er0 lb 0 o) (er1 lb 0 o) (er2 lb 0 o) (er3 lb 0 o) o = true ∧ ewL (er0 lb 0 o) (er1 lb 0 o) (er2 lb 0 o) (er3 lb 0 o) o = lb.take 12 ∧ 12 ≤ lb.length from fun h => er_write HBB.out h)
    have HWR := Lib.hid (fun W => ewr_any (er0 lb 0 o) (er1 lb 0 o) (er2 lb 0 o) (er3 lb 0 o) o W)
    refine (erd_any Ab lb capb 0 o w8 HBH.out (by omega) HBB.out).mono ?_
    rintro e x5 ⟨rfl, hbx⟩
    replace RX := Lib.hid ((hbx.block _ (row_lt RX.out)).trans RX.out)
    replace RV := Lib.hid ((hbx.block _ (row_lt RV.out)).trans RV.out)
    replace HA := Lib.hid (HA.out.keep hbx)
    replace HBH := Lib.hid (HBH.out.keep hbx)
    replace HS := Lib.hid (HS.out.keep hbx)
    replace HB := Lib.hid (HB.out.trans (hbx.mono HB.out.size))
    clear hbx
    generalize er0 lb 0 o = r0 at *
    generalize er1 lb 0 o = r1 at *
    generalize er2 lb 0 o = r2 at *
    generalize er3 lb 0 o = r3 at *
    cases hrb : erB lb 0 o with
    | false =>
      clear hrb HEW HWR
      go_wp2_with (first | ((with_reducible refine wpl_store_row rtE ?_ (.tmp 19) (.tmp 94) ?_ (x5.heap.size) ?_ (erow r0 r1 r2 r3) ?_ (erow_one _ _ _ _) 26 ?_ _ ?_ (heap_alloc_new x5 _) ?_); rfl; rfl; rfl; rfl; rfl; rfl; intro x6 hr hg hs; have hb : Below x5.heap.size x5 x6 := (ba (brefl x5) _).grown hg (by simp) (fun k hk => by cases hk; exact Nat.le_refl _); replace RX := Lib.hid ((hb.block _ (row_lt RX.out)).trans RX.out); replace RV := Lib.hid ((hb.block _ (row_lt RV.out)).trans RV.out); replace HA := Lib.hid (HA.out.keep hb); replace HBH := Lib.hid (HBH.out.keep hb); replace HS := Lib.hid (HS.out.keep hb); replace HB := Lib.hid (HB.out.trans (hb.mono HB.out.size)); have R19 := Lib.hid hr; clear hr hg hs hb; (try simp only [Act.put])) | ((with_reducible refine wpl_load_row rtV ?_ (.tmp 9) ?_ (w.heap.size + 1) ?_ 24 (vrow t c A l.length cap) ?_ RV.out ?_); rfl; rfl; rfl; rfl; simp only [Act.put, List.setIfInBounds_toArray, List.set_cons_succ, List.set_cons_zero]))
      have HEF := Lib.hid (show eB tag t c l o = true → evB t c (eN t c l o) o = true ∧ evL t c (eN t c l o) o = l ∧ evC t c (eN t c l o) o = true from fun h => eof_back HBY.out h)
      refine (eof_any tag t c A l cap o x6 HS.out (by omega) HBY.out).mono ?_
      rintro e y1 ⟨rfl, hbx⟩
      replace RX := Lib.hid ((hbx.block _ (row_lt RX.out)).trans RX.out)
      replace RV := Lib.hid ((hbx.block _ (row_lt RV.out)).trans RV.out)
      replace HA := Lib.hid (HA.out.keep hbx)
      replace HBH := Lib.hid (HBH.out.keep hbx)
      replace HS := Lib.hid (HS.out.keep hbx)
      replace HB := Lib.hid (HB.out.trans (hbx.mono HB.out.size))
      clear hbx
      cases heb : eB tag t c l o with
      | false =>
        clear heb HEF
        generalize on false tag = u0
        generalize on false t = u1
        generalize on false c = u2
        generalize on false (eN t c l o) = u3
        go_wp2_with (first | ((with_reducible refine wpl_store_row rtE ?_ (.tmp 23) (.tmp 122) ?_ (y1.heap.size) ?_ (erow u0 u1 u2 u3) ?_ (erow_one _ _ _ _) 26 ?_ _ ?_ (heap_alloc_new y1 _) ?_); rfl; rfl; rfl; rfl; rfl; rfl; intro y2 hr hg hs; have hb : Below y1.heap.size y1 y2 := (ba (brefl y1) _).grown hg (by simp) (fun k hk => by cases hk; exact Nat.le_refl _); replace RX := Lib.hid ((hb.block _ (row_lt RX.out)).trans RX.out); replace RV := Lib.hid ((hb.block _ (row_lt RV.out)).trans RV.out); replace HA := Lib.hid (HA.out.keep hb); replace HBH := Lib.hid (HBH.out.keep hb); replace HS := Lib.hid (HS.out.keep hb); replace HB := Lib.hid (HB.out.trans (hb.mono HB.out.size)); have R23 := Lib.hid hr; clear hr hg hs hb; (try simp only [Act.put])) | ((with_reducible refine wpl_load_row rtE ?_ (.tmp 8) ?_ (w.heap.size) ?_ 26 (erow x0 x1 x2 x3) ?_ RX.out ?_); rfl; rfl; rfl; rfl; simp only [Act.put, List.setIfInBounds_toArray, List.set_cons_succ, List.set_cons_zero]))
        have HVB := Lib.hid (show (evB x1 x2 x3 o = false → evL x1 x2 x3 o = [] ∧ evC x1 x2 x3 o = false) ∧ (evB x1 x2 x3 o = true → eB x0 x1 x2 (evL x1 x2 x3 o) o = (decide (0 ≤ x0) && decide (x0 < 65536)) ∧ decide (eN x1 x2 (evL x1 x2 x3 o) o = x3) = evC x1 x2 x3 o ∧ Byts (evL x1 x2 x3 o) ∧ (evL x1 x2 x3 o).length ≤ 4) from ⟨fun h => ⟨by unfold evL; rw [h]; rfl, by unfold evC; rw [h]; rfl⟩, fun h => val_back h⟩)
        refine (eval_any x0 x1 x2 x3 o y2).mono ?_
        rintro e z1 ⟨A8, c8, rfl, hox, hbx⟩
        have HV8 := Lib.hid hox
        replace RX := Lib.hid ((hbx.block _ (row_lt RX.out)).trans RX.out)
        replace RV := Lib.hid ((hbx.block _ (row_lt RV.out)).trans RV.out)
        replace R23 := Lib.hid ((hbx.block _ (row_lt R23.out)).trans R23.out)
        replace HA := Lib.hid (HA.out.keep hbx)
        replace HBH := Lib.hid (HBH.out.keep hbx)
        replace HS := Lib.hid (HS.out.keep hbx)
        replace HB := Lib.hid (HB.out.trans (hbx.mono HB.out.size))
        clear hox hbx
        cases hvb : evB x1 x2 x3 o with
        | false =>
          obtain ⟨v1, v2⟩ := HVB.out.1 hvb
          rw [v1] at HV8 ⊢
          rw [v2]
          clear hvb v1 v2 HVB
          generalize on false x1 = u1
          generalize on false x2 = u2
          go_wp2_with (first | ((with_reducible refine wpl_store_row rtV ?_ (.tmp 28) (.tmp 154) ?_ (z1.heap.size) ?_ (vrow u1 u2 A8 0 c8) ?_ (vrow_one _ _ _ _ _) 24 ?_ _ ?_ (heap_alloc_new z1 _) ?_); rfl; rfl; rfl; rfl; rfl; rfl; intro z2 hr hg hs; have hb : Below z1.heap.size z1 z2 := (ba (brefl z1) _).grown hg (by simp) (fun k hk => by cases hk; exact Nat.le_refl _); replace RX := Lib.hid ((hb.block _ (row_lt RX.out)).trans RX.out); replace RV := Lib.hid ((hb.block _ (row_lt RV.out)).trans RV.out); replace R23 := Lib.hid ((hb.block _ (row_lt R23.out)).trans R23.out); replace HV8 := Lib.hid (HV8.out.keep hb); replace HA := Lib.hid (HA.out.keep hb); replace HBH := Lib.hid (HBH.out.keep hb); replace HS := Lib.hid (HS.out.keep hb); replace HB := Lib.hid (HB.out.trans (hb.mono HB.out.size)); have R28 := Lib.hid hr; have q28 := row_cell (v := .slice A8 0 c8) R28.out 2 rfl; clear hr hg hs hb; (try simp only [Act.put])))
          refine (awake_any _).mono ?_
          rintro e z3 ⟨rfl, hbx⟩
          go_wp2_with fail
          go_ret
          exact ⟨rfl, HB.out.trans (hbx.mono HB.out.size)⟩
        | true =>
          obtain ⟨v1, v2, v3, v4⟩ := HVB.out.2 hvb
          have HV1 := Lib.hid v1
          have HV2 := Lib.hid v2
          have HV3 := Lib.hid v3
          have HOFX := Lib.hid (fun W A c (h : Sl .u8 W A (evL x1 x2 x3 o)) => eof_any x0 x1 x2 A (evL x1 x2 x3 o) c o W h (by omega) v3)
          rw [on_t, on_t]
          clear hvb v1 v2 v3 v4 HVB
          generalize eN x1 x2 (evL x1 x2 x3 o) o = EN at *
          generalize hEB : eB x0 x1 x2 (evL x1 x2 x3 o) o = EB at *
          clear hEB
          generalize evL x1 x2 x3 o = VL at *
          generalize evC x1 x2 x3 o = VC at *
          go_wp2_with (first | ((with_reducible refine wpl_store_row rtV ?_ (.tmp 28) (.tmp 154) ?_ (z1.heap.size) ?_ (vrow x1 x2 A8 VL.length c8) ?_ (vrow_one _ _ _ _ _) 24 ?_ _ ?_ (heap_alloc_new z1 _) ?_); rfl; rfl; rfl; rfl; rfl; rfl; intro z2 hr hg hs; have hb : Below z1.heap.size z1 z2 := (ba (brefl z1) _).grown hg (by simp) (fun k hk => by cases hk; exact Nat.le_refl _); replace RX := Lib.hid ((hb.block _ (row_lt RX.out)).trans RX.out); replace RV := Lib.hid ((hb.block _ (row_lt RV.out)).trans RV.out); replace R23 := Lib.hid ((hb.block _ (row_lt R23.out)).trans R23.out); replace HV8 := Lib.hid (HV8.out.keep hb); replace HA := Lib.hid (HA.out.keep hb); replace HBH := Lib.hid (HBH.out.keep hb); replace HS := Lib.hid (HS.out.keep hb); replace HB := Lib.hid (HB.out.trans (hb.mono HB.out.size)); have R28 := Lib.hid hr; have k0 := row_cell (v := .int .i64 x0) RX.out 0 rfl; clear hr hg hs hb; (try simp only [Act.put])) | ((with_reducible refine wpl_load_row rtV ?_ (.tmp 28) ?_ (z1.heap.size) ?_ 24 (vrow x1 x2 A8 VL.length c8) ?_ R28.out ?_); rfl; rfl; rfl; rfl; simp only [Act.put, List.setIfInBounds_toArray, List.set_cons_succ, List.set_cons_zero]))
          refine (HOFX.out _ _ _ HV8.out.sl'.2).mono ?_
          rintro e z3 ⟨rfl, hbx⟩
          replace RX := Lib.hid ((hbx.block _ (row_lt RX.out)).trans RX.out)
          replace RV := Lib.hid ((hbx.block _ (row_lt RV.out)).trans RV.out)
          replace R23 := Lib.hid ((hbx.block _ (row_lt R23.out)).trans R23.out)
          replace R28 := Lib.hid ((hbx.block _ (row_lt R28.out)).trans R28.out)
          replace HV8 := Lib.hid (HV8.out.keep hbx)
          replace HA := Lib.hid (HA.out.keep hbx)
          replace HBH := Lib.hid (HBH.out.keep hbx)
          replace HS := Lib.hid (HS.out.keep hbx)
          replace HB := Lib.hid (HB.out.trans (hbx.mono HB.out.size))
          clear hbx
          clear k0
          have vc : (VC == VC) = true := by simp
          have step : (decide (0 ≤ x0) = false ∧ EB = false) ∨ (decide (0 ≤ x0) = true ∧ decide (x0 < 65536) = false ∧ EB = false) ∨ (decide (0 ≤ x0) = true ∧ decide (x0 < 65536) = true ∧ EB = true) := by
            rw [HV1.out]
            cases decide (0 ≤ x0) <;> cases decide (x0 < 65536) <;> simp
          have HEQ := Lib.hid (show ∀ w, (Op.equalIn 10000 26 (.agg (erow x0 x1 x2 EN)) (.agg (erow x0 x1 x2 x3))).run Try.prog w = .ok VC w from fun w => by rw [entry_q, eqE_slot, HV2.out])
          clear HV1 HV3 HOFX HEQ
          rcases step with ⟨t1, hE⟩ | ⟨t1, t2, hE⟩ | ⟨t1, t2, hE⟩
          · subst hE
            generalize on false x0 = u0
            generalize on false x1 = u1
            generalize on false x2 = u2
            generalize on false EN = u3
            go_wp2_with (first | ((with_reducible refine wpl_store_row rtE ?_ (.tmp 31) (.tmp 176) ?_ (z3.heap.size) ?_ (erow u0 u1 u2 u3) ?_ (erow_one _ _ _ _) 26 ?_ _ ?_ (heap_alloc_new z3 _) ?_); rfl; rfl; rfl; rfl; rfl; rfl; intro z4 hr hg hs; have hb : Below z3.heap.size z3 z4 := (ba (brefl z3) _).grown hg (by simp) (fun k hk => by cases hk; exact Nat.le_refl _); replace RX := Lib.hid ((hb.block _ (row_lt RX.out)).trans RX.out); replace RV := Lib.hid ((hb.block _ (row_lt RV.out)).trans RV.out); replace R23 := Lib.hid ((hb.block _ (row_lt R23.out)).trans R23.out); replace R28 := Lib.hid ((hb.block _ (row_lt R28.out)).trans R28.out); replace HV8 := Lib.hid (HV8.out.keep hb); replace HA := Lib.hid (HA.out.keep hb); replace HBH := Lib.hid (HBH.out.keep hb); replace HS := Lib.hid (HS.out.keep hb); replace HB := Lib.hid (HB.out.trans (hb.mono HB.out.size)); have R31 := Lib.hid hr; have k0 := row_cell (v := .int .i64 x0) RX.out 0 rfl; clear hr hg hs hb; (try simp only [Act.put])))
            refine (awake_any _).mono ?_
            rintro e z5 ⟨rfl, hbx⟩
            go_wp2_with fail
            go_ret
            exact ⟨rfl, HB.out.trans (hbx.mono HB.out.size)⟩
          · subst hE
            generalize on false x0 = u0
            generalize on false x1 = u1
            generalize on false x2 = u2
            generalize on false EN = u3
            go_wp2_with (first | ((with_reducible refine wpl_store_row rtE ?_ (.tmp 31) (.tmp 176) ?_ (z3.heap.size) ?_ (erow u0 u1 u2 u3) ?_ (erow_one _ _ _ _) 26 ?_ _ ?_ (heap_alloc_new z3 _) ?_); rfl; rfl; rfl; rfl; rfl; rfl; intro z4 hr hg hs; have hb : Below z3.heap.size z3 z4 := (ba (brefl z3) _).grown hg (by simp) (fun k hk => by cases hk; exact Nat.le_refl _); replace RX := Lib.hid ((hb.block _ (row_lt RX.out)).trans RX.out); replace RV := Lib.hid ((hb.block _ (row_lt RV.out)).trans RV.out); replace R23 := Lib.hid ((hb.block _ (row_lt R23.out)).trans R23.out); replace R28 := Lib.hid ((hb.block _ (row_lt R28.out)).trans R28.out); replace HV8 := Lib.hid (HV8.out.keep hb); replace HA := Lib.hid (HA.out.keep hb); replace HBH := Lib.hid (HBH.out.keep hb); replace HS := Lib.hid (HS.out.keep hb); replace HB := Lib.hid (HB.out.trans (hb.mono HB.out.size)); have R31 := Lib.hid hr; have k0 := row_cell (v := .int .i64 x0) RX.out 0 rfl; clear hr hg hs hb; (try simp only [Act.put])))
            refine (awake_any _).mono ?_
            rintro e z5 ⟨rfl, hbx⟩
            go_wp2_with fail
            go_ret
            exact ⟨rfl, HB.out.trans (hbx.mono HB.out.size)⟩
          · subst hE
            rw [on_t, on_t, on_t, on_t]
            clear vc
            by_cases hen : EN = x3
            · have hvc : VC = true := by rw [← HV2.out]; simpa using hen
              subst hvc
              have hen2 := hen.symm
              clear HV2 hen
              subst hen2
              go_wp2_with (first | ((with_reducible refine wpl_store_row rtE ?_ (.tmp 31) (.tmp 176) ?_ (z3.heap.size) ?_ (erow x0 x1 x2 x3) ?_ (erow_one _ _ _ _) 26 ?_ _ ?_ (heap_alloc_new z3 _) ?_); rfl; rfl; rfl; rfl; rfl; rfl; intro z4 hr hg hs; have hb : Below z3.heap.size z3 z4 := (ba (brefl z3) _).grown hg (by simp) (fun k hk => by cases hk; exact Nat.le_refl _); replace RX := Lib.hid ((hb.block _ (row_lt RX.out)).trans RX.out); replace RV := Lib.hid ((hb.block _ (row_lt RV.out)).trans RV.out); replace R23 := Lib.hid ((hb.block _ (row_lt R23.out)).trans R23.out); replace R28 := Lib.hid ((hb.block _ (row_lt R28.out)).trans R28.out); replace HV8 := Lib.hid (HV8.out.keep hb); replace HA := Lib.hid (HA.out.keep hb); replace HBH := Lib.hid (HBH.out.keep hb); replace HS := Lib.hid (HS.out.keep hb); replace HB := Lib.hid (HB.out.trans (hb.mono HB.out.size)); have R31 := Lib.hid hr; have k0 := row_cell (v := .int .i64 x0) RX.out 0 rfl; clear hr hg hs hb; (try simp only [Act.put])) | ((with_reducible refine wpl_load_row rtE ?_ (.tmp 31) ?_ (z3.heap.size) ?_ 26 (erow x0 x1 x2 x3) ?_ R31.out ?_); rfl; rfl; rfl; rfl; simp only [Act.put, List.setIfInBounds_toArray, List.set_cons_succ, List.set_cons_zero]) | ((with_reducible refine wpl_load_row rtE ?_ (.tmp 8) ?_ (w.heap.size) ?_ 26 (erow x0 x1 x2 x3) ?_ RX.out ?_); rfl; rfl; rfl; rfl; simp only [Act.put, List.setIfInBounds_toArray, List.set_cons_succ, List.set_cons_zero]))
              refine (awake_any _).mono ?_
              rintro e z5 ⟨rfl, hbx⟩
              go_wp2_with fail
              go_ret
              exact ⟨rfl, HB.out.trans (hbx.mono HB.out.size)⟩
            · have hvc : VC = false := by rw [← HV2.out]; simpa using hen
              subst hvc
              clear HV2
              go_wp2_with (first | ((with_reducible refine wpl_store_row rtE ?_ (.tmp 31) (.tmp 176) ?_ (z3.heap.size) ?_ (erow x0 x1 x2 EN) ?_ (erow_one _ _ _ _) 26 ?_ _ ?_ (heap_alloc_new z3 _) ?_); rfl; rfl; rfl; rfl; rfl; rfl; intro z4 hr hg hs; have hb : Below z3.heap.size z3 z4 := (ba (brefl z3) _).grown hg (by simp) (fun k hk => by cases hk; exact Nat.le_refl _); replace RX := Lib.hid ((hb.block _ (row_lt RX.out)).trans RX.out); replace RV := Lib.hid ((hb.block _ (row_lt RV.out)).trans RV.out); replace R23 := Lib.hid ((hb.block _ (row_lt R23.out)).trans R23.out); replace R28 := Lib.hid ((hb.block _ (row_lt R28.out)).trans R28.out); replace HV8 := Lib.hid (HV8.out.keep hb); replace HA := Lib.hid (HA.out.keep hb); replace HBH := Lib.hid (HBH.out.keep hb); replace HS := Lib.hid (HS.out.keep hb); replace HB := Lib.hid (HB.out.trans (hb.mono HB.out.size)); have R31 := Lib.hid hr; have k0 := row_cell (v := .int .i64 x0) RX.out 0 rfl; clear hr hg hs hb; (try simp only [Act.put])) | ((with_reducible refine wpl_load_row rtE ?_ (.tmp 31) ?_ (z3.heap.size) ?_ 26 (erow x0 x1 x2 EN) ?_ R31.out ?_); rfl; rfl; rfl; rfl; simp only [Act.put, List.setIfInBounds_toArray, List.set_cons_succ, List.set_cons_zero]) | ((with_reducible refine wpl_load_row rtE ?_ (.tmp 8) ?_ (w.heap.size) ?_ 26 (erow x0 x1 x2 x3) ?_ RX.out ?_); rfl; rfl; rfl; rfl; simp only [Act.put, List.setIfInBounds_toArray, List.set_cons_succ, List.set_cons_zero]))
              refine (awake_any _).mono ?_
              rintro e z5 ⟨rfl, hbx⟩
              go_wp2_with fail
              go_ret
              exact ⟨rfl, HB.out.trans (hbx.mono HB.out.size)⟩
      | true =>
        obtain ⟨v1, v2, v3⟩ := HEF.out heb
        rw [on_t, on_t, on_t, on_t]
        have HVV := Lib.hid (fun W => eval_any tag t c (eN t c l o) o W)
        rw [v1, v2, v3, on_t, on_t] at HVV
        clear heb HEF v1 v2 v3
        generalize eN t c l o = EV at *
        go_wp2_with (first | ((with_reducible refine wpl_store_row rtE ?_ (.tmp 23) (.tmp 122) ?_ (y1.heap.size) ?_ (erow tag t c EV) ?_ (erow_one _ _ _ _) 26 ?_ _ ?_ (heap_alloc_new y1 _) ?_); rfl; rfl; rfl; rfl; rfl; rfl; intro y2 hr hg hs; have hb : Below y1.heap.size y1 y2 := (ba (brefl y1) _).grown hg (by simp) (fun k hk => by cases hk; exact Nat.le_refl _); replace RX := Lib.hid ((hb.block _ (row_lt RX.out)).trans RX.out); replace RV := Lib.hid ((hb.block _ (row_lt RV.out)).trans RV.out); replace HA := Lib.hid (HA.out.keep hb); replace HBH := Lib.hid (HBH.out.keep hb); replace HS := Lib.hid (HS.out.keep hb); replace HB := Lib.hid (HB.out.trans (hb.mono HB.out.size)); have R23 := Lib.hid hr; clear hr hg hs hb; (try simp only [Act.put])) | ((with_reducible refine wpl_load_row rtE ?_ (.tmp 23) ?_ (y1.heap.size) ?_ 26 (erow tag t c EV) ?_ R23.out ?_); rfl; rfl; rfl; rfl; simp only [Act.put, List.setIfInBounds_toArray, List.set_cons_succ, List.set_cons_zero]))
        obtain ⟨g23, hg23⟩ : ∃ g, g = y1.heap.size := ⟨_, rfl⟩
        rw [← hg23] at R23 ⊢
        clear hg23
        refine (HVV.out y2).mono ?_
        rintro e y3 ⟨A7, c7, rfl, hox, hbx⟩
        have HV7 := Lib.hid hox
        replace RX := Lib.hid ((hbx.block _ (row_lt RX.out)).trans RX.out)
        replace RV := Lib.hid ((hbx.block _ (row_lt RV.out)).trans RV.out)
        replace R23 := Lib.hid ((hbx.block _ (row_lt R23.out)).trans R23.out)
        replace HA := Lib.hid (HA.out.keep hbx)
        replace HBH := Lib.hid (HBH.out.keep hbx)
        replace HS := Lib.hid (HS.out.keep hbx)
        replace HB := Lib.hid (HB.out.trans (hbx.mono HB.out.size))
        clear hox hbx
        have tt : (tag != tag) = false := by simp
        go_wp2_with (first | ((with_reducible refine wpl_store_row rtV ?_ (.tmp 25) (.tmp 129) ?_ (y3.heap.size) ?_ (vrow t c A7 l.length c7) ?_ (vrow_one _ _ _ _ _) 24 ?_ _ ?_ (heap_alloc_new y3 _) ?_); rfl; rfl; rfl; rfl; rfl; rfl; intro y4 hr hg hs; have hb : Below y3.heap.size y3 y4 := (ba (brefl y3) _).grown hg (by simp) (fun k hk => by cases hk; exact Nat.le_refl _); replace RX := Lib.hid ((hb.block _ (row_lt RX.out)).trans RX.out); replace RV := Lib.hid ((hb.block _ (row_lt RV.out)).trans RV.out); replace R23 := Lib.hid ((hb.block _ (row_lt R23.out)).trans R23.out); replace HV7 := Lib.hid (HV7.out.keep hb); replace HA := Lib.hid (HA.out.keep hb); replace HBH := Lib.hid (HBH.out.keep hb); replace HS := Lib.hid (HS.out.keep hb); replace HB := Lib.hid (HB.out.trans (hb.mono HB.out.size)); have R25 := Lib.hid hr; clear hr hg hs hb; (try simp only [Act.put])) | ((with_reducible refine wpl_load_row rtV ?_ (.tmp 25) ?_ (y3.heap.size) ?_ 24 (vrow t c A7 l.length c7) ?_ R25.out ?_); rfl; rfl; rfl; rfl; simp only [Act.put, List.setIfInBounds_toArray, List.set_cons_succ, List.set_cons_zero]) | ((with_reducible refine wpl_load_row rtV ?_ (.tmp 9) ?_ (w.heap.size + 1) ?_ 24 (vrow t c A l.length cap) ?_ RV.out ?_); rfl; rfl; rfl; rfl; simp only [Act.put, List.setIfInBounds_toArray, List.set_cons_succ, List.set_cons_zero]))
        have HQS := Lib.hid (vsame_any t c A7 l c7 t c A l cap y4 HV7.out.sl'.2 HS.out HBY.out HBY.out)
        rw [smV_refl] at HQS
        refine (HQS.out).mono ?_
        rintro e y5 ⟨rfl, hbx⟩
        replace RX := Lib.hid ((hbx.block _ (row_lt RX.out)).trans RX.out)
        replace RV := Lib.hid ((hbx.block _ (row_lt RV.out)).trans RV.out)
        replace R23 := Lib.hid ((hbx.block _ (row_lt R23.out)).trans R23.out)
        replace R25 := Lib.hid ((hbx.block _ (row_lt R25.out)).trans R25.out)
        replace HV7 := Lib.hid (HV7.out.keep hbx)
        replace HA := Lib.hid (HA.out.keep hbx)
        replace HBH := Lib.hid (HBH.out.keep hbx)
        replace HS := Lib.hid (HS.out.keep hbx)
        replace HB := Lib.hid (HB.out.trans (hbx.mono HB.out.size))
        clear hbx
        have k0 := row_cell (v := .int .i64 tag) R23.out 0 rfl
        clear HQS HVV
        go_wp2_with (first | ((with_reducible refine wpl_load_row rtE ?_ (.tmp 8) ?_ (w.heap.size) ?_ 26 (erow x0 x1 x2 x3) ?_ RX.out ?_); rfl; rfl; rfl; rfl; simp only [Act.put, List.setIfInBounds_toArray, List.set_cons_succ, List.set_cons_zero]))
        clear k0
        have HVB := Lib.hid (show (evB x1 x2 x3 o = false → evL x1 x2 x3 o = [] ∧ evC x1 x2 x3 o = false) ∧ (evB x1 x2 x3 o = true → eB x0 x1 x2 (evL x1 x2 x3 o) o = (decide (0 ≤ x0) && decide (x0 < 65536)) ∧ decide (eN x1 x2 (evL x1 x2 x3 o) o = x3) = evC x1 x2 x3 o ∧ Byts (evL x1 x2 x3 o) ∧ (evL x1 x2 x3 o).length ≤ 4) from ⟨fun h => ⟨by unfold evL; rw [h]; rfl, by unfold evC; rw [h]; rfl⟩, fun h => val_back h⟩)
        refine (eval_any x0 x1 x2 x3 o y5).mono ?_
        rintro e z1 ⟨A8, c8, rfl, hox, hbx⟩
        have HV8 := Lib.hid hox
        replace RX := Lib.hid ((hbx.block _ (row_lt RX.out)).trans RX.out)
        replace RV := Lib.hid ((hbx.block _ (row_lt RV.out)).trans RV.out)
        replace R23 := Lib.hid ((hbx.block _ (row_lt R23.out)).trans R23.out)
        replace R25 := Lib.hid ((hbx.block _ (row_lt R25.out)).trans R25.out)
        replace HV7 := Lib.hid (HV7.out.keep hbx)
        replace HA := Lib.hid (HA.out.keep hbx)
        replace HBH := Lib.hid (HBH.out.keep hbx)
        replace HS := Lib.hid (HS.out.keep hbx)
        replace HB := Lib.hid (HB.out.trans (hbx.mono HB.out.size))
        clear hox hbx
        cases hvb : evB x1 x2 x3 o with
        | false =>
          obtain ⟨v1, v2⟩ := HVB.out.1 hvb
          rw [v1] at HV8 ⊢
          rw [v2]
          clear hvb v1 v2 HVB
          generalize on false x1 = u1
          generalize on false x2 = u2
          go_wp2_with (first | ((with_reducible refine wpl_store_row rtV ?_ (.tmp 28) (.tmp 154) ?_ (z1.heap.size) ?_ (vrow u1 u2 A8 0 c8) ?_ (vrow_one _ _ _ _ _) 24 ?_ _ ?_ (heap_alloc_new z1 _) ?_); rfl; rfl; rfl; rfl; rfl; rfl; intro z2 hr hg hs; have hb : Below z1.heap.size z1 z2 := (ba (brefl z1) _).grown hg (by simp) (fun k hk => by cases hk; exact Nat.le_refl _); replace RX := Lib.hid ((hb.block _ (row_lt RX.out)).trans RX.out); replace RV := Lib.hid ((hb.block _ (row_lt RV.out)).trans RV.out); replace R23 := Lib.hid ((hb.block _ (row_lt R23.out)).trans R23.out); replace R25 := Lib.hid ((hb.block _ (row_lt R25.out)).trans R25.out); replace HV7 := Lib.hid (HV7.out.keep hb); replace HV8 := Lib.hid (HV8.out.keep hb); replace HA := Lib.hid (HA.out.keep hb); replace HBH := Lib.hid (HBH.out.keep hb); replace HS := Lib.hid (HS.out.keep hb); replace HB := Lib.hid (HB.out.trans (hb.mono HB.out.size)); have R28 := Lib.hid hr; have q28 := row_cell (v := .slice A8 0 c8) R28.out 2 rfl; clear hr hg hs hb; (try simp only [Act.put])))
          refine (awake_any _).mono ?_
          rintro e z3 ⟨rfl, hbx⟩
          go_wp2_with fail
          go_ret
          exact ⟨rfl, HB.out.trans (hbx.mono HB.out.size)⟩
        | true =>
          obtain ⟨v1, v2, v3, v4⟩ := HVB.out.2 hvb
          have HV1 := Lib.hid v1
          have HV2 := Lib.hid v2
          have HV3 := Lib.hid v3
          have HOFX := Lib.hid (fun W A c (h : Sl .u8 W A (evL x1 x2 x3 o)) => eof_any x0 x1 x2 A (evL x1 x2 x3 o) c o W h (by omega) v3)
          rw [on_t, on_t]
          clear hvb v1 v2 v3 v4 HVB
          generalize eN x1 x2 (evL x1 x2 x3 o) o = EN at *
          generalize hEB : eB x0 x1 x2 (evL x1 x2 x3 o) o = EB at *
          clear hEB
          generalize evL x1 x2 x3 o = VL at *
          generalize evC x1 x2 x3 o = VC at *
          go_wp2_with (first | ((with_reducible refine wpl_store_row rtV ?_ (.tmp 28) (.tmp 154) ?_ (z1.heap.size) ?_ (vrow x1 x2 A8 VL.length c8) ?_ (vrow_one _ _ _ _ _) 24 ?_ _ ?_ (heap_alloc_new z1 _) ?_); rfl; rfl; rfl; rfl; rfl; rfl; intro z2 hr hg hs; have hb : Below z1.heap.size z1 z2 := (ba (brefl z1) _).grown hg (by simp) (fun k hk => by cases hk; exact Nat.le_refl _); replace RX := Lib.hid ((hb.block _ (row_lt RX.out)).trans RX.out); replace RV := Lib.hid ((hb.block _ (row_lt RV.out)).trans RV.out); replace R23 := Lib.hid ((hb.block _ (row_lt R23.out)).trans R23.out); replace R25 := Lib.hid ((hb.block _ (row_lt R25.out)).trans R25.out); replace HV7 := Lib.hid (HV7.out.keep hb); replace HV8 := Lib.hid (HV8.out.keep hb); replace HA := Lib.hid (HA.out.keep hb); replace HBH := Lib.hid (HBH.out.keep hb); replace HS := Lib.hid (HS.out.keep hb); replace HB := Lib.hid (HB.out.trans (hb.mono HB.out.size)); have R28 := Lib.hid hr; have k0 := row_cell (v := .int .i64 x0) RX.out 0 rfl; clear hr hg hs hb; (try simp only [Act.put])) | ((with_reducible refine wpl_load_row rtV ?_ (.tmp 28) ?_ (z1.heap.size) ?_ 24 (vrow x1 x2 A8 VL.length c8) ?_ R28.out ?_); rfl; rfl; rfl; rfl; simp only [Act.put, List.setIfInBounds_toArray, List.set_cons_succ, List.set_cons_zero]))
          refine (HOFX.out _ _ _ HV8.out.sl'.2).mono ?_
          rintro e z3 ⟨rfl, hbx⟩
          replace RX := Lib.hid ((hbx.block _ (row_lt RX.out)).trans RX.out)
          replace RV := Lib.hid ((hbx.block _ (row_lt RV.out)).trans RV.out)
          replace R23 := Lib.hid ((hbx.block _ (row_lt R23.out)).trans R23.out)
          replace R25 := Lib.hid ((hbx.block _ (row_lt R25.out)).trans R25.out)
          replace R28 := Lib.hid ((hbx.block _ (row_lt R28.out)).trans R28.out)
          replace HV7 := Lib.hid (HV7.out.keep hbx)
          replace HV8 := Lib.hid (HV8.out.keep hbx)
          replace HA := Lib.hid (HA.out.keep hbx)
          replace HBH := Lib.hid (HBH.out.keep hbx)
          replace HS := Lib.hid (HS.out.keep hbx)
          replace HB := Lib.hid (HB.out.trans (hbx.mono HB.out.size))
          clear hbx
          clear k0
          have vc : (VC == VC) = true := by simp
          have step : (decide (0 ≤ x0) = false ∧ EB = false) ∨ (decide (0 ≤ x0) = true ∧ decide (x0 < 65536) = false ∧ EB = false) ∨ (decide (0 ≤ x0) = true ∧ decide (x0 < 65536) = true ∧ EB = true) := by
            rw [HV1.out]
            cases decide (0 ≤ x0) <;> cases decide (x0 < 65536) <;> simp
          have HEQ := Lib.hid (show ∀ w, (Op.equalIn 10000 26 (.agg (erow x0 x1 x2 EN)) (.agg (erow x0 x1 x2 x3))).run Try.prog w = .ok VC w from fun w => by rw [entry_q, eqE_slot, HV2.out])
          clear HV1 HV3 HOFX HEQ
          rcases step with ⟨t1, hE⟩ | ⟨t1, t2, hE⟩ | ⟨t1, t2, hE⟩
          · subst hE
            generalize on false x0 = u0
            generalize on false x1 = u1
            generalize on false x2 = u2
            generalize on false EN = u3
            go_wp2_with (first | ((with_reducible refine wpl_store_row rtE ?_ (.tmp 31) (.tmp 176) ?_ (z3.heap.size) ?_ (erow u0 u1 u2 u3) ?_ (erow_one _ _ _ _) 26 ?_ _ ?_ (heap_alloc_new z3 _) ?_); rfl; rfl; rfl; rfl; rfl; rfl; intro z4 hr hg hs; have hb : Below z3.heap.size z3 z4 := (ba (brefl z3) _).grown hg (by simp) (fun k hk => by cases hk; exact Nat.le_refl _); replace RX := Lib.hid ((hb.block _ (row_lt RX.out)).trans RX.out); replace RV := Lib.hid ((hb.block _ (row_lt RV.out)).trans RV.out); replace R23 := Lib.hid ((hb.block _ (row_lt R23.out)).trans R23.out); replace R25 := Lib.hid ((hb.block _ (row_lt R25.out)).trans R25.out); replace R28 := Lib.hid ((hb.block _ (row_lt R28.out)).trans R28.out); replace HV7 := Lib.hid (HV7.out.keep hb); replace HV8 := Lib.hid (HV8.out.keep hb); replace HA := Lib.hid (HA.out.keep hb); replace HBH := Lib.hid (HBH.out.keep hb); replace HS := Lib.hid (HS.out.keep hb); replace HB := Lib.hid (HB.out.trans (hb.mono HB.out.size)); have R31 := Lib.hid hr; have k0 := row_cell (v := .int .i64 x0) RX.out 0 rfl; clear hr hg hs hb; (try simp only [Act.put])))
            refine (awake_any _).mono ?_
            rintro e z5 ⟨rfl, hbx⟩
            go_wp2_with fail
            go_ret
            exact ⟨rfl, HB.out.trans (hbx.mono HB.out.size)⟩
          · subst hE
            generalize on false x0 = u0
            generalize on false x1 = u1
            generalize on false x2 = u2
            generalize on false EN = u3
            go_wp2_with (first | ((with_reducible refine wpl_store_row rtE ?_ (.tmp 31) (.tmp 176) ?_ (z3.heap.size) ?_ (erow u0 u1 u2 u3) ?_ (erow_one _ _ _ _) 26 ?_ _ ?_ (heap_alloc_new z3 _) ?_); rfl; rfl; rfl; rfl; rfl; rfl; intro z4 hr hg hs; have hb : Below z3.heap.size z3 z4 := (ba (brefl z3) _).grown hg (by simp) (fun k hk => by cases hk; exact Nat.le_refl _); replace RX := Lib.hid ((hb.block _ (row_lt RX.out)).trans RX.out); replace RV := Lib.hid ((hb.block _ (row_lt RV.out)).trans RV.out); replace R23 := Lib.hid ((hb.block _ (row_lt R23.out)).trans R23.out); replace R25 := Lib.hid ((hb.block _ (row_lt R25.out)).trans R25.out); replace R28 := Lib.hid ((hb.block _ (row_lt R28.out)).trans R28.out); replace HV7 := Lib.hid (HV7.out.keep hb); replace HV8 := Lib.hid (HV8.out.keep hb); replace HA := Lib.hid (HA.out.keep hb); replace HBH := Lib.hid (HBH.out.keep hb); replace HS := Lib.hid (HS.out.keep hb); replace HB := Lib.hid (HB.out.trans (hb.mono HB.out.size)); have R31 := Lib.hid hr; have k0 := row_cell (v := .int .i64 x0) RX.out 0 rfl; clear hr hg hs hb; (try simp only [Act.put])))
            refine (awake_any _).mono ?_
            rintro e z5 ⟨rfl, hbx⟩
            go_wp2_with fail
            go_ret
            exact ⟨rfl, HB.out.trans (hbx.mono HB.out.size)⟩
          · subst hE
            rw [on_t, on_t, on_t, on_t]
            clear vc
            by_cases hen : EN = x3
            · have hvc : VC = true := by rw [← HV2.out]; simpa using hen
              subst hvc
              have hen2 := hen.symm
              clear HV2 hen
              subst hen2
              go_wp2_with (first | ((with_reducible refine wpl_store_row rtE ?_ (.tmp 31) (.tmp 176) ?_ (z3.heap.size) ?_ (erow x0 x1 x2 x3) ?_ (erow_one _ _ _ _) 26 ?_ _ ?_ (heap_alloc_new z3 _) ?_); rfl; rfl; rfl; rfl; rfl; rfl; intro z4 hr hg hs; have hb : Below z3.heap.size z3 z4 := (ba (brefl z3) _).grown hg (by simp) (fun k hk => by cases hk; exact Nat.le_refl _); replace RX := Lib.hid ((hb.block _ (row_lt RX.out)).trans RX.out); replace RV := Lib.hid ((hb.block _ (row_lt RV.out)).trans RV.out); replace R23 := Lib.hid ((hb.block _ (row_lt R23.out)).trans R23.out); replace R25 := Lib.hid ((hb.block _ (row_lt R25.out)).trans R25.out); replace R28 := Lib.hid ((hb.block _ (row_lt R28.out)).trans R28.out); replace HV7 := Lib.hid (HV7.out.keep hb); replace HV8 := Lib.hid (HV8.out.keep hb); replace HA := Lib.hid (HA.out.keep hb); replace HBH := Lib.hid (HBH.out.keep hb); replace HS := Lib.hid (HS.out.keep hb); replace HB := Lib.hid (HB.out.trans (hb.mono HB.out.size)); have R31 := Lib.hid hr; have k0 := row_cell (v := .int .i64 x0) RX.out 0 rfl; clear hr hg hs hb; (try simp only [Act.put])) | ((with_reducible refine wpl_load_row rtE ?_ (.tmp 31) ?_ (z3.heap.size) ?_ 26 (erow x0 x1 x2 x3) ?_ R31.out ?_); rfl; rfl; rfl; rfl; simp only [Act.put, List.setIfInBounds_toArray, List.set_cons_succ, List.set_cons_zero]) | ((with_reducible refine wpl_load_row rtE ?_ (.tmp 8) ?_ (w.heap.size) ?_ 26 (erow x0 x1 x2 x3) ?_ RX.out ?_); rfl; rfl; rfl; rfl; simp only [Act.put, List.setIfInBounds_toArray, List.set_cons_succ, List.set_cons_zero]))
              refine (awake_any _).mono ?_
              rintro e z5 ⟨rfl, hbx⟩
              go_wp2_with fail
              go_ret
              exact ⟨rfl, HB.out.trans (hbx.mono HB.out.size)⟩
            · have hvc : VC = false := by rw [← HV2.out]; simpa using hen
              subst hvc
              clear HV2
              go_wp2_with (first | ((with_reducible refine wpl_store_row rtE ?_ (.tmp 31) (.tmp 176) ?_ (z3.heap.size) ?_ (erow x0 x1 x2 EN) ?_ (erow_one _ _ _ _) 26 ?_ _ ?_ (heap_alloc_new z3 _) ?_); rfl; rfl; rfl; rfl; rfl; rfl; intro z4 hr hg hs; have hb : Below z3.heap.size z3 z4 := (ba (brefl z3) _).grown hg (by simp) (fun k hk => by cases hk; exact Nat.le_refl _); replace RX := Lib.hid ((hb.block _ (row_lt RX.out)).trans RX.out); replace RV := Lib.hid ((hb.block _ (row_lt RV.out)).trans RV.out); replace R23 := Lib.hid ((hb.block _ (row_lt R23.out)).trans R23.out); replace R25 := Lib.hid ((hb.block _ (row_lt R25.out)).trans R25.out); replace R28 := Lib.hid ((hb.block _ (row_lt R28.out)).trans R28.out); replace HV7 := Lib.hid (HV7.out.keep hb); replace HV8 := Lib.hid (HV8.out.keep hb); replace HA := Lib.hid (HA.out.keep hb); replace HBH := Lib.hid (HBH.out.keep hb); replace HS := Lib.hid (HS.out.keep hb); replace HB := Lib.hid (HB.out.trans (hb.mono HB.out.size)); have R31 := Lib.hid hr; have k0 := row_cell (v := .int .i64 x0) RX.out 0 rfl; clear hr hg hs hb; (try simp only [Act.put])) | ((with_reducible refine wpl_load_row rtE ?_ (.tmp 31) ?_ (z3.heap.size) ?_ 26 (erow x0 x1 x2 EN) ?_ R31.out ?_); rfl; rfl; rfl; rfl; simp only [Act.put, List.setIfInBounds_toArray, List.set_cons_succ, List.set_cons_zero]) | ((with_reducible refine wpl_load_row rtE ?_ (.tmp 8) ?_ (w.heap.size) ?_ 26 (erow x0 x1 x2 x3) ?_ RX.out ?_); rfl; rfl; rfl; rfl; simp only [Act.put, List.setIfInBounds_toArray, List.set_cons_succ, List.set_cons_zero]))
              refine (awake_any _).mono ?_
              rintro e z5 ⟨rfl, hbx⟩
              go_wp2_with fail
              go_ret
              exact ⟨rfl, HB.out.trans (hbx.mono HB.out.size)⟩
    | true =>
      obtain ⟨v1, v2, v3⟩ := HEW.out hrb
      have h12 : (lb.take 12).length = 12 := by rw [List.length_take]; omega
      have i12 : ¬ ((lb.length : Int) < 12) := by omega
      have j12 : (12 : Int) ≤ (capb : Int) := by omega
      rw [v1, v2, h12] at HWR
      have HSM := Lib.hid (fun W A c (h : Sl .u8 W A (lb.take 12)) (h2 : Sl .u8 W Ab (lb.take 12)) => same_any A Ab (lb.take 12) (lb.take 12) c capb W h h2 (by omega) (by omega))
      rw [h12] at HSM
      have HL12 := Lib.hid h12
      clear hrb HEW v1 v2 v3 h12
      have dd : decide (lb.take 12 = lb.take 12) = true := by simp
      go_wp2_with (first | ((with_reducible refine wpl_store_row rtE ?_ (.tmp 19) (.tmp 94) ?_ (x5.heap.size) ?_ (erow r0 r1 r2 r3) ?_ (erow_one _ _ _ _) 26 ?_ _ ?_ (heap_alloc_new x5 _) ?_); rfl; rfl; rfl; rfl; rfl; rfl; intro x6 hr hg hs; have hb : Below x5.heap.size x5 x6 := (ba (brefl x5) _).grown hg (by simp) (fun k hk => by cases hk; exact Nat.le_refl _); replace RX := Lib.hid ((hb.block _ (row_lt RX.out)).trans RX.out); replace RV := Lib.hid ((hb.block _ (row_lt RV.out)).trans RV.out); replace HA := Lib.hid (HA.out.keep hb); replace HBH := Lib.hid (HBH.out.keep hb); replace HS := Lib.hid (HS.out.keep hb); replace HB := Lib.hid (HB.out.trans (hb.mono HB.out.size)); have R19 := Lib.hid hr; clear hr hg hs hb; (try simp only [Act.put])) | ((with_reducible refine wpl_load_row rtE ?_ (.tmp 19) ?_ (x5.heap.size) ?_ 26 (erow r0 r1 r2 r3) ?_ R19.out ?_); rfl; rfl; rfl; rfl; simp only [Act.put, List.setIfInBounds_toArray, List.set_cons_succ, List.set_cons_zero]))
      refine (HWR.out x6).mono ?_
      rintro e x7 ⟨A5, c5, rfl, hox, hbx⟩
      have HW5 := Lib.hid hox
      replace RX := Lib.hid ((hbx.block _ (row_lt RX.out)).trans RX.out)
      replace RV := Lib.hid ((hbx.block _ (row_lt RV.out)).trans RV.out)
      replace HA := Lib.hid (HA.out.keep hbx)
      replace HBH := Lib.hid (HBH.out.keep hbx)
      replace HS := Lib.hid (HS.out.keep hbx)
      replace HB := Lib.hid (HB.out.trans (hbx.mono HB.out.size))
      clear hox hbx
      go_wp2_with fail
      refine (HSM.out x7 _ _ HW5.out.sl'.2 (HBH.out.take 12)).mono ?_
      rintro e x8 ⟨rfl, hbx⟩
      replace RX := Lib.hid ((hbx.block _ (row_lt RX.out)).trans RX.out)
      replace RV := Lib.hid ((hbx.block _ (row_lt RV.out)).trans RV.out)
      replace HW5 := Lib.hid (HW5.out.keep hbx)
      replace HA := Lib.hid (HA.out.keep hbx)
      replace HBH := Lib.hid (HBH.out.keep hbx)
      replace HS := Lib.hid (HS.out.keep hbx)
      replace HB := Lib.hid (HB.out.trans (hbx.mono HB.out.size))
      clear hbx
      rw [dd]
      clear dd HSM HWR
      go_wp2_with (first | ((with_reducible refine wpl_load_row rtV ?_ (.tmp 9) ?_ (w.heap.size + 1) ?_ 24 (vrow t c A l.length cap) ?_ RV.out ?_); rfl; rfl; rfl; rfl; simp only [Act.put, List.setIfInBounds_toArray, List.set_cons_succ, List.set_cons_zero]))
      clear HW5
      clear i12 j12
      have HEF := Lib.hid (show eB tag t c l o = true → evB t c (eN t c l o) o = true ∧ evL t c (eN t c l o) o = l ∧ evC t c (eN t c l o) o = true from fun h => eof_back HBY.out h)
      refine (eof_any tag t c A l cap o x8 HS.out (by omega) HBY.out).mono ?_
      rintro e y1 ⟨rfl, hbx⟩
      replace RX := Lib.hid ((hbx.block _ (row_lt RX.out)).trans RX.out)
      replace RV := Lib.hid ((hbx.block _ (row_lt RV.out)).trans RV.out)
      replace HA := Lib.hid (HA.out.keep hbx)
      replace HBH := Lib.hid (HBH.out.keep hbx)
      replace HS := Lib.hid (HS.out.keep hbx)
      replace HB := Lib.hid (HB.out.trans (hbx.mono HB.out.size))
      clear hbx
      cases heb : eB tag t c l o with
      | false =>
        clear heb HEF
        generalize on false tag = u0
        generalize on false t = u1
        generalize on false c = u2
        generalize on false (eN t c l o) = u3
        go_wp2_with (first | ((with_reducible refine wpl_store_row rtE ?_ (.tmp 23) (.tmp 122) ?_ (y1.heap.size) ?_ (erow u0 u1 u2 u3) ?_ (erow_one _ _ _ _) 26 ?_ _ ?_ (heap_alloc_new y1 _) ?_); rfl; rfl; rfl; rfl; rfl; rfl; intro y2 hr hg hs; have hb : Below y1.heap.size y1 y2 := (ba (brefl y1) _).grown hg (by simp) (fun k hk => by cases hk; exact Nat.le_refl _); replace RX := Lib.hid ((hb.block _ (row_lt RX.out)).trans RX.out); replace RV := Lib.hid ((hb.block _ (row_lt RV.out)).trans RV.out); replace HA := Lib.hid (HA.out.keep hb); replace HBH := Lib.hid (HBH.out.keep hb); replace HS := Lib.hid (HS.out.keep hb); replace HB := Lib.hid (HB.out.trans (hb.mono HB.out.size)); have R23 := Lib.hid hr; clear hr hg hs hb; (try simp only [Act.put])) | ((with_reducible refine wpl_load_row rtE ?_ (.tmp 8) ?_ (w.heap.size) ?_ 26 (erow x0 x1 x2 x3) ?_ RX.out ?_); rfl; rfl; rfl; rfl; simp only [Act.put, List.setIfInBounds_toArray, List.set_cons_succ, List.set_cons_zero]))
        have HVB := Lib.hid (show (evB x1 x2 x3 o = false → evL x1 x2 x3 o = [] ∧ evC x1 x2 x3 o = false) ∧ (evB x1 x2 x3 o = true → eB x0 x1 x2 (evL x1 x2 x3 o) o = (decide (0 ≤ x0) && decide (x0 < 65536)) ∧ decide (eN x1 x2 (evL x1 x2 x3 o) o = x3) = evC x1 x2 x3 o ∧ Byts (evL x1 x2 x3 o) ∧ (evL x1 x2 x3 o).length ≤ 4) from ⟨fun h => ⟨by unfold evL; rw [h]; rfl, by unfold evC; rw [h]; rfl⟩, fun h => val_back h⟩)
        refine (eval_any x0 x1 x2 x3 o y2).mono ?_
        rintro e z1 ⟨A8, c8, rfl, hox, hbx⟩
        have HV8 := Lib.hid hox
        replace RX := Lib.hid ((hbx.block _ (row_lt RX.out)).trans RX.out)
        replace RV := Lib.hid ((hbx.block _ (row_lt RV.out)).trans RV.out)
        replace R23 := Lib.hid ((hbx.block _ (row_lt R23.out)).trans R23.out)
        replace HA := Lib.hid (HA.out.keep hbx)
        replace HBH := Lib.hid (HBH.out.keep hbx)
        replace HS := Lib.hid (HS.out.keep hbx)
        replace HB := Lib.hid (HB.out.trans (hbx.mono HB.out.size))
        clear hox hbx
        cases hvb : evB x1 x2 x3 o with
        | false =>
          obtain ⟨v1, v2⟩ := HVB.out.1 hvb
          rw [v1] at HV8 ⊢
          rw [v2]
          clear hvb v1 v2 HVB
          generalize on false x1 = u1
          generalize on false x2 = u2
          go_wp2_with (first | ((with_reducible refine wpl_store_row rtV ?_ (.tmp 28) (.tmp 154) ?_ (z1.heap.size) ?_ (vrow u1 u2 A8 0 c8) ?_ (vrow_one _ _ _ _ _) 24 ?_ _ ?_ (heap_alloc_new z1 _) ?_); rfl; rfl; rfl; rfl; rfl; rfl; intro z2 hr hg hs; have hb : Below z1.heap.size z1 z2 := (ba (brefl z1) _).grown hg (by simp) (fun k hk => by cases hk; exact Nat.le_refl _); replace RX := Lib.hid ((hb.block _ (row_lt RX.out)).trans RX.out); replace RV := Lib.hid ((hb.block _ (row_lt RV.out)).trans RV.out); replace R23 := Lib.hid ((hb.block _ (row_lt R23.out)).trans R23.out); replace HV8 := Lib.hid (HV8.out.keep hb); replace HA := Lib.hid (HA.out.keep hb); replace HBH := Lib.hid (HBH.out.keep hb); replace HS := Lib.hid (HS.out.keep hb); replace HB := Lib.hid (HB.out.trans (hb.mono HB.out.size)); have R28 := Lib.hid hr; have q28 := row_cell (v := .slice A8 0 c8) R28.out 2 rfl; clear hr hg hs hb; (try simp only [Act.put])))
          refine (awake_any _).mono ?_
          rintro e z3 ⟨rfl, hbx⟩
          go_wp2_with fail
          go_ret
          exact ⟨rfl, HB.out.trans (hbx.mono HB.out.size)⟩
        | true =>
          obtain ⟨v1, v2, v3, v4⟩ := HVB.out.2 hvb
          have HV1 := Lib.hid v1
          have HV2 := Lib.hid v2
          have HV3 := Lib.hid v3
          have HOFX := Lib.hid (fun W A c (h : Sl .u8 W A (evL x1 x2 x3 o)) => eof_any x0 x1 x2 A (evL x1 x2 x3 o) c o W h (by omega) v3)
          rw [on_t, on_t]
          clear hvb v1 v2 v3 v4 HVB
          generalize eN x1 x2 (evL x1 x2 x3 o) o = EN at *
          generalize hEB : eB x0 x1 x2 (evL x1 x2 x3 o) o = EB at *
          clear hEB
          generalize evL x1 x2 x3 o = VL at *
          generalize evC x1 x2 x3 o = VC at *
          go_wp2_with (first | ((with_reducible refine wpl_store_row rtV ?_ (.tmp 28) (.tmp 154) ?_ (z1.heap.size) ?_ (vrow x1 x2 A8 VL.length c8) ?_ (vrow_one _ _ _ _ _) 24 ?_ _ ?_ (heap_alloc_new z1 _) ?_); rfl; rfl; rfl; rfl; rfl; rfl; intro z2 hr hg hs; have hb : Below z1.heap.size z1 z2 := (ba (brefl z1) _).grown hg (by simp) (fun k hk => by cases hk; exact Nat.le_refl _); replace RX := Lib.hid ((hb.block _ (row_lt RX.out)).trans RX.out); replace RV := Lib.hid ((hb.block _ (row_lt RV.out)).trans RV.out); replace R23 := Lib.hid ((hb.block _ (row_lt R23.out)).trans R23.out); replace HV8 := Lib.hid (HV8.out.keep hb); replace HA := Lib.hid (HA.out.keep hb); replace HBH := Lib.hid (HBH.out.keep hb); replace HS := Lib.hid (HS.out.keep hb); replace HB := Lib.hid (HB.out.trans (hb.mono HB.out.size)); have R28 := Lib.hid hr; have k0 := row_cell (v := .int .i64 x0) RX.out 0 rfl; clear hr hg hs hb; (try simp only [Act.put])) | ((with_reducible refine wpl_load_row rtV ?_ (.tmp 28) ?_ (z1.heap.size) ?_ 24 (vrow x1 x2 A8 VL.length c8) ?_ R28.out ?_); rfl; rfl; rfl; rfl; simp only [Act.put, List.setIfInBounds_toArray, List.set_cons_succ, List.set_cons_zero]))
          refine (HOFX.out _ _ _ HV8.out.sl'.2).mono ?_
          rintro e z3 ⟨rfl, hbx⟩
          replace RX := Lib.hid ((hbx.block _ (row_lt RX.out)).trans RX.out)
          replace RV := Lib.hid ((hbx.block _ (row_lt RV.out)).trans RV.out)
          replace R23 := Lib.hid ((hbx.block _ (row_lt R23.out)).trans R23.out)
          replace R28 := Lib.hid ((hbx.block _ (row_lt R28.out)).trans R28.out)
          replace HV8 := Lib.hid (HV8.out.keep hbx)
          replace HA := Lib.hid (HA.out.keep hbx)
          replace HBH := Lib.hid (HBH.out.keep hbx)
          replace HS := Lib.hid (HS.out.keep hbx)
          replace HB := Lib.hid (HB.out.trans (hbx.mono HB.out.size))
          clear hbx
          clear k0
          have vc : (VC == VC) = true := by simp
          have step : (decide (0 ≤ x0) = false ∧ EB = false) ∨ (decide (0 ≤ x0) = true ∧ decide (x0 < 65536) = false ∧ EB = false) ∨ (decide (0 ≤ x0) = true ∧ decide (x0 < 65536) = true ∧ EB = true) := by
            rw [HV1.out]
            cases decide (0 ≤ x0) <;> cases decide (x0 < 65536) <;> simp
          have HEQ := Lib.hid (show ∀ w, (Op.equalIn 10000 26 (.agg (erow x0 x1 x2 EN)) (.agg (erow x0 x1 x2 x3))).run Try.prog w = .ok VC w from fun w => by rw [entry_q, eqE_slot, HV2.out])
          clear HV1 HV3 HOFX HEQ
          rcases step with ⟨t1, hE⟩ | ⟨t1, t2, hE⟩ | ⟨t1, t2, hE⟩
          · subst hE
            generalize on false x0 = u0
            generalize on false x1 = u1
            generalize on false x2 = u2
            generalize on false EN = u3
            go_wp2_with (first | ((with_reducible refine wpl_store_row rtE ?_ (.tmp 31) (.tmp 176) ?_ (z3.heap.size) ?_ (erow u0 u1 u2 u3) ?_ (erow_one _ _ _ _) 26 ?_ _ ?_ (heap_alloc_new z3 _) ?_); rfl; rfl; rfl; rfl; rfl; rfl; intro z4 hr hg hs; have hb : Below z3.heap.size z3 z4 := (ba (brefl z3) _).grown hg (by simp) (fun k hk => by cases hk; exact Nat.le_refl _); replace RX := Lib.hid ((hb.block _ (row_lt RX.out)).trans RX.out); replace RV := Lib.hid ((hb.block _ (row_lt RV.out)).trans RV.out); replace R23 := Lib.hid ((hb.block _ (row_lt R23.out)).trans R23.out); replace R28 := Lib.hid ((hb.block _ (row_lt R28.out)).trans R28.out); replace HV8 := Lib.hid (HV8.out.keep hb); replace HA := Lib.hid (HA.out.keep hb); replace HBH := Lib.hid (HBH.out.keep hb); replace HS := Lib.hid (HS.out.keep hb); replace HB := Lib.hid (HB.out.trans (hb.mono HB.out.size)); have R31 := Lib.hid hr; have k0 := row_cell (v := .int .i64 x0) RX.out 0 rfl; clear hr hg hs hb; (try simp only [Act.put])))
            refine (awake_any _).mono ?_
            rintro e z5 ⟨rfl, hbx⟩
            go_wp2_with fail
            go_ret
            exact ⟨rfl, HB.out.trans (hbx.mono HB.out.size)⟩
          · subst hE
            generalize on false x0 = u0
            generalize on false x1 = u1
            generalize on false x2 = u2
            generalize on false EN = u3
            go_wp2_with (first | ((with_reducible refine wpl_store_row rtE ?_ (.tmp 31) (.tmp 176) ?_ (z3.heap.size) ?_ (erow u0 u1 u2 u3) ?_ (erow_one _ _ _ _) 26 ?_ _ ?_ (heap_alloc_new z3 _) ?_); rfl; rfl; rfl; rfl; rfl; rfl; intro z4 hr hg hs; have hb : Below z3.heap.size z3 z4 := (ba (brefl z3) _).grown hg (by simp) (fun k hk => by cases hk; exact Nat.le_refl _); replace RX := Lib.hid ((hb.block _ (row_lt RX.out)).trans RX.out); replace RV := Lib.hid ((hb.block _ (row_lt RV.out)).trans RV.out); replace R23 := Lib.hid ((hb.block _ (row_lt R23.out)).trans R23.out); replace R28 := Lib.hid ((hb.block _ (row_lt R28.out)).trans R28.out); replace HV8 := Lib.hid (HV8.out.keep hb); replace HA := Lib.hid (HA.out.keep hb); replace HBH := Lib.hid (HBH.out.keep hb); replace HS := Lib.hid (HS.out.keep hb); replace HB := Lib.hid (HB.out.trans (hb.mono HB.out.size)); have R31 := Lib.hid hr; have k0 := row_cell (v := .int .i64 x0) RX.out 0 rfl; clear hr hg hs hb; (try simp only [Act.put])))
            refine (awake_any _).mono ?_
            rintro e z5 ⟨rfl, hbx⟩
            go_wp2_with fail
            go_ret
            exact ⟨rfl, HB.out.trans (hbx.mono HB.out.size)⟩
          · subst hE
            rw [on_t, on_t, on_t, on_t]
            clear vc
            by_cases hen : EN = x3
            · have hvc : VC = true := by rw [← HV2.out]; simpa using hen
              subst hvc
              have hen2 := hen.symm
              clear HV2 hen
              subst hen2
              go_wp2_with (first | ((with_reducible refine wpl_store_row rtE ?_ (.tmp 31) (.tmp 176) ?_ (z3.heap.size) ?_ (erow x0 x1 x2 x3) ?_ (erow_one _ _ _ _) 26 ?_ _ ?_ (heap_alloc_new z3 _) ?_); rfl; rfl; rfl; rfl; rfl; rfl; intro z4 hr hg hs; have hb : Below z3.heap.size z3 z4 := (ba (brefl z3) _).grown hg (by simp) (fun k hk => by cases hk; exact Nat.le_refl _); replace RX := Lib.hid ((hb.block _ (row_lt RX.out)).trans RX.out); replace RV := Lib.hid ((hb.block _ (row_lt RV.out)).trans RV.out); replace R23 := Lib.hid ((hb.block _ (row_lt R23.out)).trans R23.out); replace R28 := Lib.hid ((hb.block _ (row_lt R28.out)).trans R28.out); replace HV8 := Lib.hid (HV8.out.keep hb); replace HA := Lib.hid (HA.out.keep hb); replace HBH := Lib.hid (HBH.out.keep hb); replace HS := Lib.hid (HS.out.keep hb); replace HB := Lib.hid (HB.out.trans (hb.mono HB.out.size)); have R31 := Lib.hid hr; have k0 := row_cell (v := .int .i64 x0) RX.out 0 rfl; clear hr hg hs hb; (try simp only [Act.put])) | ((with_reducible refine wpl_load_row rtE ?_ (.tmp 31) ?_ (z3.heap.size) ?_ 26 (erow x0 x1 x2 x3) ?_ R31.out ?_); rfl; rfl; rfl; rfl; simp only [Act.put, List.setIfInBounds_toArray, List.set_cons_succ, List.set_cons_zero]) | ((with_reducible refine wpl_load_row rtE ?_ (.tmp 8) ?_ (w.heap.size) ?_ 26 (erow x0 x1 x2 x3) ?_ RX.out ?_); rfl; rfl; rfl; rfl; simp only [Act.put, List.setIfInBounds_toArray, List.set_cons_succ, List.set_cons_zero]))
              refine (awake_any _).mono ?_
              rintro e z5 ⟨rfl, hbx⟩
              go_wp2_with fail
              go_ret
              exact ⟨rfl, HB.out.trans (hbx.mono HB.out.size)⟩
            · have hvc : VC = false := by rw [← HV2.out]; simpa using hen
              subst hvc
              clear HV2
              go_wp2_with (first | ((with_reducible refine wpl_store_row rtE ?_ (.tmp 31) (.tmp 176) ?_ (z3.heap.size) ?_ (erow x0 x1 x2 EN) ?_ (erow_one _ _ _ _) 26 ?_ _ ?_ (heap_alloc_new z3 _) ?_); rfl; rfl; rfl; rfl; rfl; rfl; intro z4 hr hg hs; have hb : Below z3.heap.size z3 z4 := (ba (brefl z3) _).grown hg (by simp) (fun k hk => by cases hk; exact Nat.le_refl _); replace RX := Lib.hid ((hb.block _ (row_lt RX.out)).trans RX.out); replace RV := Lib.hid ((hb.block _ (row_lt RV.out)).trans RV.out); replace R23 := Lib.hid ((hb.block _ (row_lt R23.out)).trans R23.out); replace R28 := Lib.hid ((hb.block _ (row_lt R28.out)).trans R28.out); replace HV8 := Lib.hid (HV8.out.keep hb); replace HA := Lib.hid (HA.out.keep hb); replace HBH := Lib.hid (HBH.out.keep hb); replace HS := Lib.hid (HS.out.keep hb); replace HB := Lib.hid (HB.out.trans (hb.mono HB.out.size)); have R31 := Lib.hid hr; have k0 := row_cell (v := .int .i64 x0) RX.out 0 rfl; clear hr hg hs hb; (try simp only [Act.put])) | ((with_reducible refine wpl_load_row rtE ?_ (.tmp 31) ?_ (z3.heap.size) ?_ 26 (erow x0 x1 x2 EN) ?_ R31.out ?_); rfl; rfl; rfl; rfl; simp only [Act.put, List.setIfInBounds_toArray, List.set_cons_succ, List.set_cons_zero]) | ((with_reducible refine wpl_load_row rtE ?_ (.tmp 8) ?_ (w.heap.size) ?_ 26 (erow x0 x1 x2 x3) ?_ RX.out ?_); rfl; rfl; rfl; rfl; simp only [Act.put, List.setIfInBounds_toArray, List.set_cons_succ, List.set_cons_zero]))
              refine (awake_any _).mono ?_
              rintro e z5 ⟨rfl, hbx⟩
              go_wp2_with fail
              go_ret
              exact ⟨rfl, HB.out.trans (hbx.mono HB.out.size)⟩
      | true =>
        obtain ⟨v1, v2, v3⟩ := HEF.out heb
        rw [on_t, on_t, on_t, on_t]
        have HVV := Lib.hid (fun W => eval_any tag t c (eN t c l o) o W)
        rw [v1, v2, v3, on_t, on_t] at HVV
        clear heb HEF v1 v2 v3
        generalize eN t c l o = EV at *
        go_wp2_with (first | ((with_reducible refine wpl_store_row rtE ?_ (.tmp 23) (.tmp 122) ?_ (y1.heap.size) ?_ (erow tag t c EV) ?_ (erow_one _ _ _ _) 26 ?_ _ ?_ (heap_alloc_new y1 _) ?_); rfl; rfl; rfl; rfl; rfl; rfl; intro y2 hr hg hs; have hb : Below y1.heap.size y1 y2 := (ba (brefl y1) _).grown hg (by simp) (fun k hk => by cases hk; exact Nat.le_refl _); replace RX := Lib.hid ((hb.block _ (row_lt RX.out)).trans RX.out); replace RV := Lib.hid ((hb.block _ (row_lt RV.out)).trans RV.out); replace HA := Lib.hid (HA.out.keep hb); replace HBH := Lib.hid (HBH.out.keep hb); replace HS := Lib.hid (HS.out.keep hb); replace HB := Lib.hid (HB.out.trans (hb.mono HB.out.size)); have R23 := Lib.hid hr; clear hr hg hs hb; (try simp only [Act.put])) | ((with_reducible refine wpl_load_row rtE ?_ (.tmp 23) ?_ (y1.heap.size) ?_ 26 (erow tag t c EV) ?_ R23.out ?_); rfl; rfl; rfl; rfl; simp only [Act.put, List.setIfInBounds_toArray, List.set_cons_succ, List.set_cons_zero]))
        obtain ⟨g23, hg23⟩ : ∃ g, g = y1.heap.size := ⟨_, rfl⟩
        rw [← hg23] at R23 ⊢
        clear hg23
        refine (HVV.out y2).mono ?_
        rintro e y3 ⟨A7, c7, rfl, hox, hbx⟩
        have HV7 := Lib.hid hox
        replace RX := Lib.hid ((hbx.block _ (row_lt RX.out)).trans RX.out)
        replace RV := Lib.hid ((hbx.block _ (row_lt RV.out)).trans RV.out)
        replace R23 := Lib.hid ((hbx.block _ (row_lt R23.out)).trans R23.out)
        replace HA := Lib.hid (HA.out.keep hbx)
        replace HBH := Lib.hid (HBH.out.keep hbx)
        replace HS := Lib.hid (HS.out.keep hbx)
        replace HB := Lib.hid (HB.out.trans (hbx.mono HB.out.size))
        clear hox hbx
        have tt : (tag != tag) = false := by simp
        go_wp2_with (first | ((with_reducible refine wpl_store_row rtV ?_ (.tmp 25) (.tmp 129) ?_ (y3.heap.size) ?_ (vrow t c A7 l.length c7) ?_ (vrow_one _ _ _ _ _) 24 ?_ _ ?_ (heap_alloc_new y3 _) ?_); rfl; rfl; rfl; rfl; rfl; rfl; intro y4 hr hg hs; have hb : Below y3.heap.size y3 y4 := (ba (brefl y3) _).grown hg (by simp) (fun k hk => by cases hk; exact Nat.le_refl _); replace RX := Lib.hid ((hb.block _ (row_lt RX.out)).trans RX.out); replace RV := Lib.hid ((hb.block _ (row_lt RV.out)).trans RV.out); replace R23 := Lib.hid ((hb.block _ (row_lt R23.out)).trans R23.out); replace HV7 := Lib.hid (HV7.out.keep hb); replace HA := Lib.hid (HA.out.keep hb); replace HBH := Lib.hid (HBH.out.keep hb); replace HS := Lib.hid (HS.out.keep hb); replace HB := Lib.hid (HB.out.trans (hb.mono HB.out.size)); have R25 := Lib.hid hr; clear hr hg hs hb; (try simp only [Act.put])) | ((with_reducible refine wpl_load_row rtV ?_ (.tmp 25) ?_ (y3.heap.size) ?_ 24 (vrow t c A7 l.length c7) ?_ R25.out ?_); rfl; rfl; rfl; rfl; simp only [Act.put, List.setIfInBounds_toArray, List.set_cons_succ, List.set_cons_zero]) | ((with_reducible refine wpl_load_row rtV ?_ (.tmp 9) ?_ (w.heap.size + 1) ?_ 24 (vrow t c A l.length cap) ?_ RV.out ?_); rfl; rfl; rfl; rfl; simp only [Act.put, List.setIfInBounds_toArray, List.set_cons_succ, List.set_cons_zero]))
        have HQS := Lib.hid (vsame_any t c A7 l c7 t c A l cap y4 HV7.out.sl'.2 HS.out HBY.out HBY.out)
        rw [smV_refl] at HQS
        refine (HQS.out).mono ?_
        rintro e y5 ⟨rfl, hbx⟩
        replace RX := Lib.hid ((hbx.block _ (row_lt RX.out)).trans RX.out)
        replace RV := Lib.hid ((hbx.block _ (row_lt RV.out)).trans RV.out)
        replace R23 := Lib.hid ((hbx.block _ (row_lt R23.out)).trans R23.out)
        replace R25 := Lib.hid ((hbx.block _ (row_lt R25.out)).trans R25.out)
        replace HV7 := Lib.hid (HV7.out.keep hbx)
        replace HA := Lib.hid (HA.out.keep hbx)
        replace HBH := Lib.hid (HBH.out.keep hbx)
        replace HS := Lib.hid (HS.out.keep hbx)
        replace HB := Lib.hid (HB.out.trans (hbx.mono HB.out.size))
        clear hbx
        have k0 := row_cell (v := .int .i64 tag) R23.out 0 rfl
        clear HQS HVV
        go_wp2_with (first | ((with_reducible refine wpl_load_row rtE ?_ (.tmp 8) ?_ (w.heap.size) ?_ 26 (erow x0 x1 x2 x3) ?_ RX.out ?_); rfl; rfl; rfl; rfl; simp only [Act.put, List.setIfInBounds_toArray, List.set_cons_succ, List.set_cons_zero]))
        clear k0
        have HVB := Lib.hid (show (evB x1 x2 x3 o = false → evL x1 x2 x3 o = [] ∧ evC x1 x2 x3 o = false) ∧ (evB x1 x2 x3 o = true → eB x0 x1 x2 (evL x1 x2 x3 o) o = (decide (0 ≤ x0) && decide (x0 < 65536)) ∧ decide (eN x1 x2 (evL x1 x2 x3 o) o = x3) = evC x1 x2 x3 o ∧ Byts (evL x1 x2 x3 o) ∧ (evL x1 x2 x3 o).length ≤ 4) from ⟨fun h => ⟨by unfold evL; rw [h]; rfl, by unfold evC; rw [h]; rfl⟩, fun h => val_back h⟩)
        refine (eval_any x0 x1 x2 x3 o y5).mono ?_
        rintro e z1 ⟨A8, c8, rfl, hox, hbx⟩
        have HV8 := Lib.hid hox
        replace RX := Lib.hid ((hbx.block _ (row_lt RX.out)).trans RX.out)
        replace RV := Lib.hid ((hbx.block _ (row_lt RV.out)).trans RV.out)
        replace R23 := Lib.hid ((hbx.block _ (row_lt R23.out)).trans R23.out)
        replace R25 := Lib.hid ((hbx.block _ (row_lt R25.out)).trans R25.out)
        replace HV7 := Lib.hid (HV7.out.keep hbx)
        replace HA := Lib.hid (HA.out.keep hbx)
        replace HBH := Lib.hid (HBH.out.keep hbx)
        replace HS := Lib.hid (HS.out.keep hbx)
        replace HB := Lib.hid (HB.out.trans (hbx.mono HB.out.size))
        clear hox hbx
        cases hvb : evB x1 x2 x3 o with
        | false =>
          obtain ⟨v1, v2⟩ := HVB.out.1 hvb
          rw [v1] at HV8 ⊢
          rw [v2]
          clear hvb v1 v2 HVB
          generalize on false x1 = u1
          generalize on false x2 = u2
          go_wp2_with (first | ((with_reducible refine wpl_store_row rtV ?_ (.tmp 28) (.tmp 154) ?_ (z1.heap.size) ?_ (vrow u1 u2 A8 0 c8) ?_ (vrow_one _ _ _ _ _) 24 ?_ _ ?_ (heap_alloc_new z1 _) ?_); rfl; rfl; rfl; rfl; rfl; rfl; intro z2 hr hg hs; have hb : Below z1.heap.size z1 z2 := (ba (brefl z1) _).grown hg (by simp) (fun k hk => by cases hk; exact Nat.le_refl _); replace RX := Lib.hid ((hb.block _ (row_lt RX.out)).trans RX.out); replace RV := Lib.hid ((hb.block _ (row_lt RV.out)).trans RV.out); replace R23 := Lib.hid ((hb.block _ (row_lt R23.out)).trans R23.out); replace R25 := Lib.hid ((hb.block _ (row_lt R25.out)).trans R25.out); replace HV7 := Lib.hid (HV7.out.keep hb); replace HV8 := Lib.hid (HV8.out.keep hb); replace HA := Lib.hid (HA.out.keep hb); replace HBH := Lib.hid (HBH.out.keep hb); replace HS := Lib.hid (HS.out.keep hb); replace HB := Lib.hid (HB.out.trans (hb.mono HB.out.size)); have R28 := Lib.hid hr; have q28 := row_cell (v := .slice A8 0 c8) R28.out 2 rfl; clear hr hg hs hb; (try simp only [Act.put])))
          refine (awake_any _).mono ?_
          rintro e z3 ⟨rfl, hbx⟩
          go_wp2_with fail
          go_ret
          exact ⟨rfl, HB.out.trans (hbx.mono HB.out.size)⟩
        | true =>
          obtain ⟨v1, v2, v3, v4⟩ := HVB.out.2 hvb
          have HV1 := Lib.hid v1
          have HV2 := Lib.hid v2
          have HV3 := Lib.hid v3
          have HOFX := Lib.hid (fun W A c (h : Sl .u8 W A (evL x1 x2 x3 o)) => eof_any x0 x1 x2 A (evL x1 x2 x3 o) c o W h (by omega) v3)
          rw [on_t, on_t]
          clear hvb v1 v2 v3 v4 HVB
          generalize eN x1 x2 (evL x1 x2 x3 o) o = EN at *
          generalize hEB : eB x0 x1 x2 (evL x1 x2 x3 o) o = EB at *
          clear hEB
          generalize evL x1 x2 x3 o = VL at *
          generalize evC x1 x2 x3 o = VC at *
          go_wp2_with (first | ((with_reducible refine wpl_store_row rtV ?_ (.tmp 28) (.tmp 154) ?_ (z1.heap.size) ?_ (vrow x1 x2 A8 VL.length c8) ?_ (vrow_one _ _ _ _ _) 24 ?_ _ ?_ (heap_alloc_new z1 _) ?_); rfl; rfl; rfl; rfl; rfl; rfl; intro z2 hr hg hs; have hb : Below z1.heap.size z1 z2 := (ba (brefl z1) _).grown hg (by simp) (fun k hk => by cases hk; exact Nat.le_refl _); replace RX := Lib.hid ((hb.block _ (row_lt RX.out)).trans RX.out); replace RV := Lib.hid ((hb.block _ (row_lt RV.out)).trans RV.out); replace R23 := Lib.hid ((hb.block _ (row_lt R23.out)).trans R23.out); replace R25 := Lib.hid ((hb.block _ (row_lt R25.out)).trans R25.out); replace HV7 := Lib.hid (HV7.out.keep hb); replace HV8 := Lib.hid (HV8.out.keep hb); replace HA := Lib.hid (HA.out.keep hb); replace HBH := Lib.hid (HBH.out.keep hb); replace HS := Lib.hid (HS.out.keep hb); replace HB := Lib.hid (HB.out.trans (hb.mono HB.out.size)); have R28 := Lib.hid hr; have k0 := row_cell (v := .int .i64 x0) RX.out 0 rfl; clear hr hg hs hb; (try simp only [Act.put])) | ((with_reducible refine wpl_load_row rtV ?_ (.tmp 28) ?_ (z1.heap.size) ?_ 24 (vrow x1 x2 A8 VL.length c8) ?_ R28.out ?_); rfl; rfl; rfl; rfl; simp only [Act.put, List.setIfInBounds_toArray, List.set_cons_succ, List.set_cons_zero]))
          refine (HOFX.out _ _ _ HV8.out.sl'.2).mono ?_
          rintro e z3 ⟨rfl, hbx⟩
          replace RX := Lib.hid ((hbx.block _ (row_lt RX.out)).trans RX.out)
          replace RV := Lib.hid ((hbx.block _ (row_lt RV.out)).trans RV.out)
          replace R23 := Lib.hid ((hbx.block _ (row_lt R23.out)).trans R23.out)
          replace R25 := Lib.hid ((hbx.block _ (row_lt R25.out)).trans R25.out)
          replace R28 := Lib.hid ((hbx.block _ (row_lt R28.out)).trans R28.out)
          replace HV7 := Lib.hid (HV7.out.keep hbx)
          replace HV8 := Lib.hid (HV8.out.keep hbx)
          replace HA := Lib.hid (HA.out.keep hbx)
          replace HBH := Lib.hid (HBH.out.keep hbx)
          replace HS := Lib.hid (HS.out.keep hbx)
          replace HB := Lib.hid (HB.out.trans (hbx.mono HB.out.size))
          clear hbx
          clear k0
          have vc : (VC == VC) = true := by simp
          have step : (decide (0 ≤ x0) = false ∧ EB = false) ∨ (decide (0 ≤ x0) = true ∧ decide (x0 < 65536) = false ∧ EB = false) ∨ (decide (0 ≤ x0) = true ∧ decide (x0 < 65536) = true ∧ EB = true) := by
            rw [HV1.out]
            cases decide (0 ≤ x0) <;> cases decide (x0 < 65536) <;> simp
          have HEQ := Lib.hid (show ∀ w, (Op.equalIn 10000 26 (.agg (erow x0 x1 x2 EN)) (.agg (erow x0 x1 x2 x3))).run Try.prog w = .ok VC w from fun w => by rw [entry_q, eqE_slot, HV2.out])
          clear HV1 HV3 HOFX HEQ
          rcases step with ⟨t1, hE⟩ | ⟨t1, t2, hE⟩ | ⟨t1, t2, hE⟩
          · subst hE
            generalize on false x0 = u0
            generalize on false x1 = u1
            generalize on false x2 = u2
            generalize on false EN = u3
            go_wp2_with (first | ((with_reducible refine wpl_store_row rtE ?_ (.tmp 31) (.tmp 176) ?_ (z3.heap.size) ?_ (erow u0 u1 u2 u3) ?_ (erow_one _ _ _ _) 26 ?_ _ ?_ (heap_alloc_new z3 _) ?_); rfl; rfl; rfl; rfl; rfl; rfl; intro z4 hr hg hs; have hb : Below z3.heap.size z3 z4 := (ba (brefl z3) _).grown hg (by simp) (fun k hk => by cases hk; exact Nat.le_refl _); replace RX := Lib.hid ((hb.block _ (row_lt RX.out)).trans RX.out); replace RV := Lib.hid ((hb.block _ (row_lt RV.out)).trans RV.out); replace R23 := Lib.hid ((hb.block _ (row_lt R23.out)).trans R23.out); replace R25 := Lib.hid ((hb.block _ (row_lt R25.out)).trans R25.out); replace R28 := Lib.hid ((hb.block _ (row_lt R28.out)).trans R28.out); replace HV7 := Lib.hid (HV7.out.keep hb); replace HV8 := Lib.hid (HV8.out.keep hb); replace HA := Lib.hid (HA.out.keep hb); replace HBH := Lib.hid (HBH.out.keep hb); replace HS := Lib.hid (HS.out.keep hb); replace HB := Lib.hid (HB.out.trans (hb.mono HB.out.size)); have R31 := Lib.hid hr; have k0 := row_cell (v := .int .i64 x0) RX.out 0 rfl; clear hr hg hs hb; (try simp only [Act.put])))
            refine (awake_any _).mono ?_
            rintro e z5 ⟨rfl, hbx⟩
            go_wp2_with fail
            go_ret
            exact ⟨rfl, HB.out.trans (hbx.mono HB.out.size)⟩
          · subst hE
            generalize on false x0 = u0
            generalize on false x1 = u1
            generalize on false x2 = u2
            generalize on false EN = u3
            go_wp2_with (first | ((with_reducible refine wpl_store_row rtE ?_ (.tmp 31) (.tmp 176) ?_ (z3.heap.size) ?_ (erow u0 u1 u2 u3) ?_ (erow_one _ _ _ _) 26 ?_ _ ?_ (heap_alloc_new z3 _) ?_); rfl; rfl; rfl; rfl; rfl; rfl; intro z4 hr hg hs; have hb : Below z3.heap.size z3 z4 := (ba (brefl z3) _).grown hg (by simp) (fun k hk => by cases hk; exact Nat.le_refl _); replace RX := Lib.hid ((hb.block _ (row_lt RX.out)).trans RX.out); replace RV := Lib.hid ((hb.block _ (row_lt RV.out)).trans RV.out); replace R23 := Lib.hid ((hb.block _ (row_lt R23.out)).trans R23.out); replace R25 := Lib.hid ((hb.block _ (row_lt R25.out)).trans R25.out); replace R28 := Lib.hid ((hb.block _ (row_lt R28.out)).trans R28.out); replace HV7 := Lib.hid (HV7.out.keep hb); replace HV8 := Lib.hid (HV8.out.keep hb); replace HA := Lib.hid (HA.out.keep hb); replace HBH := Lib.hid (HBH.out.keep hb); replace HS := Lib.hid (HS.out.keep hb); replace HB := Lib.hid (HB.out.trans (hb.mono HB.out.size)); have R31 := Lib.hid hr; have k0 := row_cell (v := .int .i64 x0) RX.out 0 rfl; clear hr hg hs hb; (try simp only [Act.put])))
            refine (awake_any _).mono ?_
            rintro e z5 ⟨rfl, hbx⟩
            go_wp2_with fail
            go_ret
            exact ⟨rfl, HB.out.trans (hbx.mono HB.out.size)⟩
          · subst hE
            rw [on_t, on_t, on_t, on_t]
            clear vc
            by_cases hen : EN = x3
            · have hvc : VC = true := by rw [← HV2.out]; simpa using hen
              subst hvc
              have hen2 := hen.symm
              clear HV2 hen
              subst hen2
              go_wp2_with (first | ((with_reducible refine wpl_store_row rtE ?_ (.tmp 31) (.tmp 176) ?_ (z3.heap.size) ?_ (erow x0 x1 x2 x3) ?_ (erow_one _ _ _ _) 26 ?_ _ ?_ (heap_alloc_new z3 _) ?_); rfl; rfl; rfl; rfl; rfl; rfl; intro z4 hr hg hs; have hb : Below z3.heap.size z3 z4 := (ba (brefl z3) _).grown hg (by simp) (fun k hk => by cases hk; exact Nat.le_refl _); replace RX := Lib.hid ((hb.block _ (row_lt RX.out)).trans RX.out); replace RV := Lib.hid ((hb.block _ (row_lt RV.out)).trans RV.out); replace R23 := Lib.hid ((hb.block _ (row_lt R23.out)).trans R23.out); replace R25 := Lib.hid ((hb.block _ (row_lt R25.out)).trans R25.out); replace R28 := Lib.hid ((hb.block _ (row_lt R28.out)).trans R28.out); replace HV7 := Lib.hid (HV7.out.keep hb); replace HV8 := Lib.hid (HV8.out.keep hb); replace HA := Lib.hid (HA.out.keep hb); replace HBH := Lib.hid (HBH.out.keep hb); replace HS := Lib.hid (HS.out.keep hb); replace HB := Lib.hid (HB.out.trans (hb.mono HB.out.size)); have R31 := Lib.hid hr; have k0 := row_cell (v := .int .i64 x0) RX.out 0 rfl; clear hr hg hs hb; (try simp only [Act.put])) | ((with_reducible refine wpl_load_row rtE ?_ (.tmp 31) ?_ (z3.heap.size) ?_ 26 (erow x0 x1 x2 x3) ?_ R31.out ?_); rfl; rfl; rfl; rfl; simp only [Act.put, List.setIfInBounds_toArray, List.set_cons_succ, List.set_cons_zero]) | ((with_reducible refine wpl_load_row rtE ?_ (.tmp 8) ?_ (w.heap.size) ?_ 26 (erow x0 x1 x2 x3) ?_ RX.out ?_); rfl; rfl; rfl; rfl; simp only [Act.put, List.setIfInBounds_toArray, List.set_cons_succ, List.set_cons_zero]))
              refine (awake_any _).mono ?_
              rintro e z5 ⟨rfl, hbx⟩
              go_wp2_with fail
              go_ret
              exact ⟨rfl, HB.out.trans (hbx.mono HB.out.size)⟩
            · have hvc : VC = false := by rw [← HV2.out]; simpa using hen
              subst hvc
              clear HV2
              go_wp2_with (first | ((with_reducible refine wpl_store_row rtE ?_ (.tmp 31) (.tmp 176) ?_ (z3.heap.size) ?_ (erow x0 x1 x2 EN) ?_ (erow_one _ _ _ _) 26 ?_ _ ?_ (heap_alloc_new z3 _) ?_); rfl; rfl; rfl; rfl; rfl; rfl; intro z4 hr hg hs; have hb : Below z3.heap.size z3 z4 := (ba (brefl z3) _).grown hg (by simp) (fun k hk => by cases hk; exact Nat.le_refl _); replace RX := Lib.hid ((hb.block _ (row_lt RX.out)).trans RX.out); replace RV := Lib.hid ((hb.block _ (row_lt RV.out)).trans RV.out); replace R23 := Lib.hid ((hb.block _ (row_lt R23.out)).trans R23.out); replace R25 := Lib.hid ((hb.block _ (row_lt R25.out)).trans R25.out); replace R28 := Lib.hid ((hb.block _ (row_lt R28.out)).trans R28.out); replace HV7 := Lib.hid (HV7.out.keep hb); replace HV8 := Lib.hid (HV8.out.keep hb); replace HA := Lib.hid (HA.out.keep hb); replace HBH := Lib.hid (HBH.out.keep hb); replace HS := Lib.hid (HS.out.keep hb); replace HB := Lib.hid (HB.out.trans (hb.mono HB.out.size)); have R31 := Lib.hid hr; have k0 := row_cell (v := .int .i64 x0) RX.out 0 rfl; clear hr hg hs hb; (try simp only [Act.put])) | ((with_reducible refine wpl_load_row rtE ?_ (.tmp 31) ?_ (z3.heap.size) ?_ 26 (erow x0 x1 x2 EN) ?_ R31.out ?_); rfl; rfl; rfl; rfl; simp only [Act.put, List.setIfInBounds_toArray, List.set_cons_succ, List.set_cons_zero]) | ((with_reducible refine wpl_load_row rtE ?_ (.tmp 8) ?_ (w.heap.size) ?_ 26 (erow x0 x1 x2 x3) ?_ RX.out ?_); rfl; rfl; rfl; rfl; simp only [Act.put, List.setIfInBounds_toArray, List.set_cons_succ, List.set_cons_zero]))
              refine (awake_any _).mono ?_
              rintro e z5 ⟨rfl, hbx⟩
              go_wp2_with fail
              go_ret
              exact ⟨rfl, HB.out.trans (hbx.mono HB.out.size)⟩
end Go.Proofs.Ythjmnahmejagmaa
