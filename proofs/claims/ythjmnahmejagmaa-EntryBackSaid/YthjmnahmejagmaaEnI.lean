/- The walk of EntryValues. -/
import Derived.Test.YthjmnahmejagmaaEnH
namespace Go.Proofs.Ythjmnahmejagmaa
open Go.RowKit
open Go.Tin
set_option linter.unusedVariables false
set_option linter.unusedSimpArgs false


theorem entryE : Try.prog.eqGuardType Try.prog.depth 26 = false := by kernel_rfl
def eqE (a b c e a' b' c' e' : Int) : Bool := a == a' && (b == b' && (c == c' && e == e'))
theorem entry_eq (d : Nat) (a b c e a' b' c' e' : Int) (w : World) : (Op.equalIn (d + 2) 26 (.agg #[.int .i64 a, .int .i64 b, .int .i64 c, .int .i64 e]) (.agg #[.int .i64 a', .int .i64 b', .int .i64 c', .int .i64 e'])).run Try.prog w = .ok (eqE a b c e a' b' c' e') w := by
  rw [run_equalIn_agg w (d + 1) 26 _ _ (by kernel_rfl) (by kernel_rfl)]
  have hf : (Try.prog.fieldsOf 26).toList = [{ name := "Tag", type := 3, offset := 0, embedded := false, tag := "", pkgPath := "", byteOffset := 0 }, { name := "Type", type := 3, offset := 1, embedded := false, tag := "", pkgPath := "", byteOffset := 8 }, { name := "Count", type := 3, offset := 2, embedded := false, tag := "", pkgPath := "", byteOffset := 16 }, { name := "Slot", type := 3, offset := 3, embedded := false, tag := "", pkgPath := "", byteOffset := 24 }] := by kernel_rfl
  rw [hf]
  simp [Op.eqFields, go_sem, eqE]
  by_cases h1 : a = a' <;> by_cases h2 : b = b' <;> by_cases h3 : c = c' <;> by_cases h4 : e = e' <;> simp [h1, h2, h3, h4]
theorem entry_q (a b c e a' b' c' e' : Int) (w : World) : (Op.equalIn 10000 26 (.agg #[.int .i64 a, .int .i64 b, .int .i64 c, .int .i64 e]) (.agg #[.int .i64 a', .int .i64 b', .int .i64 c', .int .i64 e'])).run Try.prog w = .ok (eqE a b c e a' b' c' e') w := entry_eq 9998 a b c e a' b' c' e' w
theorem eqE_refl (a b c e : Int) : eqE a b c e a b c e = true := by simp [eqE]
theorem entry_r (a b c e : Int) (w : World) : (Op.equalIn 10000 26 (.agg #[.int .i64 a, .int .i64 b, .int .i64 c, .int .i64 e]) (.agg #[.int .i64 a, .int .i64 b, .int .i64 c, .int .i64 e])).run Try.prog w = .ok true w := by rw [entry_q, eqE_refl]
theorem smV_refl (t c : Int) (l : List Int) : smV t c l t c l = true := by simp [smV]
set_option maxRecDepth 100000 in
set_option maxHeartbeats 8000000 in
theorem values_any (tag t c : Int) (A : Option Addr) (len cap : Nat) (l : List Int) (x0 x1 x2 x3 o : Int) (w : World) (wtag : (Lit.int .i64 tag).wf = true) (wt : (Lit.int .i64 t).wf = true) (wc : (Lit.int .i64 c).wf = true) (hr : IsRow .u8 w A len cap l) (y0 : (Lit.int .i64 x0).wf = true) (y1 : (Lit.int .i64 x1).wf = true) (y2 : (Lit.int .i64 x2).wf = true) (y3 : (Lit.int .i64 x3).wf = true) (wo : (Lit.int .i64 o).wf = true) :
    Calls Try.prog 3 #[.int .i64 tag, .agg #[.int .i64 t, .int .i64 c, .slice A len cap], .agg #[.int .i64 x0, .int .i64 x1, .int .i64 x2, .int .i64 x3], .int .i64 o] w fun e w' => e = .returned (.bool true) ∧ Below w.heap.size w w' := by
  obtain ⟨hs, hlen, hlc, hcm, hwf⟩ := Sl.of_row hr
  have hby := byts_wf hwf
  generalize l.take len = l at *
  subst hlen
  clear hwf hr hlc wtag wt wc y0 y1 y2 y3 wo
  unfold maxLen at hcm
  have HBY := Lib.hid hby
  have HB := Lib.hid (ba (ba (brefl w) (.cells (vrow t c A l.length cap) 24)) (.cells (erow x0 x1 x2 x3) 26))
  have RV := Lib.hid (show ((w.alloc (.cells (vrow t c A l.length cap) 24)).alloc (.cells (erow x0 x1 x2 x3) 26)).heap[w.heap.size]? = some (.cells (vrow t c A l.length cap) 24 (0, 0)) by rw [Below.heap_alloc _ _ _ (by simp)]; exact heap_alloc_new w _)
  have RX := Lib.hid (show ((w.alloc (.cells (vrow t c A l.length cap) 24)).alloc (.cells (erow x0 x1 x2 x3) 26)).heap[w.heap.size + 1]? = some (.cells (erow x0 x1 x2 x3) 26 (0, 0)) by
    have := heap_alloc_new (w.alloc (.cells (vrow t c A l.length cap) 24)) (.cells (erow x0 x1 x2 x3) 26)
    simpa using this)
  have HS := Lib.hid (hs.keep HB.out)
  clear hs hby
  have kb := row_cell (v := .slice A l.length cap) RV.out 2 rfl
  by_cases h300 : 300 < l.length
  · have h3 : (300 : Int) < (l.length : Int) := by omega
    go_enter Try.func3, Try.ntmps3
    go_wp2_with fail
    refine (awake_any _).mono ?_
    rintro e w1 ⟨rfl, hb⟩
    go_wp2_with fail
    go_ret
    exact ⟨rfl, HB.out.trans (hb.mono HB.out.size)⟩
  have h3 : (l.length : Int) ≤ 300 := by omega
  go_enter Try.func3, Try.ntmps3
  go_wp2_with ((with_reducible refine wpl_load_row rtV ?_ (.tmp 5) ?_ (w.heap.size) ?_ 24 (vrow t c A l.length cap) ?_ RV.out ?_); rfl; rfl; rfl; rfl; simp only [Act.put, List.setIfInBounds_toArray, List.set_cons_succ, List.set_cons_zero])
  clear kb
  generalize ((w.alloc (.cells (vrow t c A l.length cap) 24)).alloc (.cells (erow x0 x1 x2 x3) 26)) = W at *
  refine (vown_any t c A l cap W HS.out (by omega)).mono ?_
  rintro e w1 ⟨A1, c1, rfl, ho1, hb1⟩
  have HO := Lib.hid ho1
  replace RV := Lib.hid ((hb1.block _ (row_lt RV.out)).trans RV.out)
  replace RX := Lib.hid ((hb1.block _ (row_lt RX.out)).trans RX.out)
  replace HS := Lib.hid (HS.out.keep hb1)
  replace HB := Lib.hid (HB.out.trans (hb1.mono HB.out.size))
  clear ho1 hb1
  go_wp2_with (first | ((with_reducible refine wpl_store_row rtV ?_ (.tmp 9) (.tmp 26) ?_ (w1.heap.size) ?_ (vrow t c A1 l.length c1) ?_ (vrow_one _ _ _ _ _) 24 ?_ _ ?_ (heap_alloc_new w1 _) ?_); rfl; rfl; rfl; rfl; rfl; rfl; intro w2 hr hg hs; have hb : Below w1.heap.size w1 w2 := (ba (brefl w1) _).grown hg (by simp) (fun k hk => by cases hk; exact Nat.le_refl _); replace RV := Lib.hid ((hb.block _ (row_lt RV.out)).trans RV.out); replace RX := Lib.hid ((hb.block _ (row_lt RX.out)).trans RX.out); replace HO := Lib.hid (HO.out.keep hb); replace HS := Lib.hid (HS.out.keep hb); replace HB := Lib.hid (HB.out.trans (hb.mono HB.out.size)); have R9 := Lib.hid hr; clear hr hg hs hb; (try simp only [Act.put])) | ((with_reducible refine wpl_load_row rtV ?_ (.tmp 9) ?_ (w1.heap.size) ?_ 24 (vrow t c A1 l.length c1) ?_ R9.out ?_); rfl; rfl; rfl; rfl; simp only [Act.put, List.setIfInBounds_toArray, List.set_cons_succ, List.set_cons_zero]))
  obtain ⟨g9, hg9⟩ : ∃ g, g = w1.heap.size := ⟨_, rfl⟩
  rw [← hg9] at R9 ⊢
  clear hg9
  refine (eof_any tag t c A1 l c1 o w2 HO.out.sl'.2 (by omega) HBY.out).mono ?_
  rintro e w3 ⟨rfl, hb3⟩
  replace RV := Lib.hid ((hb3.block _ (row_lt RV.out)).trans RV.out)
  replace RX := Lib.hid ((hb3.block _ (row_lt RX.out)).trans RX.out)
  replace R9 := Lib.hid ((hb3.block _ (row_lt R9.out)).trans R9.out)
  replace HO := Lib.hid (HO.out.keep hb3)
  replace HS := Lib.hid (HS.out.keep hb3)
  replace HB := Lib.hid (HB.out.trans (hb3.mono HB.out.size))
  clear hb3
  have HOF := Lib.hid (fun W h => reof_any tag t c A l cap o W h (by omega) HBY.out)
  generalize eB tag t c l o = Eb at *
  generalize on Eb tag = u0 at *
  generalize on Eb t = u1 at *
  generalize on Eb c = u2 at *
  generalize on Eb (eN t c l o) = u3 at *
  go_wp2_with (first | ((with_reducible refine wpl_store_row rtE ?_ (.tmp 10) (.tmp 32) ?_ (w3.heap.size) ?_ (erow u0 u1 u2 u3) ?_ (erow_one _ _ _ _) 26 ?_ _ ?_ (heap_alloc_new w3 _) ?_); rfl; rfl; rfl; rfl; rfl; rfl; intro w4 hr hg hs; have hb : Below w3.heap.size w3 w4 := (ba (brefl w3) _).grown hg (by simp) (fun k hk => by cases hk; exact Nat.le_refl _); replace RV := Lib.hid ((hb.block _ (row_lt RV.out)).trans RV.out); replace RX := Lib.hid ((hb.block _ (row_lt RX.out)).trans RX.out); replace R9 := Lib.hid ((hb.block _ (row_lt R9.out)).trans R9.out); replace HO := Lib.hid (HO.out.keep hb); replace HS := Lib.hid (HS.out.keep hb); replace HB := Lib.hid (HB.out.trans (hb.mono HB.out.size)); have R10 := Lib.hid hr; clear hr hg hs hb; (try simp only [Act.put])) | ((with_reducible refine wpl_load_row rtV ?_ (.tmp 5) ?_ (w.heap.size) ?_ 24 (vrow t c A l.length cap) ?_ RV.out ?_); rfl; rfl; rfl; rfl; simp only [Act.put, List.setIfInBounds_toArray, List.set_cons_succ, List.set_cons_zero]))
  obtain ⟨g10, hg10⟩ : ∃ g, g = w3.heap.size := ⟨_, rfl⟩
  rw [← hg10] at R10 ⊢
  clear hg10
  refine (HOF.out w4 HS.out).mono ?_
  rintro e w5 ⟨rfl, hb5⟩
  replace RV := Lib.hid ((hb5.block _ (row_lt RV.out)).trans RV.out)
  replace RX := Lib.hid ((hb5.block _ (row_lt RX.out)).trans RX.out)
  replace R9 := Lib.hid ((hb5.block _ (row_lt R9.out)).trans R9.out)
  replace R10 := Lib.hid ((hb5.block _ (row_lt R10.out)).trans R10.out)
  replace HO := Lib.hid (HO.out.keep hb5)
  replace HS := Lib.hid (HS.out.keep hb5)
  replace HB := Lib.hid (HB.out.trans (hb5.mono HB.out.size))
  clear hb5
  go_wp2_with (first | ((with_reducible refine wpl_store_row rtE ?_ (.tmp 12) (.tmp 39) ?_ (w5.heap.size) ?_ (erow u0 u1 u2 u3) ?_ (erow_one _ _ _ _) 26 ?_ _ ?_ (heap_alloc_new w5 _) ?_); rfl; rfl; rfl; rfl; rfl; rfl; intro w6 hr hg hs; have hb : Below w5.heap.size w5 w6 := (ba (brefl w5) _).grown hg (by simp) (fun k hk => by cases hk; exact Nat.le_refl _); replace RV := Lib.hid ((hb.block _ (row_lt RV.out)).trans RV.out); replace RX := Lib.hid ((hb.block _ (row_lt RX.out)).trans RX.out); replace R9 := Lib.hid ((hb.block _ (row_lt R9.out)).trans R9.out); replace R10 := Lib.hid ((hb.block _ (row_lt R10.out)).trans R10.out); replace HO := Lib.hid (HO.out.keep hb); replace HS := Lib.hid (HS.out.keep hb); replace HB := Lib.hid (HB.out.trans (hb.mono HB.out.size)); have R12 := Lib.hid hr; clear hr hg hs hb; (try simp only [Act.put])) | ((with_reducible refine wpl_load_row rtE ?_ (.tmp 6) ?_ (w.heap.size + 1) ?_ 26 (erow x0 x1 x2 x3) ?_ RX.out ?_); rfl; rfl; rfl; rfl; simp only [Act.put, List.setIfInBounds_toArray, List.set_cons_succ, List.set_cons_zero]))
  obtain ⟨g12, hg12⟩ : ∃ g, g = w5.heap.size := ⟨_, rfl⟩
  rw [← hg12] at R12 ⊢
  clear hg12
  refine (eval_any x0 x1 x2 x3 o w6).mono ?_
  rintro e w7 ⟨A3, c3, rfl, ho3, hb7⟩
  have HV := Lib.hid ho3
  replace RV := Lib.hid ((hb7.block _ (row_lt RV.out)).trans RV.out)
  replace RX := Lib.hid ((hb7.block _ (row_lt RX.out)).trans RX.out)
  replace R9 := Lib.hid ((hb7.block _ (row_lt R9.out)).trans R9.out)
  replace R10 := Lib.hid ((hb7.block _ (row_lt R10.out)).trans R10.out)
  replace R12 := Lib.hid ((hb7.block _ (row_lt R12.out)).trans R12.out)
  replace HO := Lib.hid (HO.out.keep hb7)
  replace HS := Lib.hid (HS.out.keep hb7)
  replace HB := Lib.hid (HB.out.trans (hb7.mono HB.out.size))
  clear hb7 ho3
  have HRE := Lib.hid (fun W => reval_any x0 x1 x2 x3 o W)
  have HLL := Lib.hid (show (evL x1 x2 x3 o).length ≤ 1000 ∧ Byts (evL x1 x2 x3 o) by
    unfold evL
    split
    · exact ⟨Nat.le_trans (by unfold ofL; split; exact Nat.le_trans (turn_le _ _ _) (by rw [List.length_take]; exact Nat.min_le_right _ _); simp) (Nat.le_trans (putL_le4 x3 4 o) (by omega)), ofL_byts (putL_byts _ _ _) _ _ _⟩
    · exact ⟨by simp, fun x hx => by simp at hx⟩)
  generalize evL x1 x2 x3 o = VL at *
  generalize evC x1 x2 x3 o = VC at *
  generalize evB x1 x2 x3 o = VB at *
  generalize on VB x1 = v1 at *
  generalize on VB x2 = v2 at *
  go_wp2_with (first | ((with_reducible refine wpl_store_row rtV ?_ (.tmp 14) (.tmp 45) ?_ (w7.heap.size) ?_ (vrow v1 v2 A3 VL.length c3) ?_ (vrow_one _ _ _ _ _) 24 ?_ _ ?_ (heap_alloc_new w7 _) ?_); rfl; rfl; rfl; rfl; rfl; rfl; intro w8 hr hg hs; have hb : Below w7.heap.size w7 w8 := (ba (brefl w7) _).grown hg (by simp) (fun k hk => by cases hk; exact Nat.le_refl _); replace RV := Lib.hid ((hb.block _ (row_lt RV.out)).trans RV.out); replace RX := Lib.hid ((hb.block _ (row_lt RX.out)).trans RX.out); replace R9 := Lib.hid ((hb.block _ (row_lt R9.out)).trans R9.out); replace R10 := Lib.hid ((hb.block _ (row_lt R10.out)).trans R10.out); replace R12 := Lib.hid ((hb.block _ (row_lt R12.out)).trans R12.out); replace HO := Lib.hid (HO.out.keep hb); replace HV := Lib.hid (HV.out.keep hb); replace HS := Lib.hid (HS.out.keep hb); replace HB := Lib.hid (HB.out.trans (hb.mono HB.out.size)); have R14 := Lib.hid hr; clear hr hg hs hb; (try simp only [Act.put])) | ((with_reducible refine wpl_load_row rtE ?_ (.tmp 6) ?_ (w.heap.size + 1) ?_ 26 (erow x0 x1 x2 x3) ?_ RX.out ?_); rfl; rfl; rfl; rfl; simp only [Act.put, List.setIfInBounds_toArray, List.set_cons_succ, List.set_cons_zero]))
  obtain ⟨g14, hg14⟩ : ∃ g, g = w7.heap.size := ⟨_, rfl⟩
  rw [← hg14] at R14 ⊢
  clear hg14
  refine (HRE.out w8).mono ?_
  rintro e w9 ⟨A4, c4, rfl, ho4, hb9⟩
  have HV2 := Lib.hid ho4
  replace RV := Lib.hid ((hb9.block _ (row_lt RV.out)).trans RV.out)
  replace RX := Lib.hid ((hb9.block _ (row_lt RX.out)).trans RX.out)
  replace R9 := Lib.hid ((hb9.block _ (row_lt R9.out)).trans R9.out)
  replace R10 := Lib.hid ((hb9.block _ (row_lt R10.out)).trans R10.out)
  replace R12 := Lib.hid ((hb9.block _ (row_lt R12.out)).trans R12.out)
  replace R14 := Lib.hid ((hb9.block _ (row_lt R14.out)).trans R14.out)
  replace HO := Lib.hid (HO.out.keep hb9)
  replace HV := Lib.hid (HV.out.keep hb9)
  replace HS := Lib.hid (HS.out.keep hb9)
  replace HB := Lib.hid (HB.out.trans (hb9.mono HB.out.size))
  clear hb9 ho4 HRE HOF
  have eb : (Eb == Eb) = true := by simp
  have vb : (VB == VB) = true := by simp
  have vc : (VC == VC) = true := by simp
  go_wp2_with (first | ((with_reducible refine wpl_store_row rtV ?_ (.tmp 17) (.tmp 52) ?_ (w9.heap.size) ?_ (vrow v1 v2 A4 VL.length c4) ?_ (vrow_one _ _ _ _ _) 24 ?_ _ ?_ (heap_alloc_new w9 _) ?_); rfl; rfl; rfl; rfl; rfl; rfl; intro w10 hr hg hs; have hb : Below w9.heap.size w9 w10 := (ba (brefl w9) _).grown hg (by simp) (fun k hk => by cases hk; exact Nat.le_refl _); replace RV := Lib.hid ((hb.block _ (row_lt RV.out)).trans RV.out); replace RX := Lib.hid ((hb.block _ (row_lt RX.out)).trans RX.out); replace R9 := Lib.hid ((hb.block _ (row_lt R9.out)).trans R9.out); replace R10 := Lib.hid ((hb.block _ (row_lt R10.out)).trans R10.out); replace R12 := Lib.hid ((hb.block _ (row_lt R12.out)).trans R12.out); replace R14 := Lib.hid ((hb.block _ (row_lt R14.out)).trans R14.out); replace HO := Lib.hid (HO.out.keep hb); replace HV := Lib.hid (HV.out.keep hb); replace HV2 := Lib.hid (HV2.out.keep hb); replace HS := Lib.hid (HS.out.keep hb); replace HB := Lib.hid (HB.out.trans (hb.mono HB.out.size)); have R17 := Lib.hid hr; clear hr hg hs hb; (try simp only [Act.put])) | ((with_reducible refine wpl_load_row rtE ?_ (.tmp 10) ?_ (g10) ?_ 26 (erow u0 u1 u2 u3) ?_ R10.out ?_); rfl; rfl; rfl; rfl; simp only [Act.put, List.setIfInBounds_toArray, List.set_cons_succ, List.set_cons_zero]) | ((with_reducible refine wpl_load_row rtE ?_ (.tmp 12) ?_ (g12) ?_ 26 (erow u0 u1 u2 u3) ?_ R12.out ?_); rfl; rfl; rfl; rfl; simp only [Act.put, List.setIfInBounds_toArray, List.set_cons_succ, List.set_cons_zero]) | ((with_reducible refine wpl_eql entryE ?_ (.tmp 55) (.tmp 56) 26 rfl rfl rfl (entry_r _ _ _ _) ?_); rfl; simp only [Act.put, List.setIfInBounds_toArray, List.set_cons_succ, List.set_cons_zero]) | ((with_reducible refine wpl_load_row rtV ?_ (.tmp 14) ?_ (g14) ?_ 24 (vrow v1 v2 A3 VL.length c3) ?_ R14.out ?_); rfl; rfl; rfl; rfl; simp only [Act.put, List.setIfInBounds_toArray, List.set_cons_succ, List.set_cons_zero]) | ((with_reducible refine wpl_load_row rtV ?_ (.tmp 17) ?_ (w9.heap.size) ?_ 24 (vrow v1 v2 A4 VL.length c4) ?_ R17.out ?_); rfl; rfl; rfl; rfl; simp only [Act.put, List.setIfInBounds_toArray, List.set_cons_succ, List.set_cons_zero]))
  have HQ1 := Lib.hid (rvsame_any v1 v2 A3 VL c3 v1 v2 A4 VL c4 w10 HV.out.sl'.2 HV2.out.sl'.2 (by have := HLL.out.1; omega) (by have := HLL.out.1; omega))
  rw [smV_refl] at HQ1
  refine HQ1.out.mono ?_
  rintro e w11 ⟨rfl, hb11⟩
  replace RV := Lib.hid ((hb11.block _ (row_lt RV.out)).trans RV.out)
  replace RX := Lib.hid ((hb11.block _ (row_lt RX.out)).trans RX.out)
  replace R9 := Lib.hid ((hb11.block _ (row_lt R9.out)).trans R9.out)
  replace R10 := Lib.hid ((hb11.block _ (row_lt R10.out)).trans R10.out)
  replace R12 := Lib.hid ((hb11.block _ (row_lt R12.out)).trans R12.out)
  replace R14 := Lib.hid ((hb11.block _ (row_lt R14.out)).trans R14.out)
  replace R17 := Lib.hid ((hb11.block _ (row_lt R17.out)).trans R17.out)
  replace HO := Lib.hid (HO.out.keep hb11)
  replace HV := Lib.hid (HV.out.keep hb11)
  replace HV2 := Lib.hid (HV2.out.keep hb11)
  replace HS := Lib.hid (HS.out.keep hb11)
  replace HB := Lib.hid (HB.out.trans (hb11.mono HB.out.size))
  clear hb11 HQ1
  go_wp2_with (first | ((with_reducible refine wpl_load_row rtV ?_ (.tmp 9) ?_ (g9) ?_ 24 (vrow t c A1 l.length c1) ?_ R9.out ?_); rfl; rfl; rfl; rfl; simp only [Act.put, List.setIfInBounds_toArray, List.set_cons_succ, List.set_cons_zero]) | ((with_reducible refine wpl_load_row rtV ?_ (.tmp 5) ?_ (w.heap.size) ?_ 24 (vrow t c A l.length cap) ?_ RV.out ?_); rfl; rfl; rfl; rfl; simp only [Act.put, List.setIfInBounds_toArray, List.set_cons_succ, List.set_cons_zero]))
  have HQ2 := Lib.hid (rvsame_any t c A1 l c1 t c A l cap w11 HO.out.sl'.2 HS.out (by omega) (by omega))
  rw [smV_refl] at HQ2
  refine HQ2.out.mono ?_
  rintro e w12 ⟨rfl, hb12⟩
  replace RV := Lib.hid ((hb12.block _ (row_lt RV.out)).trans RV.out)
  replace RX := Lib.hid ((hb12.block _ (row_lt RX.out)).trans RX.out)
  replace R9 := Lib.hid ((hb12.block _ (row_lt R9.out)).trans R9.out)
  replace R10 := Lib.hid ((hb12.block _ (row_lt R10.out)).trans R10.out)
  replace R12 := Lib.hid ((hb12.block _ (row_lt R12.out)).trans R12.out)
  replace R14 := Lib.hid ((hb12.block _ (row_lt R14.out)).trans R14.out)
  replace R17 := Lib.hid ((hb12.block _ (row_lt R17.out)).trans R17.out)
  replace HO := Lib.hid (HO.out.keep hb12)
  replace HV := Lib.hid (HV.out.keep hb12)
  replace HV2 := Lib.hid (HV2.out.keep hb12)
  replace HS := Lib.hid (HS.out.keep hb12)
  replace HB := Lib.hid (HB.out.trans (hb12.mono HB.out.size))
  clear hb12 HQ2
  go_wp2_with fail
  refine (awake_any _).mono ?_
  rintro e w13 ⟨rfl, hb13⟩
  go_wp2_with fail
  go_ret
  exact ⟨rfl, HB.out.trans (hb13.mono HB.out.size)⟩
end Go.Proofs.Ythjmnahmejagmaa
