/- The contract of the reference's Value: the value in an entry's slot. -/
import Derived.Test.YthjmnahmejagmaaEnG
namespace Go.Proofs.Ythjmnahmejagmaa
open Go.RowKit
open Go.Tin
set_option linter.unusedVariables false
set_option linter.unusedSimpArgs false


theorem nth_drop (l : List Int) (n j : Nat) : nth (l.drop n) j = nth l (n + j) := by
  unfold nth
  rw [List.getD_eq_getElem?_getD, List.getElem?_drop, List.getD_eq_getElem?_getD]
theorem drop_no {l : List Int} {n : Nat} (h : ∀ q, n ≤ q → q < l.length → nth l q = 0) : (l.drop n).any nz = false := by
  refine any_not _ _ fun j hj => ?_
  rw [List.length_drop] at hj
  rw [nth_drop, h (n + j) (by omega) (by omega)]
  rfl
theorem drop_yes {l : List Int} {n q : Nat} (h1 : n ≤ q) (h2 : q < l.length) (h : nth l q ≠ 0) : (l.drop n).any nz = true := by
  refine any_at _ _ (q - n) (by rw [List.length_drop]; omega) ?_
  rw [nth_drop, show n + (q - n) = q by omega]
  unfold nz
  simpa using h
set_option maxRecDepth 100000 in
set_option maxHeartbeats 8000000 in
theorem reval_any (a b c d o : Int) (w : World) :
    Calls Try.prog 12 #[.agg (erow a b c d), .int .i64 o] w fun e w' => ∃ A' c', e = .returned (.tuple #[.agg (vrow (on (evB b c d o) b) (on (evB b c d o) c) A' (evL b c d o).length c'), .bool (evC b c d o), .bool (evB b c d o)]) ∧ Own .u8 5 w' w.heap.size (.slice A' (evL b c d o).length c') (evL b c d o) ∧ Below w.heap.size w w' := by
  obtain ⟨W, hW⟩ : ∃ W, W = (w.alloc (.cells (erow a b c d) 26)).alloc (.cells (vrow 0 0 none 0 0) 24) := ⟨_, rfl⟩
  have HB := Lib.hid (show Below w.heap.size w W by rw [hW]; exact ba (ba (brefl w) _) _)
  have HX := Lib.hid (show W.heap[w.heap.size]? = some (.cells (erow a b c d) 26 (0, 0)) by rw [hW, Below.heap_alloc _ _ _ (by simp)]; exact heap_alloc_new w _)
  have HR := Lib.hid (show W.heap[w.heap.size + 1]? = some (.cells (vrow 0 0 none 0 0) 24 (0, 0)) by
    have := heap_alloc_new (w.alloc (.cells (erow a b c d) 26)) (.cells (vrow 0 0 none 0 0) 24)
    rw [hW]
    simpa using this)
  have hsz : W.heap.size = w.heap.size + 2 := by rw [hW]; simp
  have HED := Lib.hid (show evB b c d o = (putB d 4 o && (inE b c && ofB b c (putL d 4 o) o)) ∧ evL b c d o = (if evB b c d o then ofL b c (putL d 4 o) o else []) ∧ evC b c d o = (evB b c d o && !((putL d 4 o).drop (evL b c d o).length).any nz) from ⟨rfl, rfl, rfl⟩)
  have HE0 := Lib.hid (show evB b c d o = false → evL b c d o = [] ∧ evC b c d o = false ∧ on (evB b c d o) b = 0 ∧ on (evB b c d o) c = 0 from fun h => ⟨by unfold evL; rw [h]; rfl, by unfold evC; rw [h]; rfl, by rw [h]; rfl, by rw [h]; rfl⟩)
  have k3 : ((w.alloc (.cells (erow a b c d) 26)).alloc (.cells (vrow 0 0 none 0 0) 24)).cell? ⟨w.heap.size, 3, none⟩ = some (.int .i64 d) := by rw [← hW]; exact row_cell HX.out 3 rfl
  go_enter Try.func12, Try.ntmps12
  go_wp2_with fail
  rw [← hW]
  clear hW k3
  refine (rput_any d 4 o W).mono ?_
  rintro e w1 ⟨A1, c1, rfl, ho1, hb1⟩
  have HX1 := Lib.hid ((hb1.block _ (row_lt HX.out)).trans HX.out)
  have HR1 := Lib.hid ((hb1.block _ (row_lt HR.out)).trans HR.out)
  have HB1 := Lib.hid (HB.out.trans (hb1.mono HB.out.size))
  have HO1 := Lib.hid ho1
  have hs1 : W.heap.size ≤ w1.heap.size := hb1.size
  have HPB := Lib.hid (putL_byts d 4 o)
  have HPL := Lib.hid (fun h => putL_len (n := d) (s := 4) (o := o) h)
  clear ho1 hb1 HX HR HB
  generalize putL d 4 o = PL at *
  have k1 := row_cell (v := .int .i64 b) HX1.out 1 rfl
  have k2 := row_cell (v := .int .i64 c) HX1.out 2 rfl
  cases hp : putB d 4 o with
  | false =>
    have HE := Lib.hid (show evB b c d o = false by rw [HED.out.1, hp]; rfl)
    have HEz := Lib.hid (HE0.out HE.out)
    clear hp
    go_wp2_with ((with_reducible refine wpl_store_row rtV ?_ (.tmp 4) (.tmp 28) ?_ (w.heap.size + 1) ?_ (vrow 0 0 none 0 0) ?_ (vrow_one _ _ _ _ _) 24 ?_ _ ?_ HR1.out ?_); rfl; rfl; rfl; rfl; rfl; rfl; intro w7 hr7 hg7 hs7; (try simp only [Act.put]))
    rw [HEz.out.2.2.1, HEz.out.2.2.2, HEz.out.1, HEz.out.2.1, HE.out]
    exact bodyPost_ret (res_row_tmp2 rtV rfl _ _ (w.heap.size + 1) 24 (vrow 0 0 none 0 0) rfl (.bool false) (.bool false) rfl rfl rfl hr7) rfl ⟨none, 0, rfl, Own.nil_ _ _ _ _, HB1.out.grown hg7 HB1.out.size (fun k hk => by have e' : w.heap.size + 1 = k := Option.some.inj hk; omega)⟩

  | true =>
    have HP := Lib.hid hp
    clear hp
    go_wp2_with fail
    refine (rinl_any b c w1).mono ?_
    rintro e w2 ⟨rfl, rfl⟩
    cases hi : inE b c with
    | false =>
      have HE := Lib.hid (show evB b c d o = false by rw [HED.out.1, HP.out, hi]; rfl)
      have HEz := Lib.hid (HE0.out HE.out)
      clear hi
      go_wp2_with ((with_reducible refine wpl_store_row rtV ?_ (.tmp 4) (.tmp 28) ?_ (w.heap.size + 1) ?_ (vrow 0 0 none 0 0) ?_ (vrow_one _ _ _ _ _) 24 ?_ _ ?_ HR1.out ?_); rfl; rfl; rfl; rfl; rfl; rfl; intro w7 hr7 hg7 hs7; (try simp only [Act.put]))
      rw [HEz.out.2.2.1, HEz.out.2.2.2, HEz.out.1, HEz.out.2.1, HE.out]
      exact bodyPost_ret (res_row_tmp2 rtV rfl _ _ (w.heap.size + 1) 24 (vrow 0 0 none 0 0) rfl (.bool false) (.bool false) rfl rfl rfl hr7) rfl ⟨none, 0, rfl, Own.nil_ _ _ _ _, HB1.out.grown hg7 HB1.out.size (fun k hk => by have e' : w.heap.size + 1 = k := Option.some.inj hk; omega)⟩

    | true =>
      have HI := Lib.hid (inE_len hi)
      have HED2 := Lib.hid (show evB b c d o = ofB b c PL o by rw [HED.out.1, HP.out, hi]; rfl)
      have HPL4 := Lib.hid (HPL.out HP.out)
      clear hi
      go_wp2_with fail
      refine (rof_any b c A1 PL c1 o w1 HO1.out.sl'.2 (by have := HPL4.out; omega) (own_cap HO1.out) HPB.out).mono ?_
      rintro e w3 ⟨A3, c3, rfl, ho3, hb3⟩
      have HX3 := Lib.hid ((hb3.block _ (row_lt HX1.out)).trans HX1.out)
      have HR3 := Lib.hid ((hb3.block _ (row_lt HR1.out)).trans HR1.out)
      have HB3 := Lib.hid (HB1.out.trans (hb3.mono HB1.out.size))
      have HO3 := Lib.hid (HO1.out.keep hb3)
      have HV3 := Lib.hid ho3
      have hs3 : w1.heap.size ≤ w3.heap.size := hb3.size
      clear ho3 hb3 HX1 HR1 HB1 HO1 k1 k2
      have HOFL := Lib.hid (fun h => ofL_len (k := b) (c := c) (l := PL) (o := o) h)
      cases hof : ofB b c PL o with
      | false =>
        have HE := Lib.hid (HED2.out.trans hof)
        have HEz := Lib.hid (HE0.out HE.out)
        have e0 : on false b = 0 := rfl
        have e1 : on false c = 0 := rfl
        rw [e0, e1]
        have hO0 : ofL b c PL o = [] := by unfold ofL; rw [hof]; rfl
        rw [hO0]
        clear hof e0 e1 hO0 HV3
        go_wp2_with (first | ((with_reducible refine wpl_store_row rtV ?_ (.tmp 9) (.tmp 37) ?_ (w3.heap.size) ?_ (vrow 0 0 A3 0 c3) ?_ (vrow_one _ _ _ _ _) 24 ?_ _ ?_ (heap_alloc_new w3 _) ?_); rfl; rfl; rfl; rfl; rfl; rfl; intro w4 hr4 hg4 hs4; have hb4 : Below w3.heap.size w3 w4 := (ba (brefl w3) _).grown hg4 (by simp) (fun k hk => by cases hk; exact Nat.le_refl _); have HR4 := Lib.hid ((hb4.block _ (row_lt HR3.out)).trans HR3.out); have HB4 := Lib.hid (HB3.out.trans (hb4.mono HB3.out.size)); clear hr4 hg4 hs4 hb4; (try simp only [Act.put])) | ((with_reducible refine wpl_store_row rtV ?_ (.tmp 4) (.tmp 41) ?_ (w.heap.size + 1) ?_ (vrow 0 0 none 0 0) ?_ (vrow_one _ _ _ _ _) 24 ?_ _ ?_ HR4.out ?_); rfl; rfl; rfl; rfl; rfl; rfl; intro w7 hr7 hg7 hs7; (try simp only [Act.put])))
        rw [HEz.out.2.2.1, HEz.out.2.2.2, HEz.out.1, HEz.out.2.1, HE.out]
        exact bodyPost_ret (res_row_tmp2 rtV rfl _ _ (w.heap.size + 1) 24 (vrow 0 0 none 0 0) rfl (.bool false) (.bool false) rfl rfl rfl hr7) rfl ⟨none, 0, rfl, Own.nil_ _ _ _ _, HB4.out.grown hg7 HB4.out.size (fun k hk => by have e' : w.heap.size + 1 = k := Option.some.inj hk; omega)⟩
      | true =>
        have HE := Lib.hid (HED2.out.trans hof)
        have HLN := Lib.hid (HOFL.out hof)
        have HEL := Lib.hid (show evL b c d o = ofL b c PL o by rw [HED.out.2.1, HE.out]; rfl)
        have HEC := Lib.hid (show evC b c d o = !((PL.drop (ofL b c PL o).length).any nz) by rw [HED.out.2.2, HE.out, HEL.out]; rfl)
        have e0 : on true b = b := rfl
        have e1 : on true c = c := rfl
        rw [e0, e1]
        clear hof e0 e1 HED2 HOFL
        generalize ofL b c PL o = OL at *
        have HLG := Lib.hid (show lgE b c = (OL.length : Int) by rw [HI.out.2.2, HLN.out])
        have hol : OL.length ≤ 4 := by have := HI.out; have := HLN.out; omega
        have hX3 := row_lt HX3.out
        have hR3 := row_lt HR3.out
        go_wp2_with (first | ((with_reducible refine wpl_store_row rtV ?_ (.tmp 9) (.tmp 37) ?_ (w3.heap.size) ?_ (vrow b c A3 OL.length c3) ?_ (vrow_one _ _ _ _ _) 24 ?_ _ ?_ (heap_alloc_new w3 _) ?_); rfl; rfl; rfl; rfl; rfl; rfl; intro w4 hr4 hg4 hs4; have hb4 : Below w3.heap.size w3 w4 := (ba (brefl w3) _).grown hg4 (by simp) (fun k hk => by cases hk; exact Nat.le_refl _); have HR4 := Lib.hid ((hb4.block _ hR3).trans HR3.out); have HX4 := Lib.hid ((hb4.block _ hX3).trans HX3.out); have HB4 := Lib.hid (HB3.out.trans (hb4.mono HB3.out.size)); have HQ4 := Lib.hid hr4; have HO4 := Lib.hid (HO3.out.keep hb4); have HV4 := Lib.hid (HV3.out.keep hb4); have k1 := row_cell (v := .int .i64 b) HX4.out 1 rfl; have k2 := row_cell (v := .int .i64 c) HX4.out 2 rfl; clear hr4 hg4 hs4 hb4; (try simp only [Act.put])))
        refine (rlong_any b c w4).mono ?_
        rintro e w5 ⟨rfl, rfl⟩
        rw [HLG.out]
        clear k1 k2 HLG
        go_wp2_with fail
        obtain ⟨w6, hw6⟩ : ∃ w6, w6 = w4 := ⟨_, rfl⟩
        rw [← hw6] at HR4 HX4 HB4 HQ4 HO4 HV4 ⊢
        clear hw6
        go_loopw [10] (fun s10 wr => ∃ j : Nat, OL.length ≤ j ∧ j ≤ 4 ∧ s10 = .int .i64 (j : Int) ∧ (∀ q, OL.length ≤ q → q < j → nth PL q = 0) ∧ w6 = wr) (fun s10 _ => 4 - (intOf s10).toNat)
        case atStart => exact ⟨OL.length, Nat.le_refl _, hol, rfl, fun q h1 h2 => by omega, rfl⟩
        case round =>
          obtain ⟨j, hj, hj4, rfl, hz, rfl⟩ := hrel
          have HZ := Lib.hid hz
          clear hz
          by_cases hjl : j < 4
          · have i1 : (j : Int) < 4 := by omega
            have i2 : (j : Int) < (PL.length : Int) := by have := HPL4.out; omega
            obtain ⟨q, off, rfl, hql, hqc⟩ := (HO4.out.sl'.2).at_ (by have := HPL4.out; omega)
            have kx : w6.cell? ⟨q, off + j, none⟩ = some (.int .u8 (nth PL j)) := hqc j (by omega)
            have HYS := Lib.hid (fun h => drop_yes (l := PL) (n := OL.length) (q := j) hj (by omega) h)
            clear hqc
            by_cases hx : nth PL j = 0
            · have dx : (nth PL j != 0) = false := by simpa using hx
              have HXX := Lib.hid hx
              clear hx
              generalize nth PL j = X at kx dx
              go_wp2_with fail
              go_roundw
              case rel => exact ⟨j + 1, by omega, by omega, by go_num, (fun q h1 h2 => by
                by_cases hq : q = j
                · rw [hq]; exact HXX.out
                · exact HZ.out q h1 (by omega)), trivial⟩
              case measure => simp [intOf]; omega
            · have dx : (nth PL j != 0) = true := by simpa using hx
              have HAN := Lib.hid (HYS.out hx)
              clear hx
              generalize nth PL j = X at kx dx
              have HECf := Lib.hid (show evC b c d o = false by rw [HEC.out, HAN.out]; rfl)
              go_wp2_with (first | ((with_reducible refine wpl_load_row rtV ?_ (.tmp 9) ?_ (w3.heap.size) ?_ 24 (vrow b c A3 OL.length c3) ?_ HQ4.out ?_); rfl; rfl; rfl; rfl; simp only [Act.put, List.setIfInBounds_toArray, List.set_cons_succ, List.set_cons_zero]) | ((with_reducible refine wpl_store_row rtV ?_ (.tmp 4) (.tmp 56) ?_ (w.heap.size + 1) ?_ (vrow b c A3 OL.length c3) ?_ (vrow_one _ _ _ _ _) 24 ?_ _ ?_ HR4.out ?_); rfl; rfl; rfl; rfl; rfl; rfl; intro w7 hr7 hg7 hs7; (try simp only [Act.put])))
              rw [HECf.out, HEL.out, HE.out]
              exact bodyPost_ret (res_row_tmp2 rtV rfl _ _ (w.heap.size + 1) 24 (vrow b c A3 OL.length c3) rfl (.bool false) (.bool true) rfl rfl rfl hr7) rfl ⟨A3, c3, rfl, (HV4.out.kept hg7 (by right; intro e; have h1 := (World.ownsRow.lt HV4.out _ e).1; omega)).mono (by omega), HB4.out.grown hg7 HB4.out.size (fun k hk => by have e' : w.heap.size + 1 = k := Option.some.inj hk; omega)⟩
          · obtain rfl : j = 4 := by omega
            have HECt := Lib.hid (show evC b c d o = true by rw [HEC.out, drop_no (fun q h1 h2 => HZ.out q h1 (by have := HPL4.out; omega))]; rfl)
            go_wp2_with (first | ((with_reducible refine wpl_load_row rtV ?_ (.tmp 9) ?_ (w3.heap.size) ?_ 24 (vrow b c A3 OL.length c3) ?_ HQ4.out ?_); rfl; rfl; rfl; rfl; simp only [Act.put, List.setIfInBounds_toArray, List.set_cons_succ, List.set_cons_zero]) | ((with_reducible refine wpl_store_row rtV ?_ (.tmp 4) (.tmp 57) ?_ (w.heap.size + 1) ?_ (vrow b c A3 OL.length c3) ?_ (vrow_one _ _ _ _ _) 24 ?_ _ ?_ HR4.out ?_); rfl; rfl; rfl; rfl; rfl; rfl; intro w7 hr7 hg7 hs7; (try simp only [Act.put])))
            rw [HECt.out, HEL.out, HE.out]
            exact bodyPost_ret (res_row_tmp2 rtV rfl _ _ (w.heap.size + 1) 24 (vrow b c A3 OL.length c3) rfl (.bool true) (.bool true) rfl rfl rfl hr7) rfl ⟨A3, c3, rfl, (HV4.out.kept hg7 (by right; intro e; have h1 := (World.ownsRow.lt HV4.out _ e).1; omega)).mono (by omega), HB4.out.grown hg7 HB4.out.size (fun k hk => by have e' : w.heap.size + 1 = k := Option.some.inj hk; omega)⟩
end Go.Proofs.Ythjmnahmejagmaa
