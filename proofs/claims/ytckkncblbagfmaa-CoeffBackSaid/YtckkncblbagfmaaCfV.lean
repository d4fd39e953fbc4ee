/- The walk of CoeffCodes. -/
import Derived.Test.YtckkncblbagfmaaCfU
import Derived.Test.YtckkncblbagfmaaCfLa
import Derived.Test.YtckkncblbagfmaaCfK
namespace Go.Proofs.Ytckkncblbagfmaa
open Go.RowKit
open Go.Tin
set_option linter.unusedVariables false
set_option linter.unusedSimpArgs false


theorem eqB : Try.prog.eqGuardType Try.prog.depth 33 = false := by kernel_rfl
theorem bkL_len (zs : List Int) (n : Nat) (last : Int) : (bkL zs n last).length = 64 := by
  unfold bkL
  split
  · rfl
  · split
    · exact fromL_len _
    · rfl
theorem code_len (b : List Int) (last : Int) : (code b last).length ≤ 300 := by
  obtain ⟨n, h1, h2⟩ := cod_len b last 63
  unfold code
  by_cases ht : told b last = true
  · rw [if_pos ht]
    unfold symsOf
    by_cases hz : 0 < (cod b last 63).z
    · rw [if_pos hz, List.length_append]
      have : ([1, 0, 0, 0] : List Int).length = 4 := rfl
      omega
    · rw [if_neg hz]
      omega
  · rw [if_neg ht]
    exact Nat.zero_le _

set_option maxRecDepth 100000 in
set_option maxHeartbeats 8000000 in
theorem codes_any (b : List Int) (last : Int) (A : Option Addr) (n c : Nat) (zs : List Int) (w : World) (hb : b.length = 64) (hbw : ∀ z ∈ b, (Lit.int .i64 z).wf = true) (wl : (Lit.int .i64 last).wf = true) (sl : SlV w A (iv zs)) (hlen : zs.length = n * 4) (hwf : ∀ z ∈ zs, (Lit.int .i64 z).wf = true) :
    Calls Try.prog 5 #[.agg (arr .i64 b), .int .i64 last, .slice A n c] w fun e w' => e = .returned (.bool true) ∧ Below w.heap.size w w' := by
  have HB := Lib.hid hb
  have HC := Lib.hid (code_any b hb hbw last wl)
  have HRC := Lib.hid (rcode_any b hb hbw last wl)
  have HWL := Lib.hid wl
  have HZ := Lib.hid (fun W => rsize_any last W wl)
  have HSL := Lib.hid sl
  have HLEN := Lib.hid hlen
  have HWF := Lib.hid hwf
  have RP := Lib.hid (heap_alloc_new w (.cells (arr .i64 b) 33))
  have HBP := Lib.hid (ba (brefl w) (.cells (arr .i64 b) 33))
  clear hb hbw wl sl hlen hwf
  by_cases h100 : 100 < n
  · have i1 : 100 < (n : Int) := by omega
    go_enter Try.func5, Try.ntmps5
    go_wp2_with fail
    refine (awake_any _).mono ?_
    rintro e w1 ⟨rfl, hb1⟩
    go_wp2_with fail
    go_ret
    exact ⟨rfl, bt HBP.out hb1⟩
  have i1 : (n : Int) ≤ 100 := by omega
  have HO := Lib.hid (show OwnV 45 4 ((w.alloc (.cells (arr .i64 b) 33)).alloc (.cells #[] 45)) (w.heap.size + 1) (.slice (some ⟨w.heap.size + 1, 0, none⟩) 0 0) 0 [] by
    have h := OwnV.new0 45 4 (w.alloc (.cells (arr .i64 b) 33))
    simpa using h)
  have HB2 := Lib.hid (ba HBP.out (.cells #[] 45))
  have HR1 := Lib.hid (show ((w.alloc (.cells (arr .i64 b) 33)).alloc (.cells #[] 45)).heap[w.heap.size]? = some (.cells (arr .i64 b) 33 (0, 0)) by rw [Below.heap_alloc _ _ _ (by simp)]; exact RP.out)
  have HSL2 := Lib.hid (HSL.out.keep HB2.out)
  go_enter Try.func5, Try.ntmps5
  go_wp2_with (first | ((with_reducible refine wpl_load_row rtB ?_ (.tmp 3) ?_ (w.heap.size) ?_ 33 (arr .i64 b) ?_ ?_ ?_); rfl; rfl; rfl; simp [HB.out]; exact R2.out; simp only [Act.put, List.setIfInBounds_toArray, List.set_cons_succ, List.set_cons_zero]) | ((with_reducible refine wplv_app sv34 _ ?_ (.tmp 22) (.tmp 23) ?_ (w.heap.size + 1) (.slice (some ⟨w.heap.size + 1, 0, none⟩) 0 0) 0 [] ?_ HO.out A n c (iv zs) ?_ ?_ HSL2.out ?_ ?_ ?_ ?_ ?_); rfl; rfl; rfl; rfl; (simp [HLEN.out]); (intro u hu; obtain ⟨z, _, rfl⟩ := List.mem_map.1 hu; rfl); omega; omega; (simp); (intro A2 c2 w2 ho2 hg2 hw2); have HB3 := Lib.hid (HB2.out.grown hg2 (HB2.out.size) (fun k hk => Nat.le_trans (Nat.le_succ _) (Nat.le_of_eq (Option.some.inj hk)))); have R2 := Lib.hid ((hg2.block w.heap.size (row_lt HR1.out) (fun e => Nat.ne_of_lt (Nat.lt_succ_self _) (Option.some.inj e))).trans HR1.out); simp only [Act.put, List.setIfInBounds_toArray, List.set_cons_succ, List.set_cons_zero]))
  refine (HC.out _).mono ?_
  rintro e w3 ⟨A3, n3, c3, rfl, hn3, ho3, hb3⟩
  have R3 := Lib.hid ((hb3.block _ (row_lt R2.out)).trans R2.out)
  have HB4 := Lib.hid (HB3.out.trans (hb3.mono HB3.out.size))
  have HO2 := Lib.hid (ho2.keep hb3)
  have HO3 := Lib.hid ho3
  have HN3 := Lib.hid hn3
  clear ho2 hg2 hw2 hn3 ho3 hb3 R2 HB3
  go_wp2_with ((with_reducible refine wpl_load_row rtB ?_ (.tmp 3) ?_ (w.heap.size) ?_ 33 (arr .i64 b) ?_ ?_ ?_); rfl; rfl; rfl; simp [HB.out]; exact R3.out; simp only [Act.put, List.setIfInBounds_toArray, List.set_cons_succ, List.set_cons_zero])
  refine (HRC.out _).mono ?_
  rintro e w4 ⟨A4, n4, c4, rfl, hn4, ho4, hb4⟩
  have R4 := Lib.hid ((hb4.block _ (row_lt R3.out)).trans R3.out)
  have HB5 := Lib.hid (HB4.out.trans (hb4.mono HB4.out.size))
  replace HO2 := Lib.hid (HO2.out.keep hb4)
  replace HO3 := Lib.hid (HO3.out.keep hb4)
  have HO4 := Lib.hid ho4
  have HN4 := Lib.hid hn4
  clear hn4 ho4 hb4 R3 HB4
  go_wp2_with fail
  have hn34 : n3 = n4 := by have h1 := HN3.out; have h2 := HN4.out; omega
  have hn3s : n3 ≤ 1000000 := by
    have h := code_len b last
    have h1 := HN3.out
    omega
  refine (same_any A3 A4 n3 n4 c3 c4 (code b last) (code b last) w4 HO3.out.sl'.2.1 HO4.out.sl'.2.1 HN3.out.symm HN4.out.symm hn3s (hn34 ▸ hn3s)).mono ?_
  rintro e w5 ⟨rfl, hb5⟩
  have R5 := Lib.hid ((hb5.block _ (row_lt R4.out)).trans R4.out)
  have HB6 := Lib.hid (HB5.out.trans (hb5.mono HB5.out.size))
  replace HO2 := Lib.hid (HO2.out.keep hb5)
  replace HO3 := Lib.hid (HO3.out.keep hb5)
  clear hb5 R4 HB5 HO4
  have dd : decide (code b last = code b last) = true := by simp
  rw [dd]
  have HCE := Lib.hid (show (cerr b last = 0 ∧ told b last = true) ∨ (cerr b last = 7 ∧ told b last = false) by
    unfold cerr
    cases told b last <;> simp)
  have HBK := Lib.hid (blk_any A2 n c2 zs last w5 (by have h := HO2.out.sl'.2.1; simpa using h) (fun _ a ha => by
    obtain ⟨A0, c0, hv, -, -, -, h⟩ := HO2.out.sl
    injection hv with e1
    subst e1
    rcases h with ⟨h, -⟩ | ⟨g, h, -, h2⟩
    · rw [h] at ha; cases ha
    · rw [h] at ha; cases ha; exact h2) HLEN.out (by omega) HWF.out HWL.out)
  have step : (cerr b last = 0 ∧ told b last = true) ∨ (cerr b last = 7 ∧ told b last = false) := HCE.out
  rcases step with ⟨he, ht⟩ | ⟨he, ht⟩
  all_goals
    rw [he, ht]
    clear he ht
    go_wp2_with fail
    refine HBK.out.mono ?_
    rintro e w6 ⟨rfl, hb6⟩
    have HB7 := Lib.hid (HB6.out.trans (hb6.mono HB6.out.size))
    have HO6 := Lib.hid (HO2.out.keep hb6)
    clear hb6
    have HL1 := Lib.hid (bkL_len zs n last)
    go_wp2_with ((with_reducible refine wpl_store_row rtB ?_ (.tmp 12) (.tmp 59) ?_ (w6.heap.size) ?_ (arr .i64 (bkL zs n last)) ?_ arr_one 33 ?_ _ ?_ (heap_alloc_new w6 _) ?_); rfl; rfl; rfl; rfl; simp [HL1.out]; simp; intro w7 hr7 hg7 hs7; (try simp only [Act.put]))
    obtain ⟨Q1, hQ1⟩ : ∃ q, q = w6.heap.size := ⟨_, rfl⟩
    have hb67 : Below w6.heap.size w6 w7 := (ba (brefl w6) _).grown hg7 (by simp) (fun k hk => by cases hk; exact Nat.le_refl _)
    have HB8 := Lib.hid (HB7.out.trans (hb67.mono HB7.out.size))
    have HO7 := Lib.hid (HO6.out.keep hb67)
    rw [← hQ1] at hr7
    rw [← hQ1]
    have RQ := Lib.hid hr7
    have HS7 := Lib.hid (HSL.out.keep HB8.out)
    have hn6 : n ≤ 1000000 := by omega
    clear hQ1 hb67 hr7 hg7 hs7 HB7 HO6
    refine (same_n A2 A n n c2 c zs zs rfl w7 (by have h := HO7.out.sl'.2.1; simpa using h) HS7.out HLEN.out HLEN.out hn6 hn6).mono ?_
    rintro e w8 ⟨rfl, hb8⟩
    have HB9 := Lib.hid (HB8.out.trans (hb8.mono HB8.out.size))
    have RQ8 := Lib.hid ((hb8.block _ (row_lt RQ.out)).trans RQ.out)
    clear hb8 HB8 RQ
    go_wp2_with fail
    refine (HZ.out _).mono ?_
    rintro e w9 ⟨rfl, rfl⟩
    by_cases hs : sz last < 0
    · obtain ⟨e1, e2, e3⟩ := bk_no (zs := zs) (n := n) hs
      have HE1 := Lib.hid e1
      have du : ((bkU zs n last : Int) == 0) = true := by rw [e2]; rfl
      have de : (bkE zs n last == 1) = true := by rw [e3]; rfl
      clear e1 e2 e3
      generalize bkU zs n last = U at *
      generalize bkE zs n last = E at *
      generalize bkL zs n last = L at *
      go_wp2_with (first | ((with_reducible refine wpl_load_row rtB ?_ (.tmp 12) ?_ (Q1) ?_ 33 (arr .i64 L) ?_ ?_ ?_); rfl; rfl; rfl; simp [HL1.out]; exact RQ8.out; simp only [Act.put, List.setIfInBounds_toArray, List.set_cons_succ, List.set_cons_zero]) | ((with_reducible refine wpl_eq_arr (l := L) (l' := zer) at27 eqB ?_ (.tmp 69) (.tmp 70) 33 ?_ ?_ ?_ HL1.out zer_len true (by rw [HE1.out]; simp) ?_); rfl; rfl; rfl; rfl; simp only [Act.put, List.setIfInBounds_toArray, List.set_cons_succ, List.set_cons_zero]))
      refine (awake_any _).mono ?_
      rintro e w10 ⟨rfl, hb10⟩
      go_wp2_with fail
      go_ret
      exact ⟨rfl, HB9.out.trans (hb10.mono HB9.out.size)⟩
    · have HR := Lib.hid (rblk_any A n c zs last w8 (HSL.out.keep HB9.out) HLEN.out (by omega) HWF.out (by omega))
      generalize bkU zs n last = U at *
      generalize bkE zs n last = E at *
      generalize bkL zs n last = L at *
      go_wp2_with fail
      refine HR.out.mono ?_
      rintro e w10 ⟨rfl, hb10⟩
      have RQ10 := Lib.hid ((hb10.block _ (row_lt RQ8.out)).trans RQ8.out)
      have HB11 := Lib.hid (HB9.out.trans (hb10.mono HB9.out.size))
      clear hb10 RQ8 HB9
      have uu : ((U : Int) == (U : Int)) = true := by simp
      have ee : (E == E) = true := by simp
      go_wp2_with (first | ((with_reducible refine wpl_store_row rtB ?_ (.tmp 15) (.tmp 87) ?_ (w10.heap.size) ?_ (arr .i64 L) ?_ arr_one 33 ?_ _ ?_ (heap_alloc_new w10 _) ?_); rfl; rfl; rfl; rfl; simp [HL1.out]; simp; intro w11 hr11 hg11 hs11; have hb11 : Below w10.heap.size w10 w11 := (ba (brefl w10) _).grown hg11 (by simp) (fun k hk => by cases hk; exact Nat.le_refl _); have R11 := Lib.hid hr11; have RQ11 := Lib.hid ((hb11.block _ (row_lt RQ10.out)).trans RQ10.out); have HB12 := Lib.hid (HB11.out.trans (hb11.mono HB11.out.size)); clear hr11 hg11 hs11 hb11; (try simp only [Act.put])) | ((with_reducible refine wpl_load_row rtB ?_ (.tmp 12) ?_ (Q1) ?_ 33 (arr .i64 L) ?_ ?_ ?_); rfl; rfl; rfl; simp [HL1.out]; exact RQ11.out; simp only [Act.put, List.setIfInBounds_toArray, List.set_cons_succ, List.set_cons_zero]) | ((with_reducible refine wpl_load_row rtB ?_ (.tmp 15) ?_ (w10.heap.size) ?_ 33 (arr .i64 L) ?_ ?_ ?_); rfl; rfl; rfl; simp [HL1.out]; exact R11.out; simp only [Act.put, List.setIfInBounds_toArray, List.set_cons_succ, List.set_cons_zero]) | ((with_reducible refine wpl_eq_arr (l := L) (l' := L) at27 eqB ?_ (.tmp 90) (.tmp 91) 33 ?_ ?_ ?_ HL1.out HL1.out true (by simp) ?_); rfl; rfl; rfl; rfl; simp only [Act.put, List.setIfInBounds_toArray, List.set_cons_succ, List.set_cons_zero]))
      refine (awake_any _).mono ?_
      rintro e w12 ⟨rfl, hb12⟩
      go_wp2_with fail
      go_ret
      exact ⟨rfl, HB12.out.trans (hb12.mono HB12.out.size)⟩
end Go.Proofs.Ytckkncblbagfmaa
