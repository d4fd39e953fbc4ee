/- The walk of CoeffBack. -/
import Derived.Test.YtckkncblbagfmaaCfX
namespace Go.Proofs.Ytckkncblbagfmaa
open Go.RowKit
open Go.Tin
set_option linter.unusedVariables false
set_option linter.unusedSimpArgs false


theorem ud' {B : Nat} {w x : World} (h : Below B w x) : Below B w x.drew := ⟨h.os, h.tape, h.output, h.size, h.block⟩
theorem repL_mem (ac : Int) : ∀ k, ∀ z ∈ repL ac k, z = ac ∨ z = 240 ∨ z = 0
  | 0, z, h => by simp [repL] at h
  | k + 1, z, h => by
    rw [repL, List.mem_append] at h
    rcases h with h | h
    · exact repL_mem ac k z h
    · simp at h
      omega
theorem vaB_bd {V : Int} {N : Nat} (h : vaB V N = true) : 0 ≤ V ∧ V < 65536 ∧ N ≤ 15 := by
  unfold vaB at h
  simp only [decide_eq_true_eq, Int.toNat_natCast] at h
  have := (pow_top N (by omega)).2
  omega
theorem cod_mem (b : List Int) (last : Int) : ∀ k, (cod b last k).bad = false → ∀ z ∈ (cod b last k).out, 0 ≤ z ∧ z < 65536
  | 0, h, z, hz => by
    simp only [cod] at *
    obtain ⟨N, hN, hi, hva, _⟩ := ini_put h
    rw [hi] at hz
    have := vaB_bd hva
    simp at hz
    omega
  | k + 1, h, z, hz => by
    have hb := cod_ok b last k h
    have ih := cod_mem b last k hb
    simp only [cod] at *
    generalize cod b last k = s at *
    by_cases h0 : nth (toL b) (k + 1) = 0
    · rw [h0, stp_zero] at hz
      exact ih z hz
    · obtain ⟨N, hN1, hN', hs, hst, hva, hvn⟩ := stp_put h0 h
      rw [hst] at hz
      simp only [List.mem_append] at hz
      have := vaB_bd hva
      rcases hz with hz | hz
      · exact ih z hz
      · unfold symL at hz
        rw [List.mem_append] at hz
        rcases hz with hz | hz
        · have := repL_mem 1 _ z hz
          omega
        · simp at hz
          omega
theorem code_mem {b : List Int} {last : Int} (h : told b last = true) : ∀ z ∈ code b last, (Lit.int .i64 z).wf = true := by
  obtain ⟨hbad, hc⟩ := code_of h
  rw [hc]
  have hm := cod_mem b last 63 hbad
  generalize cod b last 63 = s at *
  intro z hz
  have : 0 ≤ z ∧ z < 65536 := by
    unfold symsOf at hz
    split at hz
    · rw [List.mem_append] at hz
      rcases hz with hz | hz
      · exact hm z hz
      · simp at hz
        omega
    · exact hm z hz
  exact wf_of64 (by omega) (by omega)
theorem told_sz {b : List Int} {last : Int} (h : told b last = true) : 0 ≤ sz last := by
  unfold told at h
  simp only [Bool.and_eq_true, decide_eq_true_eq] at h
  exact h.1
/-- Block of a block's symbols, and of more. -/
theorem bk_all {b : List Int} {last : Int} (hb : b.length = 64) (h : told b last = true) (N : Nat) (hN : N * 4 = (code b last).length) (zs : List Int) (n : Nat) : bkL (code b last ++ zs) (N + n) last = b ∧ bkU (code b last ++ zs) (N + n) last = N ∧ bkE (code b last ++ zs) (N + n) last = 0 := by
  have hr := rd_all h N hN (code b last ++ zs) (N + n) (fun i hi => nth_app_lt (by omega)) (by omega)
  have := bk_ok (told_sz h) _ _ hr
  rw [from_to b hb] at this
  exact this
theorem bk_cut {b : List Int} {last : Int} (h : told b last = true) (n : Nat) (hN : (n + 1) * 4 = (code b last).length) : bkL ((code b last).take (n * 4)) n last = zer ∧ bkU ((code b last).take (n * 4)) n last = 0 ∧ bkE ((code b last).take (n * 4)) n last = 3 := by
  obtain ⟨t, u, hr⟩ := rd_cut h n hN ((code b last).take (n * 4)) (fun i hi => by
    unfold nth
    rw [List.getD_eq_getElem?_getD, List.getElem?_take, if_pos hi, List.getD_eq_getElem?_getD])
  exact bk_err (told_sz h) 3 (by decide) t u hr
theorem hA_own {e : TypeId} {sz : Nat} {w : World} {B : Nat} {A : Option Addr} {n c : Nat} {xs : List Value} (h : OwnV e sz w B (.slice A n c) n xs) : ∀ a, A = some a → a.block < w.heap.size := fun a ha => by
  obtain ⟨A0, c0, hv, -, -, -, h⟩ := h.sl
  injection hv with e1
  subst e1
  rcases h with ⟨h, -⟩ | ⟨g, h, -, h2⟩
  · rw [h] at ha; cases ha
  · rw [h] at ha; cases ha; exact h2

theorem kept_low {e : TypeId} {sz : Nat} {w w' : World} {B G m c n : Nat} {A : Option Addr} {xs : List Value} {r : Option Nat} (h : OwnV e sz w B (.slice A m c) n xs) (hg : w.grownBy w' r) (hr : ∀ k, r = some k → G ≤ k) (hl : ∀ q, (Value.slice A m c).ownBlock = some q → q < G) : OwnV e sz w' B (.slice A m c) n xs := by
  refine h.kept hg ?_
  cases hq : (Value.slice A m c).ownBlock with
  | none => exact .inl rfl
  | some q =>
    refine .inr fun e => ?_
    have h1 := hl q hq
    have h2 := hr q e.symm
    omega
theorem iv_app {e : TypeId} {sz : Nat} {w : World} {B n : Nat} {v : Value} {a b : List Int} (h : OwnV e sz w B v n (iv a ++ iv b)) : OwnV e sz w B v n (iv (a ++ b)) := by
  rw [← List.map_append] at h
  exact h

theorem key_of {b o : List Int} {last : Int} {sm : Bool} (hb : b.length = 64) (ho : o.length = 64) (h : told b last = true) (hs : sm = decide (code o last = code b last)) : ((cerr o last != 0) = true) ∨ ((cerr o last != 0) = false ∧ decide (o = b) = sm) := by
  cases ht : told o last with
  | false => exact .inl (by unfold cerr; rw [ht]; rfl)
  | true =>
    refine .inr ⟨by unfold cerr; rw [ht]; rfl, ?_⟩
    rw [hs]
    apply decide_eq_decide.2
    constructor
    · intro e; rw [e]
    · intro e; exact code_one ho hb ht h e

set_option maxRecDepth 100000 in
set_option maxHeartbeats 8000000 in
theorem back_any (b o : List Int) (last : Int) (A : Option Addr) (n c : Nat) (zs : List Int) (w : World) (hb : b.length = 64) (hbw : ∀ z ∈ b, (Lit.int .i64 z).wf = true) (ho : o.length = 64) (how : ∀ z ∈ o, (Lit.int .i64 z).wf = true) (wl : (Lit.int .i64 last).wf = true) (sl : SlV w A (iv zs)) (hlen : zs.length = n * 4) (hwf : ∀ z ∈ zs, (Lit.int .i64 z).wf = true) :
    Calls Try.prog 6 #[.agg (arr .i64 b), .agg (arr .i64 o), .int .i64 last, .slice A n c] w fun e w' => e = .returned (.bool true) ∧ Below w.heap.size w w' := by
  have HB := Lib.hid hb
  have HOL := Lib.hid ho
  have HC := Lib.hid (code_any b hb hbw last wl)
  have HCO := Lib.hid (code_any o ho how last wl)
  have HWL := Lib.hid wl
  have HSL := Lib.hid sl
  have HLEN := Lib.hid hlen
  have HWF := Lib.hid hwf
  have HBP := Lib.hid (ba (ba (brefl w) (.cells (arr .i64 b) 33)) (.cells (arr .i64 o) 33))
  have RB := Lib.hid (show ((w.alloc (.cells (arr .i64 b) 33)).alloc (.cells (arr .i64 o) 33)).heap[w.heap.size]? = some (.cells (arr .i64 b) 33 (0, 0)) by rw [Below.heap_alloc _ _ _ (by simp)]; exact heap_alloc_new w _)
  have RO := Lib.hid (show ((w.alloc (.cells (arr .i64 b) 33)).alloc (.cells (arr .i64 o) 33)).heap[w.heap.size + 1]? = some (.cells (arr .i64 o) 33 (0, 0)) by
    have := heap_alloc_new (w.alloc (.cells (arr .i64 b) 33)) (.cells (arr .i64 o) 33)
    simpa using this)
  clear hb hbw ho how wl sl hlen hwf
  by_cases h100 : 100 < n
  · have i1 : 100 < (n : Int) := by omega
    go_enter Try.func6, Try.ntmps6
    go_wp2_with fail
    refine (awake_any _).mono ?_
    rintro e w1 ⟨rfl, hb1⟩
    go_wp2_with fail
    go_ret
    exact ⟨rfl, HBP.out.trans (hb1.mono HBP.out.size)⟩
  have i1 : (n : Int) ≤ 100 := by omega
  go_enter Try.func6, Try.ntmps6
  go_wp2_with ((with_reducible refine wpl_load_row rtB ?_ (.tmp 4) ?_ (w.heap.size) ?_ 33 (arr .i64 b) ?_ ?_ ?_); rfl; rfl; rfl; simp [HB.out]; exact RB.out; simp only [Act.put, List.setIfInBounds_toArray, List.set_cons_succ, List.set_cons_zero])
  refine (HC.out _).mono ?_
  rintro e w1 ⟨A1, n1, c1, rfl, hn1, ho1, hb1⟩
  have HB1 := Lib.hid (HBP.out.trans (hb1.mono HBP.out.size))
  have RB1 := Lib.hid ((hb1.block _ (row_lt RB.out)).trans RB.out)
  have RO1 := Lib.hid ((hb1.block _ (row_lt RO.out)).trans RO.out)
  have HO1 := Lib.hid ho1
  have HN1 := Lib.hid hn1
  clear hn1 ho1 hb1 RB RO HBP
  have step : (cerr b last = 0 ∧ told b last = true) ∨ (cerr b last = 7 ∧ told b last = false) := by
    unfold cerr
    cases told b last <;> simp
  rcases step with ⟨he, ht⟩ | ⟨he, ht⟩
  case inr =>
    have hn0 : n1 = 0 := by
      have := HN1.out
      unfold code at this
      rw [ht] at this
      simp at this
      omega
    subst hn0
    rw [he]
    clear he ht
    go_wp2_with fail
    refine (awake_any _).mono ?_
    rintro e w2 ⟨rfl, hb2⟩
    go_wp2_with fail
    go_ret
    exact ⟨rfl, HB1.out.trans (hb2.mono HB1.out.size)⟩
  have HT := Lib.hid ht
  rw [he]
  clear he ht
  have HGL := Lib.hid (show w.heap.size + 2 ≤ w1.heap.size by
    have := row_lt RO1.out
    omega)
  have HO := Lib.hid (OwnV.new0 45 4 w1)
  have HB2 := Lib.hid (ba HB1.out (.cells #[] 45))
  have RB2 := Lib.hid (show (w1.alloc (.cells #[] 45)).heap[w.heap.size]? = some (.cells (arr .i64 b) 33 (0, 0)) by rw [Below.heap_alloc _ _ _ (row_lt RB1.out)]; exact RB1.out)
  have RO2 := Lib.hid (show (w1.alloc (.cells #[] 45)).heap[w.heap.size + 1]? = some (.cells (arr .i64 o) 33 (0, 0)) by rw [Below.heap_alloc _ _ _ (row_lt RO1.out)]; exact RO1.out)
  have HO12 := Lib.hid (HO1.out.alloc (.cells #[] 45))
  have HLW := Lib.hid (fun q hq => HO1.out.low q hq)
  have HSL2 := Lib.hid (HSL.out.keep HB2.out)
  have HSZ := Lib.hid (show w1.heap.size ≤ (w1.alloc (.cells #[] 45)).heap.size by simp)
  have hn1 : n1 ≤ 64 ∧ 1 ≤ n1 := by
    obtain ⟨m, hm, hm64⟩ := good_code HT.out
    have h1 := HN1.out
    have h2 := hm.1
    have h3 := hm.2.1
    omega
  obtain ⟨hn64, hn1p⟩ := hn1
  have hnt : n1 + n ≤ 200 := by omega
  have j0 : ((n1 : Int) == 0) = false := by simp; omega
  have j1 : (n1 : Int) ≤ 64 := by omega
  have j2 : ((n1 : Int) != (n1 : Int)) = false := by simp
  clear HO1 HB1 RB1 RO1
  go_wp2_with (first | ((with_reducible refine wplv_app sv34 _ ?_ (.tmp 41) (.tmp 42) ?_ (w1.heap.size) (.slice (some ⟨w1.heap.size, 0, none⟩) 0 0) 0 [] ?_ HO.out A1 n1 c1 (iv (code b last)) ?_ ?_ HO12.out.sl'.2.1 ?_ ?_ ?_ ?_ ?_); rfl; rfl; rfl; rfl; (simp [HN1.out]); (intro u hu; obtain ⟨z, _, rfl⟩ := List.mem_map.1 hu; rfl); omega; omega; (exact HSZ.out); intro A2 c2 w2 ho2 hg2 hw2; have HB3 := Lib.hid (HB2.out.grown hg2 HB2.out.size (fun k hk => by have e : w1.heap.size = k := Option.some.inj hk; have := HGL.out; omega)); have RB3 := Lib.hid ((hg2.block w.heap.size (row_lt RB2.out) (fun e => by have e' : w.heap.size = w1.heap.size := Option.some.inj e; have := HGL.out; omega)).trans RB2.out); have RO3 := Lib.hid ((hg2.block (w.heap.size + 1) (row_lt RO2.out) (fun e => by have e' : w.heap.size + 1 = w1.heap.size := Option.some.inj e; have := HGL.out; omega)).trans RO2.out); have HO13 := Lib.hid (kept_low HO12.out hg2 (fun k hk => Nat.le_of_eq (Option.some.inj hk)) (fun q hq => (HLW.out q hq).2)); have HO2 := Lib.hid ho2; have hs2 := hg2.size; clear ho2 hg2 hw2; rw [Nat.zero_add, List.nil_append] at HO2; have HSL3 := Lib.hid (HSL.out.keep HB3.out); have HSZ3 := Lib.hid (show w1.heap.size ≤ w2.heap.size from Nat.le_trans HSZ.out hs2); clear RB2 RO2 HO12 HB2 HSL2) | ((with_reducible refine wplv_app sv34 _ ?_ (.tmp 43) (.tmp 44) ?_ (w1.heap.size) (.slice A2 n1 c2) n1 (iv (code b last)) ?_ HO2.out A n c (iv zs) ?_ ?_ HSL3.out ?_ ?_ ?_ ?_ ?_); rfl; rfl; rfl; rfl; (simp [HLEN.out]); (intro u hu; obtain ⟨z, _, rfl⟩ := List.mem_map.1 hu; rfl); omega; omega; (exact HSZ3.out); intro A3 c3 w3 ho3 hg3 hw3; have HLW2 := Lib.hid (fun q hq => HO2.out.low q hq); have HB4 := Lib.hid (HB3.out.grown hg3 HB3.out.size (fun k hk => by have h1 := HLW2.out k hk; have := HGL.out; omega)); have RB4 := Lib.hid ((hg3.block w.heap.size (row_lt RB3.out) (fun e => by have h1 := HLW2.out _ e.symm; have := HGL.out; omega)).trans RB3.out); have RO4 := Lib.hid ((hg3.block (w.heap.size + 1) (row_lt RO3.out) (fun e => by have h1 := HLW2.out _ e.symm; have := HGL.out; omega)).trans RO3.out); have HO14 := Lib.hid (kept_low HO13.out hg3 (fun k hk => (HLW2.out k hk).1) (fun q hq => (HLW.out q hq).2)); have HO3 := Lib.hid (iv_app ho3); clear ho3 hg3 hw3 RB3 RO3 HO2 HB3 HO13 HLW2; simp only [Act.put, List.setIfInBounds_toArray, List.set_cons_succ, List.set_cons_zero]))
  have HBL := Lib.hid (blk_any A3 (n1 + n) c3 (code b last ++ zs) last w3 HO3.out.sl'.2.1 (fun _ => hA_own HO3.out) (by rw [List.length_append, ← HN1.out, HLEN.out]; omega) (by omega) (by intro z hz; rw [List.mem_append] at hz; rcases hz with hz | hz; exact code_mem HT.out z hz; exact HWF.out z hz) HWL.out)
  obtain ⟨e1, e2, e3⟩ := bk_all HB.out HT.out n1 HN1.out zs n
  rw [e1, e2, e3] at HBL
  clear e1 e2 e3
  refine HBL.out.mono ?_
  rintro e w4 ⟨rfl, hb4⟩
  have HB5 := Lib.hid (HB4.out.trans (hb4.mono HB4.out.size))
  have RB5 := Lib.hid ((hb4.block _ (row_lt RB4.out)).trans RB4.out)
  have RO5 := Lib.hid ((hb4.block _ (row_lt RO4.out)).trans RO4.out)
  have HO15 := Lib.hid (HO14.out.keep hb4)
  clear hb4 HB4 RB4 RO4 HO14 HO3 HBL
  go_wp2_with (first | ((with_reducible refine wpl_store_row rtB ?_ (.tmp 11) (.tmp 48) ?_ (w4.heap.size) ?_ (arr .i64 b) ?_ arr_one 33 ?_ _ ?_ (heap_alloc_new w4 _) ?_); rfl; rfl; rfl; rfl; simp [HB.out]; simp; intro w5 hr5 hg5 hs5; have hb5 : Below w4.heap.size w4 w5 := (ba (brefl w4) _).grown hg5 (by simp) (fun k hk => by cases hk; exact Nat.le_refl _); have R6 := Lib.hid hr5; have RB6 := Lib.hid ((hb5.block _ (row_lt RB5.out)).trans RB5.out); have RO6 := Lib.hid ((hb5.block _ (row_lt RO5.out)).trans RO5.out); have HB6 := Lib.hid (HB5.out.trans (hb5.mono HB5.out.size)); have HO16 := Lib.hid (HO15.out.keep hb5); clear hr5 hg5 hs5 hb5; (try simp only [Act.put])) | ((with_reducible refine wpl_load_row rtB ?_ (.tmp 11) ?_ (w4.heap.size) ?_ 33 (arr .i64 b) ?_ ?_ ?_); rfl; rfl; rfl; simp [HB.out]; exact R6.out; simp only [Act.put, List.setIfInBounds_toArray, List.set_cons_succ, List.set_cons_zero]) | ((with_reducible refine wpl_load_row rtB ?_ (.tmp 4) ?_ (w.heap.size) ?_ 33 (arr .i64 b) ?_ ?_ ?_); rfl; rfl; rfl; simp [HB.out]; exact RB6.out; simp only [Act.put, List.setIfInBounds_toArray, List.set_cons_succ, List.set_cons_zero]) | ((with_reducible refine wpl_ne_arr (l := b) (l' := b) at27 eqB ?_ (.tmp 54) (.tmp 55) 33 ?_ ?_ ?_ HB.out HB.out false (by simp) ?_); rfl; rfl; rfl; rfl; simp only [Act.put, List.setIfInBounds_toArray, List.set_cons_succ, List.set_cons_zero]))
  clear R6 HB5 RB5 RO5 HO15 HSL3 HSZ3 HSZ hs2 HO HGL HLW
  have HGD := Lib.hid (show ∀ i, i < n1 → nth (code b last) (i * 4) = (if i = 0 then 0 else 1) ∧ nth (code b last) (i * 4 + 3) = nth (code b last) (i * 4 + 1) % 16 by
    obtain ⟨m, hm, -⟩ := good_code HT.out
    have : m = n1 := by have h1 := HN1.out; have h2 := hm.1; omega
    subst this
    exact hm.2.2)
  go_loopw [14] (fun s14 wr => ∃ i : Nat, i ≤ n1 ∧ s14 = .int .i64 (i : Int) ∧ Below w5.heap.size w5 wr) (fun s14 _ => n1 - (intOf s14).toNat)
  case atStart => exact ⟨0, by omega, rfl, brefl w5⟩
  case round =>
    obtain ⟨i, hi, rfl, hb6⟩ := hrel
    have HB7 := Lib.hid hb6
    clear hb6
    by_cases hin : i < n1
    · have i2 : (i : Int) < (n1 : Int) := by omega
      have h4 : i * 4 + 3 < (code b last).length := by rw [← HN1.out]; omega
      have HSA := Lib.hid HO16.out.sl'.2.1
      obtain ⟨q, off, rfl, -, -⟩ := HSA.out.at_ (by simp; omega)
      have HCL := Lib.hid (show ∀ (W : World), Below w5.heap.size w5 W → ∀ j, j < (code b last).length → W.cell? ⟨q, off + j, none⟩ = some (.int .i64 (nth (code b last) j)) from fun W h j hj => bel_cells (HSA.out.keep h) j hj)
      have kb0 : ∀ p : Bel w5.heap.size wr.drew, p.w'.cell? ⟨q, off + i * 4, none⟩ = some (.int .i64 (nth (code b last) (i * 4))) := fun p => HCL.out _ (HB7.out.trans (ud p.h)) (i * 4) (by omega)
      have kb1 : ∀ p : Bel w5.heap.size wr.drew, p.w'.cell? ⟨q, off + i * 4 + 1, none⟩ = some (.int .i64 (nth (code b last) (i * 4 + 1))) := fun p => HCL.out _ (HB7.out.trans (ud p.h)) (i * 4 + 1) (by omega)
      have kb3 : ∀ p : Bel w5.heap.size wr.drew, p.w'.cell? ⟨q, off + i * 4 + 2 + 1, none⟩ = some (.int .i64 (nth (code b last) (i * 4 + 3))) := fun p => HCL.out _ (HB7.out.trans (ud p.h)) (i * 4 + 3) (by omega)
      have g0 : (nth (code b last) (i * 4) != min (i : Int) 1) = false := by
        rw [(HGD.out i hin).1]
        by_cases h0 : i = 0
        · subst h0; rfl
        · rw [if_neg h0]
          simp
          omega
      have g3 : (nth (code b last) (i * 4 + 3) != bits .and .i64 (nth (code b last) (i * 4 + 1)) 15) = false := by
        rw [and15, (HGD.out i hin).2]
        simp
      clear HCL h4
      generalize nth (code b last) (i * 4) = V0 at *
      generalize nth (code b last) (i * 4 + 1) = V1 at *
      generalize nth (code b last) (i * 4 + 3) = V3 at *
      go_wp2_with fail
      refine Tin.reg_begin w5.heap.size 23 (by rfl) (by kernel_rfl) ?_
      refine Tin.reg_quiets [0, 1, 2, 3, 4, 5, 6, 7, 8, 9, 10, 11, 12, 13, 14, 15, 16, 17, 18, 19, 20, 21, 22] _ 0 rfl (by simp only [Tin.pick, List.map_cons, List.map_nil, Array.getD_eq_getD_getElem?, List.getElem?_toArray, List.getElem?_cons_zero, List.getElem?_cons_succ, Option.getD_some]; rfl) (by kernel_rfl) (by kernel_rfl) ?_
      repeat (first | go_big_quiet_step (fail))
      refine wpQuiet_nil ?_
      refine Tin.reg_done (by kernel_rfl) ?_
      go_wp2_with fail
      go_roundw
      case rel => exact ⟨i + 1, by omega, by go_num, ud' HB7.out⟩
      case measure => simp [intOf]; omega
    · obtain rfl : i = n1 := by omega
      have HO17 := Lib.hid (HO16.out.keep HB7.out)
      have hc1 : (i : Int) - 1 ≤ (c1 : Int) := by have := HO17.out.sl'.2.2.1; omega
      have hi0 : 0 ≤ (i : Int) - 1 := by omega
      have RB7 := Lib.hid ((HB7.out.block _ (row_lt RB6.out)).trans RB6.out)
      have RO7 := Lib.hid ((HB7.out.block _ (row_lt RO6.out)).trans RO6.out)
      have HB8 := Lib.hid (HB6.out.trans (HB7.out.mono HB6.out.size))
      have HCUT := Lib.hid (blk_any A1 (i - 1) c1 ((code b last).take ((i - 1) * 4)) last wr (by rw [iv, List.map_take]; exact HO17.out.sl'.2.1.take _) (fun _ => hA_own HO17.out) (by rw [List.length_take, ← HN1.out]; omega) (by omega) (fun z hz => code_mem HT.out z (List.mem_of_mem_take hz)) HWL.out)
      obtain ⟨e1, e2, e3⟩ := bk_cut HT.out (i - 1) (by rw [← HN1.out]; omega)
      rw [e1, e2, e3] at HCUT
      clear e1 e2 e3 HO16 HB7 RB6 RO6 HB6
      go_wp2_with fail
      refine HCUT.out.mono ?_
      rintro e w6 ⟨rfl, hb8⟩
      have HB9 := Lib.hid (HB8.out.trans (hb8.mono HB8.out.size))
      have RB8 := Lib.hid ((hb8.block _ (row_lt RB7.out)).trans RB7.out)
      have RO8 := Lib.hid ((hb8.block _ (row_lt RO7.out)).trans RO7.out)
      have HO18 := Lib.hid (HO17.out.keep hb8)
      clear hb8 HCUT HB8 RB7 RO7 HO17
      go_wp2_with (first | ((with_reducible refine wpl_store_row rtB ?_ (.tmp 15) (.tmp 111) ?_ (w6.heap.size) ?_ (arr .i64 zer) ?_ arr_one 33 ?_ _ ?_ (heap_alloc_new w6 _) ?_); rfl; rfl; rfl; rfl; rfl; simp; intro w7 hr7 hg7 hs7; have hb7 : Below w6.heap.size w6 w7 := (ba (brefl w6) _).grown hg7 (by simp) (fun k hk => by cases hk; exact Nat.le_refl _); have RB9 := Lib.hid ((hb7.block _ (row_lt RB8.out)).trans RB8.out); have RO9 := Lib.hid ((hb7.block _ (row_lt RO8.out)).trans RO8.out); have HB10 := Lib.hid (HB9.out.trans (hb7.mono HB9.out.size)); have HO19 := Lib.hid (HO18.out.keep hb7); clear hr7 hg7 hs7 hb7 RB8 RO8 HB9 HO18; (try simp only [Act.put])) | ((with_reducible refine wpl_load_row rtB ?_ (.tmp 5) ?_ (w.heap.size + 1) ?_ 33 (arr .i64 o) ?_ ?_ ?_); rfl; rfl; rfl; simp [HOL.out]; exact RO9.out; simp only [Act.put, List.setIfInBounds_toArray, List.set_cons_succ, List.set_cons_zero]))
      refine (HCO.out _).mono ?_
      rintro e w8 ⟨A4, n4, c4, rfl, hn4, ho4, hb9⟩
      have HB11 := Lib.hid (HB10.out.trans (hb9.mono HB10.out.size))
      have RB10 := Lib.hid ((hb9.block _ (row_lt RB9.out)).trans RB9.out)
      have RO10 := Lib.hid ((hb9.block _ (row_lt RO9.out)).trans RO9.out)
      have HO20 := Lib.hid (HO19.out.keep hb9)
      have HO4 := Lib.hid ho4
      have HN4 := Lib.hid hn4
      clear hn4 ho4 hb9 RB9 RO9 HB10 HO19
      go_wp2_with fail
      have i64' : i ≤ 64 := hn64
      clear hc1 hi0
      go_loopw [20, 21] (fun s20 s21 wz => ∃ (j : Nat) (sm : Bool), j ≤ i ∧ s20 = .bool sm ∧ s21 = .int .i64 (j : Int) ∧ (sm = true → n4 = i ∧ (code o last).take (j * 4) = (code b last).take (j * 4)) ∧ (sm = false → code o last ≠ code b last) ∧ Below w8.heap.size w8 wz) (fun _ s21 _ => i - (intOf s21).toNat)
      case atStart =>
        refine ⟨0, _, by omega, rfl, rfl, fun h => ⟨by have h' : (n4 : Int) = (i : Int) := by simpa using h
                                                       omega, by simp⟩, fun h e => ?_, brefl w8⟩
        have h' : ¬ (n4 : Int) = (i : Int) := by simpa using h
        have h1 := HN1.out
        have h2 := HN4.out
        rw [e] at h2
        omega
      case round =>
        obtain ⟨j, sm, hj, rfl, rfl, hs1, hs2, hbl⟩ := hrel
        have HBL := Lib.hid hbl
        clear hbl
        cases sm with
        | false =>
          have HSM := Lib.hid (show false = decide (code o last = code b last) by simp [hs2 rfl])
          clear hs1 hs2
          have RB11 := Lib.hid ((HBL.out.block _ (row_lt RB10.out)).trans RB10.out)
          have RO11 := Lib.hid ((HBL.out.block _ (row_lt RO10.out)).trans RO10.out)
          have HB12 := Lib.hid (HB11.out.trans (HBL.out.mono HB11.out.size))
          have HKY := Lib.hid (key_of HB.out HOL.out HT.out HSM.out)
          have ss : ((false == false) = true) := by simp
          rcases (show ((cerr o last != 0) = true) ∨ ((cerr o last != 0) = false ∧ decide (o = b) = false) from HKY.out) with hk | ⟨hk, hk2⟩
          · generalize cerr o last = ce at *
            go_wp2_with fail
            refine (awake_any _).mono ?_
            rintro e w12 ⟨rfl, hb12⟩
            go_wp2_with fail
            go_ret
            exact ⟨rfl, HB12.out.trans (hb12.mono HB12.out.size)⟩
          · have HK2 := Lib.hid hk2
            clear hk2
            generalize cerr o last = ce at *
            go_wp2_with (first | ((with_reducible refine wpl_load_row rtB ?_ (.tmp 5) ?_ (w.heap.size + 1) ?_ 33 (arr .i64 o) ?_ ?_ ?_); rfl; rfl; rfl; simp [HOL.out]; exact RO11.out; simp only [Act.put, List.setIfInBounds_toArray, List.set_cons_succ, List.set_cons_zero]) | ((with_reducible refine wpl_load_row rtB ?_ (.tmp 4) ?_ (w.heap.size) ?_ 33 (arr .i64 b) ?_ ?_ ?_); rfl; rfl; rfl; simp [HB.out]; exact RB11.out; simp only [Act.put, List.setIfInBounds_toArray, List.set_cons_succ, List.set_cons_zero]) | ((with_reducible refine wpl_eq_arr (l := o) (l' := b) at27 eqB ?_ (.tmp 150) (.tmp 151) 33 ?_ ?_ ?_ HOL.out HB.out false HK2.out ?_); rfl; rfl; rfl; rfl; simp only [Act.put, List.setIfInBounds_toArray, List.set_cons_succ, List.set_cons_zero]))
            refine (awake_any _).mono ?_
            rintro e w12 ⟨rfl, hb12⟩
            go_wp2_with fail
            go_ret
            exact ⟨rfl, HB12.out.trans (hb12.mono HB12.out.size)⟩
        | true =>
          obtain ⟨hni, htk⟩ := hs1 rfl
          have HTK := Lib.hid htk
          clear hs1 hs2 htk
          by_cases hjn : j < i
          · have j4 : (j : Int) < (n4 : Int) := by omega
            have j5 : (j : Int) < (i : Int) := by omega
            have h4z : j * 4 + 4 ≤ (code o last).length := by rw [← HN4.out]; omega
            have h4y : j * 4 + 4 ≤ (code b last).length := by rw [← HN1.out]; omega
            have HSA := Lib.hid HO4.out.sl'.2.1
            have HSB := Lib.hid HO20.out.sl'.2.1
            obtain ⟨q, off, rfl, -, -⟩ := HSA.out.at_ (by simp; omega)
            obtain ⟨q', off', rfl, -, -⟩ := HSB.out.at_ (by simp; omega)
            have E1 := Lib.hid (fun (W : World) (h : Below w8.heap.size w8 W) => el_rng (HSA.out.keep h) j h4z)
            have E2 := Lib.hid (fun (W : World) (h : Below w8.heap.size w8 W) => el_rng (HSB.out.keep h) j h4y)
            have HT1 := Lib.hid (take4 h4z)
            have HT2 := Lib.hid (take4 h4y)
            have HYE := Lib.hid (fun h => cdB_yes (zs := code o last) (ys := code b last) (i := j) h)
            have HNO := Lib.hid (fun h => cdB_no (zs := code o last) (ys := code b last) (i := j) h)
            have ez : el (code o last) j = [.int .i64 (nth (code o last) (j * 4)), .int .i64 (nth (code o last) (j * 4 + 1)), .int .i64 (nth (code o last) (j * 4 + 2)), .int .i64 (nth (code o last) (j * 4 + 3))] := rfl
            have ey : el (code b last) j = [.int .i64 (nth (code b last) (j * 4)), .int .i64 (nth (code b last) (j * 4 + 1)), .int .i64 (nth (code b last) (j * 4 + 2)), .int .i64 (nth (code b last) (j * 4 + 3))] := rfl
            have HTU := Lib.hid (show tu (code o last) j = (nth (code o last) (j * 4), nth (code o last) (j * 4 + 1), nth (code o last) (j * 4 + 2), nth (code o last) (j * 4 + 3)) ∧ tu (code b last) j = (nth (code b last) (j * 4), nth (code b last) (j * 4 + 1), nth (code b last) (j * 4 + 2), nth (code b last) (j * 4 + 3)) from ⟨rfl, rfl⟩)
            rw [ez] at E1
            rw [ey] at E2
            clear h4z h4y ez ey
            generalize nth (code o last) (j * 4) = z0 at *
            generalize nth (code o last) (j * 4 + 1) = z1 at *
            generalize nth (code o last) (j * 4 + 2) = z2 at *
            generalize nth (code o last) (j * 4 + 3) = z3 at *
            generalize nth (code b last) (j * 4) = y0 at *
            generalize nth (code b last) (j * 4 + 1) = y1 at *
            generalize nth (code b last) (j * 4 + 2) = y2 at *
            generalize nth (code b last) (j * 4 + 3) = y3 at *
            rw [HTU.out.1, HTU.out.2] at HYE HNO
            go_wp2_with fail
            refine Tin.reg_begin w8.heap.size 10 (by rfl) (by kernel_rfl) ?_
            refine Tin.reg_quiets [0, 1, 2, 3, 4, 5, 6, 7, 8, 9] _ 0 rfl (by simp only [Tin.pick, List.map_cons, List.map_nil, Array.getD_eq_getD_getElem?, List.getElem?_toArray, List.getElem?_cons_zero, List.getElem?_cons_succ, Option.getD_some]; rfl) (by kernel_rfl) (by kernel_rfl) ?_
            repeat (first | ((with_reducible refine wpq_loadv rt45 ?_ (.tmp 136) rfl q (off + j * 4) ?_ _ ?_ (fun W h => by obtain ⟨p, rfl⟩ := h; exact E1.out _ (HBL.out.trans (ud p.h))) ?_); rfl; rfl; rfl; simp only [Act.put, List.setIfInBounds_toArray, List.set_cons_succ, List.set_cons_zero]) | ((with_reducible refine wpq_loadv rt45 ?_ (.tmp 140) rfl q' (off' + j * 4) ?_ _ ?_ (fun W h => by obtain ⟨p, rfl⟩ := h; exact E2.out _ (HBL.out.trans (ud p.h))) ?_); rfl; rfl; rfl; simp only [Act.put, List.setIfInBounds_toArray, List.set_cons_succ, List.set_cons_zero]) | ((with_reducible refine wpq_eql codedE ?_ (.tmp 137) (.tmp 141) 45 rfl rfl rfl (coded_q _ _ _ _ _ _ _ _) ?_); rfl; simp only [Act.put, List.setIfInBounds_toArray, List.set_cons_succ, List.set_cons_zero]) | go_big_quiet_step (fail))
            refine wpQuiet_nil ?_
            refine Tin.reg_done (by kernel_rfl) ?_
            have HBd := Lib.hid (ud' HBL.out)
            clear HSA HSB
            cases hc : cdB (z0, z1, z2, z3) (y0, y1, y2, y3) with
            | true =>
              have HQ := Lib.hid (HYE.out hc)
              have HNI := Lib.hid hni
              clear hc HYE HNO hni
              go_wp2_with fail
              go_roundw
              case rel => exact ⟨j + 1, true, by omega, rfl, by go_num, fun _ => ⟨HNI.out, by rw [HT1.out, HT2.out, HTK.out, HQ.out.1, HQ.out.2.1, HQ.out.2.2.1, HQ.out.2.2.2]⟩, (fun h => absurd h (by decide)), HBd.out⟩
              case measure => simp [intOf]; omega
            | false =>
              have HQ := Lib.hid (HNO.out hc)
              clear hc HYE HNO
              go_wp2_with fail
              go_roundw
              case rel => exact ⟨j + 1, false, by omega, rfl, by go_num, (fun h => absurd h (by decide)), (fun _ => HQ.out), HBd.out⟩
              case measure => simp [intOf]; omega
          · have hji : j = i := by omega
            have HSM := Lib.hid (show true = decide (code o last = code b last) by
              have h1 := HN1.out
              have h2 := HN4.out
              have := HTK.out
              rw [List.take_of_length_le (by rw [← h2]; omega), List.take_of_length_le (by rw [← h1]; omega)] at this
              simp [this])
            clear hni
            subst hji
            have RB11 := Lib.hid ((HBL.out.block _ (row_lt RB10.out)).trans RB10.out)
            have RO11 := Lib.hid ((HBL.out.block _ (row_lt RO10.out)).trans RO10.out)
            have HB12 := Lib.hid (HB11.out.trans (HBL.out.mono HB11.out.size))
            have HKY := Lib.hid (key_of HB.out HOL.out HT.out HSM.out)
            have ss : ((true == true) = true) := by simp
            rcases (show ((cerr o last != 0) = true) ∨ ((cerr o last != 0) = false ∧ decide (o = b) = true) from HKY.out) with hk | ⟨hk, hk2⟩
            · generalize cerr o last = ce at *
              go_wp2_with fail
              refine (awake_any _).mono ?_
              rintro e w12 ⟨rfl, hb12⟩
              go_wp2_with fail
              go_ret
              exact ⟨rfl, HB12.out.trans (hb12.mono HB12.out.size)⟩
            · have HK2 := Lib.hid hk2
              clear hk2
              generalize cerr o last = ce at *
              go_wp2_with (first | ((with_reducible refine wpl_load_row rtB ?_ (.tmp 5) ?_ (w.heap.size + 1) ?_ 33 (arr .i64 o) ?_ ?_ ?_); rfl; rfl; rfl; simp [HOL.out]; exact RO11.out; simp only [Act.put, List.setIfInBounds_toArray, List.set_cons_succ, List.set_cons_zero]) | ((with_reducible refine wpl_load_row rtB ?_ (.tmp 4) ?_ (w.heap.size) ?_ 33 (arr .i64 b) ?_ ?_ ?_); rfl; rfl; rfl; simp [HB.out]; exact RB11.out; simp only [Act.put, List.setIfInBounds_toArray, List.set_cons_succ, List.set_cons_zero]) | ((with_reducible refine wpl_eq_arr (l := o) (l' := b) at27 eqB ?_ (.tmp 150) (.tmp 151) 33 ?_ ?_ ?_ HOL.out HB.out true HK2.out ?_); rfl; rfl; rfl; rfl; simp only [Act.put, List.setIfInBounds_toArray, List.set_cons_succ, List.set_cons_zero]))
              refine (awake_any _).mono ?_
              rintro e w12 ⟨rfl, hb12⟩
              go_wp2_with fail
              go_ret
              exact ⟨rfl, HB12.out.trans (hb12.mono HB12.out.size)⟩
set_option maxRecDepth 100000 in
theorem back_row (b o : List Int) (last : Int) (A : Option Addr) (n c : Nat) (w : World) (hb : b.length = 64) (hbw : ∀ z ∈ b, (Lit.int .i64 z).wf = true) (ho : o.length = 64) (how : ∀ z ∈ o, (Lit.int .i64 z).wf = true) (wl : (Lit.int .i64 last).wf = true) (ft : Fits w (.slice 4 (.fld 0 0 1 (.int .i64) (.fld 1 1 1 (.int .i64) (.fld 2 2 2 (.fld 0 0 1 (.int .i64) (.fld 1 1 1 (.int .i64) .unit)) .unit)))) [.slice A n c]) :
    Calls Try.prog 6 #[.agg (arr .i64 b), .agg (arr .i64 o), .int .i64 last, .slice A n c] w fun e w' => e = .returned (.bool true) ∧ Below w.heap.size w w' := by
  obtain ⟨zs, hsl, hzl, hlc, hcm, hwf, -⟩ := flat_of_fits (flat_coded w .i64) ft
  exact back_any b o last A n c zs w hb hbw ho how wl (SlV.ofSl hsl) hzl hwf
end Go.Proofs.Ytckkncblbagfmaa
