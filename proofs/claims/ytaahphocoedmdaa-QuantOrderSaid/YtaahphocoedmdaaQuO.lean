/- The walk of QuantOrder. -/
import Derived.Test.YtaahphocoedmdaaQuOm
import Derived.Test.YtaahphocoedmdaaQuL
namespace Go.Proofs.Ytaahphocoedmdaa
open Go.RowKit
open Go.Tin
set_option linter.unusedVariables false
set_option linter.unusedSimpArgs false


set_option maxRecDepth 100000 in
set_option maxHeartbeats 16000000 in
theorem order_yes (q b r : List Int) (n m : Int) (w : World) (hq : q.length = 64) (hb : b.length = 64) (hr : r.length = 64) (hmay : inL q 1 255 = true) (n1 : 1 ≤ n) (nm : n ≤ m) (m1 : m ≤ 100) :
    Calls Try.prog 4 #[.agg (arr .i64 q), .agg (arr .i64 b), .agg (arr .i64 r), .int .i64 n, .int .i64 m] w fun e w' => e = .returned (.bool true) ∧ Below w.heap.size w w' := by
  have HLq := Lib.hid hq
  have HLb := Lib.hid hb
  have HLr := Lib.hid hr
  have HLs := Lib.hid (sclL_len q n)
  have HLt := Lib.hid (sclL_len q m)
  have HLz := Lib.hid hq
  have HLp := Lib.hid (fun k => mxP_len r b k)
  have HM := Lib.hid (show ∀ W : World, Calls Try.prog 10 #[.agg (arr .i64 q)] W fun e w' => e = .returned (.bool true) ∧ Below W.heap.size W w' from fun W => by have h := may_any q hq W; rw [hmay] at h; exact h)
  have HM1 := Lib.hid (show ∀ W : World, Calls Try.prog 10 #[.agg (arr .i64 (sclL q n))] W fun e w' => e = .returned (.bool true) ∧ Below W.heap.size W w' from fun W => by have h := may_any (sclL q n) (sclL_len q n) W; rw [scl_may] at h; exact h)
  have HM2 := Lib.hid (show ∀ W : World, Calls Try.prog 10 #[.agg (arr .i64 (sclL q m))] W fun e w' => e = .returned (.bool true) ∧ Below W.heap.size W w' from fun W => by have h := may_any (sclL q m) (sclL_len q m) W; rw [scl_may] at h; exact h)
  have sc : ∀ (k : Int), 1 ≤ k → k ≤ 100 → ∀ W : World, Calls Try.prog 9 #[.agg (arr .i64 q), .int .i64 k] W fun e w' => e = .returned (.tuple #[.agg (arr .i64 (sclL q k)), .int .i64 0]) ∧ Below W.heap.size W w' := fun k h1 h2 W => by
    have h := scaled_any q hq k W
    have hk : scB q k = true := by unfold scB; rw [hmay]; simp; omega
    rw [show scL q k = sclL q k by unfold scL sclL; rw [if_pos hk], show scE q k = 0 by unfold scE; rw [if_pos hk]] at h
    exact h
  have C1 := Lib.hid (sc n n1 (by omega))
  have C2 := Lib.hid (sc m (by omega) m1)
  have C3 := Lib.hid (sc 50 (by decide) (by decide))
  rw [scl_50 hq hmay] at C3
  have HMo := Lib.hid (fun i (hi : i < 64) => scl_mono hq hmay n1 nm m1 i hi)
  have HP0 := Lib.hid (mxP_zero b hr)
  have HPs := Lib.hid (fun i (hi : i < 64) => mxP_set r b i hi)
  have HPn := Lib.hid (fun k j (hj : j < 64) => mxP_nth r b k j hj)
  have C4 := Lib.hid (show ∀ W : World, ∃ (xv : List Int) (er : Int), xv.length = 64 ∧ ((er = 0 ∧ xv = eachL nearI b q ∧ doneB b q = true) ∨ er = 1) ∧ Calls Try.prog 14 #[.agg (arr .i64 b), .agg (arr .i64 q)] W fun e w' => e = .returned (.tuple #[.agg (arr .i64 xv), .int .i64 er]) ∧ Below W.heap.size W w' from fun W => by
    have h := divide_any b q hb hq W
    refine ⟨_, _, doL_len _ _ _, ?_, h⟩
    by_cases hd : doneB b q = true
    · exact .inl ⟨by unfold doE; rw [if_pos hd], by unfold doL; rw [if_pos hd], hd⟩
    · exact .inr (by unfold doE; rw [if_neg hd]))
  have C5 := Lib.hid (show ∀ W : World, ∃ (yv : List Int) (er : Int), yv.length = 64 ∧ ((er = 0 ∧ yv = eachL nearI (mxL r b) q) ∨ er = 1) ∧ Calls Try.prog 14 #[.agg (arr .i64 (mxL r b)), .agg (arr .i64 q)] W fun e w' => e = .returned (.tuple #[.agg (arr .i64 yv), .int .i64 er]) ∧ Below W.heap.size W w' from fun W => by
    have h := divide_any (mxL r b) q (by simp [mxL]) hq W
    refine ⟨_, _, doL_len _ _ _, ?_, h⟩
    by_cases hd : doneB (mxL r b) q = true
    · exact .inl ⟨by unfold doE; rw [if_pos hd], by unfold doL; rw [if_pos hd]⟩
    · exact .inr (by unfold doE; rw [if_neg hd]))
  have HDm := Lib.hid (fun (h : doneB b q = true) i (hi : i < 64) => div_mono (r := r) hb hq h i hi)
  clear hq hb hr sc hmay
  have d1 : decide (n < 1) = false := by simpa using n1
  have d2 : decide (m < n) = false := by simpa using nm
  have d3 : decide (100 < m) = false := by simpa using m1
  generalize sclL q n = sv at *
  generalize sclL q m = tv at *
  go_enter Try.func4, Try.ntmps4
  obtain ⟨g0, g1, g2, hB, hz⟩ := alloc3 w (.cells (arr .i64 q) 23) (.cells (arr .i64 b) 23) (.cells (arr .i64 r) 23)
  replace g0 := Lib.hid g0
  replace g1 := Lib.hid g1
  replace g2 := Lib.hid g2
  go_wp2_with ((with_reducible refine wpl_load_row rtB ?_ (.tmp 5) ?_ (w.heap.size) ?_ 23 (arr .i64 q) ?_ ?_ ?_); rfl; rfl; rfl; simp [HLq.out]; exact g0.out; simp only [Act.put, List.setIfInBounds_toArray, List.set_cons_succ, List.set_cons_zero])
  generalize hW0 : ((w.alloc _).alloc _).alloc _ = W0
  have Hq := Lib.hid (show W0.heap[w.heap.size]? = some (.cells (arr .i64 q) 23 (0, 0)) by rw [← hW0]; exact g0.out)
  have Hb := Lib.hid (show W0.heap[w.heap.size + 1]? = some (.cells (arr .i64 b) 23 (0, 0)) by rw [← hW0]; exact g1.out)
  have Hr := Lib.hid (show W0.heap[w.heap.size + 2]? = some (.cells (arr .i64 r) 23 (0, 0)) by rw [← hW0]; exact g2.out)
  replace hB : Below w.heap.size w W0 := by rw [← hW0]; exact hB
  have lq : w.heap.size < W0.heap.size := by rw [← hW0, hz]; omega
  have lb : w.heap.size + 1 < W0.heap.size := by rw [← hW0, hz]; omega
  have lr : w.heap.size + 2 < W0.heap.size := by rw [← hW0, hz]; omega
  clear hW0 g0 g1 g2 hz
  refine (HM.out _).mono ?_
  rintro e w1 ⟨rfl, hb⟩
  replace Hq := Lib.hid ((hb.block _ lq).trans Hq.out)
  replace Hb := Lib.hid ((hb.block _ lb).trans Hb.out)
  replace Hr := Lib.hid ((hb.block _ lr).trans Hr.out)
  replace lq := Nat.lt_of_lt_of_le lq hb.size
  replace lb := Nat.lt_of_lt_of_le lb hb.size
  replace lr := Nat.lt_of_lt_of_le lr hb.size
  replace hB := bt hB hb
  clear hb
  go_wp2_with ((with_reducible refine wpl_load_row rtB ?_ (.tmp 5) ?_ (w.heap.size) ?_ 23 (arr .i64 q) ?_ ?_ ?_); rfl; rfl; rfl; simp [HLq.out]; exact Hq.out; simp only [Act.put, List.setIfInBounds_toArray, List.set_cons_succ, List.set_cons_zero])
  refine (C1.out _).mono ?_
  rintro e w2 ⟨rfl, hb⟩
  replace Hq := Lib.hid ((hb.block _ lq).trans Hq.out)
  replace Hb := Lib.hid ((hb.block _ lb).trans Hb.out)
  replace Hr := Lib.hid ((hb.block _ lr).trans Hr.out)
  replace lq := Nat.lt_of_lt_of_le lq hb.size
  replace lb := Nat.lt_of_lt_of_le lb hb.size
  replace lr := Nat.lt_of_lt_of_le lr hb.size
  replace hB := bt hB hb
  clear hb
  have ors := lr
  go_wp2_with (first | (((with_reducible refine wpl_store_row rtB ?_ (.tmp 11) (.tmp 44) ?_ (w2.heap.size) ?_ (arr .i64 sv) ?_ arr_one 23 ?_ _ ?_ (heap_alloc_new _ _) ?_); rfl; rfl; rfl; rfl; simp [HLs.out]; simp [zer_len]; intro w3 hr hg hs; (try simp only [Act.put])); have hb : Below w2.heap.size w2 w3 := (ba (brefl w2) _).grown hg (by simp) (fun k hk => by cases hk; exact Nat.le_refl _); have Js := Lib.hid hr; have ls : w2.heap.size < w3.heap.size := (by rw [hs]; simp); have Jq := Lib.hid ((hb.block _ lq).trans Hq.out); have Jb := Lib.hid ((hb.block _ lb).trans Hb.out); have Jr := Lib.hid ((hb.block _ lr).trans Hr.out); clear hr hg hs) | ((with_reducible refine wpl_load_row rtB ?_ (.tmp 5) ?_ (w.heap.size) ?_ 23 (arr .i64 q) ?_ ?_ ?_); rfl; rfl; rfl; simp [HLq.out]; exact Jq.out; simp only [Act.put, List.setIfInBounds_toArray, List.set_cons_succ, List.set_cons_zero]))
  replace Hq := Jq
  clear Jq
  replace lq := Nat.lt_of_lt_of_le lq hb.size
  replace Hb := Jb
  clear Jb
  replace lb := Nat.lt_of_lt_of_le lb hb.size
  replace Hr := Jr
  clear Jr
  replace lr := Nat.lt_of_lt_of_le lr hb.size
  have Hs := Js
  clear Js
  replace hB := bt hB hb
  clear hb
  generalize w2.heap.size = g3 at *
  refine (C2.out _).mono ?_
  rintro e w4 ⟨rfl, hb⟩
  replace Hq := Lib.hid ((hb.block _ lq).trans Hq.out)
  replace Hb := Lib.hid ((hb.block _ lb).trans Hb.out)
  replace Hr := Lib.hid ((hb.block _ lr).trans Hr.out)
  replace Hs := Lib.hid ((hb.block _ ls).trans Hs.out)
  replace lq := Nat.lt_of_lt_of_le lq hb.size
  replace lb := Nat.lt_of_lt_of_le lb hb.size
  replace lr := Nat.lt_of_lt_of_le lr hb.size
  replace ls := Nat.lt_of_lt_of_le ls hb.size
  replace hB := bt hB hb
  clear hb
  have ort := lr
  go_wp2_with (first | (((with_reducible refine wpl_store_row rtB ?_ (.tmp 13) (.tmp 50) ?_ (w4.heap.size) ?_ (arr .i64 tv) ?_ arr_one 23 ?_ _ ?_ (heap_alloc_new _ _) ?_); rfl; rfl; rfl; rfl; simp [HLt.out]; simp [zer_len]; intro w5 hr hg hs; (try simp only [Act.put])); have hb : Below w4.heap.size w4 w5 := (ba (brefl w4) _).grown hg (by simp) (fun k hk => by cases hk; exact Nat.le_refl _); have Jt := Lib.hid hr; have lt : w4.heap.size < w5.heap.size := (by rw [hs]; simp); have Jq := Lib.hid ((hb.block _ lq).trans Hq.out); have Jb := Lib.hid ((hb.block _ lb).trans Hb.out); have Jr := Lib.hid ((hb.block _ lr).trans Hr.out); have Js := Lib.hid ((hb.block _ ls).trans Hs.out); clear hr hg hs) | ((with_reducible refine wpl_load_row rtB ?_ (.tmp 5) ?_ (w.heap.size) ?_ 23 (arr .i64 q) ?_ ?_ ?_); rfl; rfl; rfl; simp [HLq.out]; exact Jq.out; simp only [Act.put, List.setIfInBounds_toArray, List.set_cons_succ, List.set_cons_zero]))
  replace Hq := Jq
  clear Jq
  replace lq := Nat.lt_of_lt_of_le lq hb.size
  replace Hb := Jb
  clear Jb
  replace lb := Nat.lt_of_lt_of_le lb hb.size
  replace Hr := Jr
  clear Jr
  replace lr := Nat.lt_of_lt_of_le lr hb.size
  replace Hs := Js
  clear Js
  replace ls := Nat.lt_of_lt_of_le ls hb.size
  have Ht := Jt
  clear Jt
  replace hB := bt hB hb
  clear hb
  generalize w4.heap.size = g4 at *
  refine (C3.out _).mono ?_
  rintro e w6 ⟨rfl, hb⟩
  replace Hq := Lib.hid ((hb.block _ lq).trans Hq.out)
  replace Hb := Lib.hid ((hb.block _ lb).trans Hb.out)
  replace Hr := Lib.hid ((hb.block _ lr).trans Hr.out)
  replace Hs := Lib.hid ((hb.block _ ls).trans Hs.out)
  replace Ht := Lib.hid ((hb.block _ lt).trans Ht.out)
  replace lq := Nat.lt_of_lt_of_le lq hb.size
  replace lb := Nat.lt_of_lt_of_le lb hb.size
  replace lr := Nat.lt_of_lt_of_le lr hb.size
  replace ls := Nat.lt_of_lt_of_le ls hb.size
  replace lt := Nat.lt_of_lt_of_le lt hb.size
  replace hB := bt hB hb
  clear hb
  go_wp2_with (first | (((with_reducible refine wpl_store_row rtB ?_ (.tmp 15) (.tmp 55) ?_ (w6.heap.size) ?_ (arr .i64 q) ?_ arr_one 23 ?_ _ ?_ (heap_alloc_new _ _) ?_); rfl; rfl; rfl; rfl; simp [HLq.out]; simp [zer_len]; intro w7 hr hg hs; (try simp only [Act.put])); have hb : Below w6.heap.size w6 w7 := (ba (brefl w6) _).grown hg (by simp) (fun k hk => by cases hk; exact Nat.le_refl _); have Jz := Lib.hid hr; have lz : w6.heap.size < w7.heap.size := (by rw [hs]; simp); have Jq := Lib.hid ((hb.block _ lq).trans Hq.out); have Jb := Lib.hid ((hb.block _ lb).trans Hb.out); have Jr := Lib.hid ((hb.block _ lr).trans Hr.out); have Js := Lib.hid ((hb.block _ ls).trans Hs.out); have Jt := Lib.hid ((hb.block _ lt).trans Ht.out); clear hr hg hs) | ((with_reducible refine wpl_load_row rtB ?_ (.tmp 15) ?_ (w6.heap.size) ?_ 23 (arr .i64 q) ?_ ?_ ?_); rfl; rfl; rfl; simp [HLq.out]; exact Jz.out; simp only [Act.put, List.setIfInBounds_toArray, List.set_cons_succ, List.set_cons_zero]) | ((with_reducible refine wpl_load_row rtB ?_ (.tmp 5) ?_ (w.heap.size) ?_ 23 (arr .i64 q) ?_ ?_ ?_); rfl; rfl; rfl; simp [HLq.out]; exact Jq.out; simp only [Act.put, List.setIfInBounds_toArray, List.set_cons_succ, List.set_cons_zero]) | ((with_reducible refine wpl_ne_arr (l := q) (l' := q) at27 eqB ?_ (.tmp 68) (.tmp 69) 23 ?_ ?_ ?_ HLq.out HLq.out false (by simp) ?_); rfl; rfl; rfl; rfl; simp only [Act.put, List.setIfInBounds_toArray, List.set_cons_succ, List.set_cons_zero]) | ((with_reducible refine wpl_load_row rtB ?_ (.tmp 11) ?_ (g3) ?_ 23 (arr .i64 sv) ?_ ?_ ?_); rfl; rfl; rfl; simp [HLs.out]; exact Js.out; simp only [Act.put, List.setIfInBounds_toArray, List.set_cons_succ, List.set_cons_zero]))
  replace Hq := Jq
  clear Jq
  replace lq := Nat.lt_of_lt_of_le lq hb.size
  replace Hb := Jb
  clear Jb
  replace lb := Nat.lt_of_lt_of_le lb hb.size
  replace Hr := Jr
  clear Jr
  replace lr := Nat.lt_of_lt_of_le lr hb.size
  replace Hs := Js
  clear Js
  replace ls := Nat.lt_of_lt_of_le ls hb.size
  replace Ht := Jt
  clear Jt
  replace lt := Nat.lt_of_lt_of_le lt hb.size
  have Hz := Jz
  clear Jz
  replace hB := bt hB hb
  clear hb
  generalize w6.heap.size = g5 at *
  refine (HM1.out _).mono ?_
  rintro e w8 ⟨rfl, hb⟩
  replace Hq := Lib.hid ((hb.block _ lq).trans Hq.out)
  replace Hb := Lib.hid ((hb.block _ lb).trans Hb.out)
  replace Hr := Lib.hid ((hb.block _ lr).trans Hr.out)
  replace Hs := Lib.hid ((hb.block _ ls).trans Hs.out)
  replace Ht := Lib.hid ((hb.block _ lt).trans Ht.out)
  replace lq := Nat.lt_of_lt_of_le lq hb.size
  replace lb := Nat.lt_of_lt_of_le lb hb.size
  replace lr := Nat.lt_of_lt_of_le lr hb.size
  replace ls := Nat.lt_of_lt_of_le ls hb.size
  replace lt := Nat.lt_of_lt_of_le lt hb.size
  replace hB := bt hB hb
  clear hb
  clear Hz lz
  go_wp2_with ((with_reducible refine wpl_load_row rtB ?_ (.tmp 13) ?_ (g4) ?_ 23 (arr .i64 tv) ?_ ?_ ?_); rfl; rfl; rfl; simp [HLt.out]; exact Ht.out; simp only [Act.put, List.setIfInBounds_toArray, List.set_cons_succ, List.set_cons_zero])
  refine (HM2.out _).mono ?_
  rintro e w9 ⟨rfl, hb⟩
  replace Hq := Lib.hid ((hb.block _ lq).trans Hq.out)
  replace Hb := Lib.hid ((hb.block _ lb).trans Hb.out)
  replace Hr := Lib.hid ((hb.block _ lr).trans Hr.out)
  replace Hs := Lib.hid ((hb.block _ ls).trans Hs.out)
  replace Ht := Lib.hid ((hb.block _ lt).trans Ht.out)
  replace lq := Nat.lt_of_lt_of_le lq hb.size
  replace lb := Nat.lt_of_lt_of_le lb hb.size
  replace lr := Nat.lt_of_lt_of_le lr hb.size
  replace ls := Nat.lt_of_lt_of_le ls hb.size
  replace lt := Nat.lt_of_lt_of_le lt hb.size
  replace hB := bt hB hb
  clear hb
  go_wp2_with fail
  rw [← HP0.out] at Hr
  go_loopw [17] (fun s17 wr => ∃ (i : Nat), i ≤ 64 ∧ s17 = .int .i64 (i : Int) ∧ (wr.heap[w.heap.size]? = some (.cells (arr .i64 q) 23 (0, 0)) ∧ wr.heap[(w.heap.size + 1)]? = some (.cells (arr .i64 b) 23 (0, 0)) ∧ wr.heap[(w.heap.size + 2)]? = some (.cells (arr .i64 (mxP r b i)) 23 (0, 0)) ∧ wr.heap[g3]? = some (.cells (arr .i64 sv) 23 (0, 0)) ∧ wr.heap[g4]? = some (.cells (arr .i64 tv) 23 (0, 0))) ∧ (w.heap.size < wr.heap.size ∧ (w.heap.size + 1) < wr.heap.size ∧ (w.heap.size + 2) < wr.heap.size ∧ g3 < wr.heap.size ∧ g4 < wr.heap.size) ∧ Below w.heap.size w wr) (fun s17 _ => 64 - (intOf s17).toNat)
  case atStart => exact ⟨0, by omega, rfl, ⟨Hq.out, Hb.out, Hr.out, Hs.out, Ht.out⟩, ⟨lq, lb, lr, ls, lt⟩, hB⟩
  case round =>
    clear Hq lq Hb lb Hr lr Hs ls Ht lt hB
    obtain ⟨i, hi, rfl, ⟨hq, hb, hr, hs, ht⟩, ⟨lq, lb, lr, ls, lt⟩, hB⟩ := hrel
    have Hq := Lib.hid hq
    have Hb := Lib.hid hb
    have Hr := Lib.hid hr
    have Hs := Lib.hid hs
    have Ht := Lib.hid ht
    clear hq hb hr hs ht
    by_cases hi64 : i < 64
    · have i1 : (i : Int) < 64 := by omega
      have kt := row_cell Ht.out i (arr_get i (by rw [HLt.out]; exact hi64))
      have ks := row_cell Hs.out i (arr_get i (by rw [HLs.out]; exact hi64))
      have kb := row_cell Hb.out i (arr_get i (by rw [HLb.out]; exact hi64))
      have kr := row_cell Hr.out i (arr_get i (by rw [HLp.out]; exact hi64))
      rw [HPn.out i i hi64, if_neg (by omega)] at kr
      have fr : wr.frozen? ⟨w.heap.size + 2, i, none⟩ = false := frozen_of_row wr _ i _ _ Hr.out
      have hmo := HMo.out i hi64
      have dmo : decide (nth sv i < nth tv i) = false := by simpa using hmo
      have lift : ∀ (g : Nat) (v : Value), g < wr.heap.size → wr.cell? ⟨g, i, none⟩ = some v → ∀ p : Bel wr.heap.size wr.drew, p.w'.cell? ⟨g, i, none⟩ = some v := fun g v hg hc p => (p.h.cell (p := ⟨g, i, none⟩) hg).trans hc
      have lift2 : ∀ (g : Nat) (v : Value), g < w.heap.size + 2 → wr.cell? ⟨g, i, none⟩ = some v → ∀ p : Bel (w.heap.size + 2) wr.drew.drew, p.w'.cell? ⟨g, i, none⟩ = some v := fun g v hg hc p => (p.h.cell (p := ⟨g, i, none⟩) hg).trans hc
      have f1 := lift _ _ lt kt
      have f2 := lift _ _ ls ks
      have f3 := lift2 _ _ (by omega) kb
      have HS := Lib.hid (show ∀ v, v = max (nth r i) (nth b i) → (wr.setCell ⟨w.heap.size + 2, i, none⟩ (.int .i64 v)).heap[w.heap.size + 2]? = some (.cells (arr .i64 (mxP r b (i + 1))) 23 (0, 0)) by
        rintro v rfl
        rw [← HPs.out i hi64]
        exact blk_set Hr.out i _)
      clear lift lift2 kt ks kb
      go_wp2_with fail
      refine Tin.reg_begin wr.heap.size 7 (by rfl) (by kernel_rfl) ?_
      refine Tin.reg_quiets [0, 1, 2, 3, 4, 5, 6] _ 0 rfl (by simp only [Tin.pick, List.map_cons, List.map_nil, Array.getD_eq_getD_getElem?, List.getElem?_toArray, List.getElem?_cons_zero, List.getElem?_cons_succ, Option.getD_some]; rfl) (by kernel_rfl) (by kernel_rfl) ?_
      repeat (first | go_big_quiet_step (fail))
      refine wpQuiet_nil ?_
      refine Tin.reg_done (by kernel_rfl) ?_
      clear f1 f2
      rcases Int.lt_or_le (nth r i) (nth b i) with hlt | hlt
      · have HV := Lib.hid (show nth b i = max (nth r i) (nth b i) by omega)
        go_wp2_with fail
        refine Tin.reg_begin (w.heap.size + 2) 10 (by rfl) (by kernel_rfl) ?_
        refine Tin.reg_quiets [0, 1, 2, 4, 5, 6] _ 4 rfl (by simp only [Tin.pick, List.map_cons, List.map_nil, Array.getD_eq_getD_getElem?, List.getElem?_toArray, List.getElem?_cons_zero, List.getElem?_cons_succ, Option.getD_some]; rfl) (by kernel_rfl) (by kernel_rfl) ?_
        repeat (first | go_big_quiet_step (fail))
        refine wpQuiet_nil ?_
        refine Tin.reg_one 3 _ rfl (by kernel_rfl) ?_
        try simp only [List.getElem_toArray, List.getElem_cons_succ, List.getElem_cons_zero]
        go_wp2_with fail
        refine ⟨w.heap.size + 2, Below.refl _ _, Nat.le_refl _, ?_⟩
        refine Tin.reg_quiets [7, 8] _ 1 rfl (by simp only [Tin.pick, List.map_cons, List.map_nil, Array.getD_eq_getD_getElem?, List.getElem?_toArray, List.getElem?_cons_zero, List.getElem?_cons_succ, Option.getD_some]; rfl) (by kernel_rfl) (by kernel_rfl) ?_
        repeat (first | go_big_quiet_step (fail))
        refine wpQuiet_nil ?_
        refine Tin.reg_one 9 _ rfl (by kernel_rfl) ?_
        try simp only [List.getElem_toArray, List.getElem_cons_succ, List.getElem_cons_zero]
        go_wp2_with fail
        refine ⟨w.heap.size + 2, (show Below (w.heap.size + 2) wr.drew.drew (wr.drew.drew.setCell ⟨w.heap.size + 2, i, none⟩ (.int .i64 (nth b i))) from bset (Below.refl _ _) _ _ _ (Nat.le_refl _)), Nat.le_refl _, ?_⟩
        refine Tin.reg_done (by kernel_rfl) ?_
        go_wp2_with fail
        go_roundw
        case rel => exact ⟨i + 1, by omega, by go_num, ⟨(other1 (show w.heap.size ≠ w.heap.size + 2 by omega)).trans Hq.out, (other1 (show (w.heap.size + 1) ≠ w.heap.size + 2 by omega)).trans Hb.out, HS.out _ HV.out, (other1 (show g3 ≠ w.heap.size + 2 by omega)).trans Hs.out, (other1 (show g4 ≠ w.heap.size + 2 by omega)).trans Ht.out⟩, ⟨by simpa [World.setCell] using lq, by simpa [World.setCell] using lb, by simpa [World.setCell] using lr, by simpa [World.setCell] using ls, by simpa [World.setCell] using lt⟩, (show Below w.heap.size w (wr.setCell ⟨w.heap.size + 2, i, none⟩ (.int .i64 (nth b i))).drew.drew from (bset hB _ _ _ (by omega)).drew.drew)⟩
        case measure => simp [intOf]; omega
      · have HV := Lib.hid (show nth r i = max (nth r i) (nth b i) by omega)
        go_wp2_with fail
        refine Tin.reg_begin (w.heap.size + 2) 10 (by rfl) (by kernel_rfl) ?_
        refine Tin.reg_quiets [0, 1, 2, 4, 5, 6] _ 4 rfl (by simp only [Tin.pick, List.map_cons, List.map_nil, Array.getD_eq_getD_getElem?, List.getElem?_toArray, List.getElem?_cons_zero, List.getElem?_cons_succ, Option.getD_some]; rfl) (by kernel_rfl) (by kernel_rfl) ?_
        repeat (first | go_big_quiet_step (fail))
        refine wpQuiet_nil ?_
        refine Tin.reg_one 3 _ rfl (by kernel_rfl) ?_
        try simp only [List.getElem_toArray, List.getElem_cons_succ, List.getElem_cons_zero]
        go_wp2_with fail
        refine ⟨w.heap.size + 2, Below.refl _ _, Nat.le_refl _, ?_⟩
        refine Tin.reg_quiets [7, 8] _ 1 rfl (by simp only [Tin.pick, List.map_cons, List.map_nil, Array.getD_eq_getD_getElem?, List.getElem?_toArray, List.getElem?_cons_zero, List.getElem?_cons_succ, Option.getD_some]; rfl) (by kernel_rfl) (by kernel_rfl) ?_
        repeat (first | go_big_quiet_step (fail))
        refine wpQuiet_nil ?_
        refine Tin.reg_one 9 _ rfl (by kernel_rfl) ?_
        try simp only [List.getElem_toArray, List.getElem_cons_succ, List.getElem_cons_zero]
        go_wp2_with fail
        refine ⟨w.heap.size + 2, (show Below (w.heap.size + 2) wr.drew.drew (wr.drew.drew.setCell ⟨w.heap.size + 2, i, none⟩ (.int .i64 (nth r i))) from bset (Below.refl _ _) _ _ _ (Nat.le_refl _)), Nat.le_refl _, ?_⟩
        refine Tin.reg_done (by kernel_rfl) ?_
        go_wp2_with fail
        go_roundw
        case rel => exact ⟨i + 1, by omega, by go_num, ⟨(other1 (show w.heap.size ≠ w.heap.size + 2 by omega)).trans Hq.out, (other1 (show (w.heap.size + 1) ≠ w.heap.size + 2 by omega)).trans Hb.out, HS.out _ HV.out, (other1 (show g3 ≠ w.heap.size + 2 by omega)).trans Hs.out, (other1 (show g4 ≠ w.heap.size + 2 by omega)).trans Ht.out⟩, ⟨by simpa [World.setCell] using lq, by simpa [World.setCell] using lb, by simpa [World.setCell] using lr, by simpa [World.setCell] using ls, by simpa [World.setCell] using lt⟩, (show Below w.heap.size w (wr.setCell ⟨w.heap.size + 2, i, none⟩ (.int .i64 (nth r i))).drew.drew from (bset hB _ _ _ (by omega)).drew.drew)⟩
        case measure => simp [intOf]; omega
    · obtain rfl : i = 64 := by omega
      have HLR := Lib.hid (show (mxL r b).length = 64 from mxP_len r b 64)
      have e9 : mxP r b 64 = mxL r b := rfl
      rw [e9] at Hr
      clear e9
      generalize mxL r b = rv at *
      obtain ⟨xv, er, hxv, hxr, C6⟩ := C4.out wr
      have HLx := Lib.hid hxv
      have C6 := Lib.hid C6
      clear hxv C4
      go_wp2_with (first | ((with_reducible refine wpl_load_row rtB ?_ (.tmp 6) ?_ ((w.heap.size + 1)) ?_ 23 (arr .i64 b) ?_ ?_ ?_); rfl; rfl; rfl; simp [HLb.out]; exact Hb.out; simp only [Act.put, List.setIfInBounds_toArray, List.set_cons_succ, List.set_cons_zero]) | ((with_reducible refine wpl_load_row rtB ?_ (.tmp 5) ?_ (w.heap.size) ?_ 23 (arr .i64 q) ?_ ?_ ?_); rfl; rfl; rfl; simp [HLq.out]; exact Hq.out; simp only [Act.put, List.setIfInBounds_toArray, List.set_cons_succ, List.set_cons_zero]))
      refine C6.out.mono ?_
      rintro e w10 ⟨rfl, hb⟩
      replace Hq := Lib.hid ((hb.block _ lq).trans Hq.out)
      replace Hb := Lib.hid ((hb.block _ lb).trans Hb.out)
      replace Hr := Lib.hid ((hb.block _ lr).trans Hr.out)
      replace Hs := Lib.hid ((hb.block _ ls).trans Hs.out)
      replace Ht := Lib.hid ((hb.block _ lt).trans Ht.out)
      replace lq := Nat.lt_of_lt_of_le lq hb.size
      replace lb := Nat.lt_of_lt_of_le lb hb.size
      replace lr := Nat.lt_of_lt_of_le lr hb.size
      replace ls := Nat.lt_of_lt_of_le ls hb.size
      replace lt := Nat.lt_of_lt_of_le lt hb.size
      replace hB := bt hB hb
      clear hb
      go_wp2_with (first | (((with_reducible refine wpl_store_row rtB ?_ (.tmp 18) (.tmp 106) ?_ (w10.heap.size) ?_ (arr .i64 xv) ?_ arr_one 23 ?_ _ ?_ (heap_alloc_new _ _) ?_); rfl; rfl; rfl; rfl; simp [HLx.out]; simp [zer_len]; intro w11 hr hg hs; (try simp only [Act.put])); have hb : Below w10.heap.size w10 w11 := (ba (brefl w10) _).grown hg (by simp) (fun k hk => by cases hk; exact Nat.le_refl _); have Jx := Lib.hid hr; have lx : w10.heap.size < w11.heap.size := (by rw [hs]; simp); have Jq := Lib.hid ((hb.block _ lq).trans Hq.out); have Jb := Lib.hid ((hb.block _ lb).trans Hb.out); have Jr := Lib.hid ((hb.block _ lr).trans Hr.out); have Js := Lib.hid ((hb.block _ ls).trans Hs.out); have Jt := Lib.hid ((hb.block _ lt).trans Ht.out); clear hr hg hs) | ((with_reducible refine wpl_load_row rtB ?_ (.tmp 7) ?_ ((w.heap.size + 2)) ?_ 23 (arr .i64 rv) ?_ ?_ ?_); rfl; rfl; rfl; simp [HLR.out]; exact Jr.out; simp only [Act.put, List.setIfInBounds_toArray, List.set_cons_succ, List.set_cons_zero]) | ((with_reducible refine wpl_load_row rtB ?_ (.tmp 5) ?_ (w.heap.size) ?_ 23 (arr .i64 q) ?_ ?_ ?_); rfl; rfl; rfl; simp [HLq.out]; exact Jq.out; simp only [Act.put, List.setIfInBounds_toArray, List.set_cons_succ, List.set_cons_zero]))
      replace Hq := Jq
      clear Jq
      replace lq := Nat.lt_of_lt_of_le lq hb.size
      replace Hb := Jb
      clear Jb
      replace lb := Nat.lt_of_lt_of_le lb hb.size
      replace Hr := Jr
      clear Jr
      replace lr := Nat.lt_of_lt_of_le lr hb.size
      replace Hs := Js
      clear Js
      replace ls := Nat.lt_of_lt_of_le ls hb.size
      replace Ht := Jt
      clear Jt
      replace lt := Nat.lt_of_lt_of_le lt hb.size
      have Hx := Jx
      clear Jx
      replace hB := bt hB hb
      clear hb
      generalize w10.heap.size = g6 at *
      obtain ⟨yv, es, hyv, hyr, C7⟩ := C5.out w11
      have HLy := Lib.hid hyv
      have C7 := Lib.hid C7
      clear hyv C5
      refine C7.out.mono ?_
      rintro e w12 ⟨rfl, hb⟩
      replace Hx := Lib.hid ((hb.block _ lx).trans Hx.out)
      replace lx := Nat.lt_of_lt_of_le lx hb.size
      replace hB := bt hB hb
      clear hb Hq Hb Hr Hs Ht lq lb lr ls lt
      go_wp2_with (((with_reducible refine wpl_store_row rtB ?_ (.tmp 20) (.tmp 112) ?_ (w12.heap.size) ?_ (arr .i64 yv) ?_ arr_one 23 ?_ _ ?_ (heap_alloc_new _ _) ?_); rfl; rfl; rfl; rfl; simp [HLy.out]; simp [zer_len]; intro w13 hr hg hs; (try simp only [Act.put])); have hb : Below w12.heap.size w12 w13 := (ba (brefl w12) _).grown hg (by simp) (fun k hk => by cases hk; exact Nat.le_refl _); have Jy := Lib.hid hr; have ly : w12.heap.size < w13.heap.size := (by rw [hs]; simp); have Jx := Lib.hid ((hb.block _ lx).trans Hx.out); clear hr hg hs)
      replace Hx := Jx
      clear Jx
      replace lx := Nat.lt_of_lt_of_le lx hb.size
      have Hy := Jy
      clear Jy
      replace hB := bt hB hb
      clear hb
      generalize w12.heap.size = g7 at *
      have HD := Lib.hid (show er = 0 → es = 0 → ∀ i, i < 64 → nth xv i ≤ nth yv i from by
        rintro rfl rfl i hi
        rcases hxr with ⟨_, rfl, hd⟩ | h
        · rcases hyr with ⟨_, rfl⟩ | h
          · exact HDm.out hd i hi
          · cases h
        · cases h)
      have her : er = 0 ∨ er = 1 := by rcases hxr with ⟨h, _⟩ | h; exact .inl h; exact .inr h
      have hes : es = 0 ∨ es = 1 := by rcases hyr with ⟨h, _⟩ | h; exact .inl h; exact .inr h
      clear hxr hyr
      rcases her with rfl | rfl
      · rcases hes with rfl | rfl
        · go_loopw [22] (fun s22 wr => ∃ (i : Nat), i ≤ 64 ∧ s22 = .int .i64 (i : Int) ∧ wr.heap[g6]? = some (.cells (arr .i64 xv) 23 (0, 0)) ∧ g6 < wr.heap.size ∧ wr.heap[g7]? = some (.cells (arr .i64 yv) 23 (0, 0)) ∧ g7 < wr.heap.size ∧ Below w.heap.size w wr) (fun s22 _ => 64 - (intOf s22).toNat)
          case atStart => exact ⟨0, by omega, rfl, Hx.out, lx, Hy.out, ly, hB⟩
          case round =>
            clear Hx Hy lx ly hB
            obtain ⟨i, hi, rfl, hx, lx, hy, ly, hB⟩ := hrel
            by_cases hi64 : i < 64
            · have i1 : (i : Int) < 64 := by omega
              have kx := row_cell hx i (arr_get i (by rw [HLx.out]; exact hi64))
              have ky := row_cell hy i (arr_get i (by rw [HLy.out]; exact hi64))
              have Hx := Lib.hid hx
              have Hy := Lib.hid hy
              have hmo := HD.out rfl rfl i hi64
              have dmo : decide (nth yv i < nth xv i) = false := by simpa using hmo
              have lift : ∀ (g : Nat) (v : Value), g < wr.heap.size → wr.cell? ⟨g, i, none⟩ = some v → ∀ p : Bel wr.heap.size wr.drew, p.w'.cell? ⟨g, i, none⟩ = some v := fun g v hg hc p => (p.h.cell (p := ⟨g, i, none⟩) hg).trans hc
              have f1 := lift _ _ lx kx
              have f2 := lift _ _ ly ky
              clear lift kx ky hx hy
              go_wp2_with fail
              refine Tin.reg_begin wr.heap.size 7 (by rfl) (by kernel_rfl) ?_
              refine Tin.reg_quiets [0, 1, 2, 3, 4, 5, 6] _ 0 rfl (by simp only [Tin.pick, List.map_cons, List.map_nil, Array.getD_eq_getD_getElem?, List.getElem?_toArray, List.getElem?_cons_zero, List.getElem?_cons_succ, Option.getD_some]; rfl) (by kernel_rfl) (by kernel_rfl) ?_
              repeat (first | go_big_quiet_step (fail))
              refine wpQuiet_nil ?_
              refine Tin.reg_done (by kernel_rfl) ?_
              go_wp2_with fail
              go_roundw
              case rel => exact ⟨i + 1, by omega, by go_num, Hx.out, lx, Hy.out, ly, hB.drew⟩
              case measure => simp [intOf]; omega
            · obtain rfl : i = 64 := by omega
              clear hx hy
              go_wp2_with fail
              refine (awake_any _).mono ?_
              rintro e w14 ⟨rfl, hb14⟩
              go_wp2_with fail
              go_ret
              exact ⟨rfl, bt hB hb14⟩
        · go_loopw [22] (fun s22 wr => s22 = .int .i64 0 ∧ Below w.heap.size w wr) (fun s22 _ => 0)
          case atStart => exact ⟨rfl, hB⟩
          case round =>
            clear Hx Hy lx ly hB
            obtain ⟨rfl, hB⟩ := hrel
            go_wp2_with fail
            refine (awake_any _).mono ?_
            rintro e w14 ⟨rfl, hb14⟩
            go_wp2_with fail
            go_ret
            exact ⟨rfl, bt hB hb14⟩
      · go_loopw [22] (fun s22 wr => s22 = .int .i64 0 ∧ Below w.heap.size w wr) (fun s22 _ => 0)
        case atStart => exact ⟨rfl, hB⟩
        case round =>
          clear Hx Hy lx ly hB
          obtain ⟨rfl, hB⟩ := hrel
          go_wp2_with fail
          refine (awake_any _).mono ?_
          rintro e w14 ⟨rfl, hb14⟩
          go_wp2_with fail
          go_ret
          exact ⟨rfl, bt hB hb14⟩

set_option maxRecDepth 100000 in
set_option maxHeartbeats 4000000 in
theorem qorder_any (q b r : List Int) (n m : Int) (w : World) (hq : q.length = 64) (_wq : ∀ z ∈ q, (Lit.int .i64 z).wf = true) (hb : b.length = 64) (_wb : ∀ z ∈ b, (Lit.int .i64 z).wf = true) (hr : r.length = 64) (_wr : ∀ z ∈ r, (Lit.int .i64 z).wf = true) (_wn : (Lit.int .i64 n).wf = true) (_wm : (Lit.int .i64 m).wf = true) :
    Calls Try.prog 4 #[.agg (arr .i64 q), .agg (arr .i64 b), .agg (arr .i64 r), .int .i64 n, .int .i64 m] w fun e w' => e = .returned (.bool true) ∧ Below w.heap.size w w' := by
  have HLq := Lib.hid hq
  have HM := Lib.hid (fun W => may_any q hq W)
  by_cases hy : inL q 1 255 = true ∧ 1 ≤ n ∧ n ≤ m ∧ m ≤ 100
  · exact order_yes q b r n m w hq hb hr hy.1 hy.2.1 hy.2.2.1 hy.2.2.2
  have hc : inL q 1 255 = false ∨ (inL q 1 255 = true ∧ decide (n < 1) = true) ∨ (inL q 1 255 = true ∧ decide (n < 1) = false ∧ decide (m < n) = true) ∨ (inL q 1 255 = true ∧ decide (n < 1) = false ∧ decide (m < n) = false ∧ decide (100 < m) = true) := by
    cases h1 : inL q 1 255
    · exact .inl rfl
    · refine .inr ?_
      rw [h1] at hy
      simp only [true_and] at hy
      simp only [decide_eq_true_eq, decide_eq_false_iff_not, true_and]
      omega
  clear hy hq hb hr _wq _wb _wr _wn _wm
  go_enter Try.func4, Try.ntmps4
  obtain ⟨g0, g1, g2, hB, hz⟩ := alloc3 w (.cells (arr .i64 q) 23) (.cells (arr .i64 b) 23) (.cells (arr .i64 r) 23)
  replace g0 := Lib.hid g0
  clear g1 g2
  go_wp2_with ((with_reducible refine wpl_load_row rtB ?_ (.tmp 5) ?_ (w.heap.size) ?_ 23 (arr .i64 q) ?_ ?_ ?_); rfl; rfl; rfl; simp [HLq.out]; exact g0.out; simp only [Act.put, List.setIfInBounds_toArray, List.set_cons_succ, List.set_cons_zero])
  refine (HM.out _).mono ?_
  rintro e w1 ⟨rfl, hb⟩
  replace hB := bt hB hb
  clear hb g0 hz
  rcases hc with c1 | ⟨c1, c2⟩ | ⟨c1, c2, c3⟩ | ⟨c1, c2, c3, c4⟩
  all_goals
    rw [c1]
    go_wp2_with fail
    refine (awake_any _).mono ?_
    rintro e w2 ⟨rfl, hb2⟩
    go_wp2_with fail
    go_ret
    exact ⟨rfl, bt hB hb2⟩
end Go.Proofs.Ytaahphocoedmdaa
