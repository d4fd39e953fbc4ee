/- The walk of QuantNearest. -/
import Derived.Test.YtaahphocoedmdaaQuNm
import Derived.Test.YtaahphocoedmdaaQuL
namespace Go.Proofs.Ytaahphocoedmdaa
open Go.RowKit
open Go.Tin
set_option linter.unusedVariables false
set_option linter.unusedSimpArgs false


set_option maxRecDepth 100000 in
set_option maxHeartbeats 8000000 in
theorem nearest_no (b q : List Int) (w : World) (hb : b.length = 64) (hq : q.length = 64) (hno : doneB b q = false) :
    Calls Try.prog 6 #[.agg (arr .i64 b), .agg (arr .i64 q)] w fun e w' => e = .returned (.bool true) ∧ Below w.heap.size w w' := by
  have HLb := Lib.hid hb
  have HLq := Lib.hid hq
  have HDv := Lib.hid (fun W => divide_any b q hb hq W)
  rw [show doL nearI b q = zer by unfold doL; rw [if_neg (by rw [hno]; decide)], show doE b q = 1 by unfold doE; rw [if_neg (by rw [hno]; decide)]] at HDv
  clear hb hq hno
  go_enter Try.func6, Try.ntmps6
  obtain ⟨g0, g1, hB, hz⟩ := alloc2 w (.cells (arr .i64 b) 23) (.cells (arr .i64 q) 23)
  replace g0 := Lib.hid g0
  replace g1 := Lib.hid g1
  go_wp2_with (first | ((with_reducible refine wpl_load_row rtB ?_ (.tmp 2) ?_ (w.heap.size) ?_ 23 (arr .i64 b) ?_ ?_ ?_); rfl; rfl; rfl; simp [HLb.out]; exact g0.out; simp only [Act.put, List.setIfInBounds_toArray, List.set_cons_succ, List.set_cons_zero]) | ((with_reducible refine wpl_load_row rtB ?_ (.tmp 3) ?_ (w.heap.size + 1) ?_ 23 (arr .i64 q) ?_ ?_ ?_); rfl; rfl; rfl; simp [HLq.out]; exact g1.out; simp only [Act.put, List.setIfInBounds_toArray, List.set_cons_succ, List.set_cons_zero]))
  refine (HDv.out _).mono ?_
  rintro e w1 ⟨rfl, hb1⟩
  replace hB := bt hB hb1
  clear hb1 g0 g1
  go_wp2_with (first | (((with_reducible refine wpl_store_row rtB ?_ (.tmp 5) (.tmp 23) ?_ (w1.heap.size) ?_ (arr .i64 zer) ?_ arr_one 23 ?_ _ ?_ (heap_alloc_new _ _) ?_); rfl; rfl; rfl; rfl; simp [zer_len]; simp [zer_len]; intro w2 hr hg hs; (try simp only [Act.put])); have hb2 : Below w1.heap.size w1 w2 := (ba (brefl w1) _).grown hg (by simp) (fun k hk => by cases hk; exact Nat.le_refl _); have J := Lib.hid hr; clear hr hg hs) | ((with_reducible refine wpl_load_row rtB ?_ (.tmp 5) ?_ (w1.heap.size) ?_ 23 (arr .i64 zer) ?_ ?_ ?_); rfl; rfl; rfl; simp [zer_len]; exact J.out; simp only [Act.put, List.setIfInBounds_toArray, List.set_cons_succ, List.set_cons_zero]) | ((with_reducible refine wpl_eq_arr (l := zer) (l' := zer) at27 eqB ?_ (.tmp 27) (.tmp 28) 23 ?_ ?_ ?_ zer_len zer_len true (by simp) ?_); rfl; rfl; rfl; rfl; simp only [Act.put, List.setIfInBounds_toArray, List.set_cons_succ, List.set_cons_zero]))
  refine (awake_any _).mono ?_
  rintro e w3 ⟨rfl, hb3⟩
  go_wp2_with fail
  go_ret
  exact ⟨rfl, bt (bt hB hb2) hb3⟩

set_option maxRecDepth 100000 in
set_option maxHeartbeats 16000000 in
theorem nearest_yes (b q : List Int) (w : World) (hb : b.length = 64) (hq : q.length = 64) (hyes : doneB b q = true) :
    Calls Try.prog 6 #[.agg (arr .i64 b), .agg (arr .i64 q)] w fun e w' => e = .returned (.bool true) ∧ Below w.heap.size w w' := by
  have HLb := Lib.hid hb
  have HLq := Lib.hid hq
  have HLd := Lib.hid (eachL_len nearI b q)
  have HLk := Lib.hid (eachL_len mulI (eachL nearI b q) q)
  have HLm := Lib.hid (eachL_len mulI b q)
  have HLt := Lib.hid (show (negL b q).length = 64 from eachL_len _ _ _)
  have HLo := Lib.hid (eachL_len nearI (negL b q) q)
  have doY : ∀ (G : Int → Int → Int) (a : List Int), doneB a q = true → doL G a q = eachL G a q ∧ doE a q = 0 := fun G a h => by unfold doL doE; rw [if_pos h, if_pos h]; exact ⟨rfl, rfl⟩
  have C1 := Lib.hid (show ∀ W : World, Calls Try.prog 14 #[.agg (arr .i64 b), .agg (arr .i64 q)] W fun e w' => e = .returned (.tuple #[.agg (arr .i64 (eachL nearI b q)), .int .i64 0]) ∧ Below W.heap.size W w' from fun W => by have h := divide_any b q hb hq W; rw [(doY nearI b hyes).1, (doY nearI b hyes).2] at h; exact h)
  have C2 := Lib.hid (show ∀ W : World, Calls Try.prog 15 #[.agg (arr .i64 (eachL nearI b q)), .agg (arr .i64 q)] W fun e w' => e = .returned (.tuple #[.agg (arr .i64 (eachL mulI (eachL nearI b q) q)), .int .i64 0]) ∧ Below W.heap.size W w' from fun W => by have h := multiply_any (eachL nearI b q) q (by simp) hq W; rw [(doY mulI _ (done_near hb hq hyes)).1, (doY mulI _ (done_near hb hq hyes)).2] at h; exact h)
  have C3 := Lib.hid (show ∀ W : World, Calls Try.prog 15 #[.agg (arr .i64 b), .agg (arr .i64 q)] W fun e w' => e = .returned (.tuple #[.agg (arr .i64 (eachL mulI b q)), .int .i64 0]) ∧ Below W.heap.size W w' from fun W => by have h := multiply_any b q hb hq W; rw [(doY mulI b hyes).1, (doY mulI b hyes).2] at h; exact h)
  have C4 := Lib.hid (show ∀ W : World, Calls Try.prog 14 #[.agg (arr .i64 (negL b q)), .agg (arr .i64 q)] W fun e w' => e = .returned (.tuple #[.agg (arr .i64 (eachL nearI (negL b q) q)), .int .i64 0]) ∧ Below W.heap.size W w' from fun W => by have h := divide_any (negL b q) q (by simp [negL]) hq W; rw [(doY nearI _ (done_neg hb hq hyes)).1, (doY nearI _ (done_neg hb hq hyes)).2] at h; exact h)
  have C5 := Lib.hid (show ∀ W : World, ∃ (av : List Int) (er : Int), av.length = 64 ∧ ((er = 0 ∧ av = b) ∨ er = 1) ∧ Calls Try.prog 14 #[.agg (arr .i64 (eachL mulI b q)), .agg (arr .i64 q)] W fun e w' => e = .returned (.tuple #[.agg (arr .i64 av), .int .i64 er]) ∧ Below W.heap.size W w' from fun W => by
    have h := divide_any (eachL mulI b q) q (by simp) hq W
    refine ⟨_, _, doL_len _ _ _, ?_, h⟩
    by_cases hd : doneB (eachL mulI b q) q = true
    · exact .inl ⟨(doY nearI _ hd).2, by rw [(doY nearI _ hd).1]; exact near_again hb hq hyes⟩
    · exact .inr (by unfold doE; rw [if_neg hd]))
  have HV := Lib.hid (fun i (hi : i < 64) => doneB_bd hb hq hyes i hi)
  have HNk := Lib.hid (fun i (hi : i < 64) => eachL_nth mulI (eachL nearI b q) q i hi)
  have HNd := Lib.hid (fun i (hi : i < 64) => eachL_nth nearI b q i hi)
  have HNm := Lib.hid (fun i (hi : i < 64) => eachL_nth mulI b q i hi)
  have HNo := Lib.hid (fun i (hi : i < 64) => neg_near hb hq hyes i hi)
  have HT0 := Lib.hid (show eachT (fun x _ => -x) b q 0 = zer from tell_zero _ _)
  have HT1 := Lib.hid (show eachT (fun x _ => -x) b q 64 = negL b q from tell_all _ _)
  clear hb hq hyes doY
  generalize eachL nearI (negL b q) q = ov at *
  generalize eachL mulI (eachL nearI b q) q = kv at *
  generalize eachL mulI b q = mv at *
  generalize eachL nearI b q = dv at *
  generalize negL b q = tv at *
  go_enter Try.func6, Try.ntmps6
  obtain ⟨g0, g1, hB, hz⟩ := alloc2 w (.cells (arr .i64 b) 23) (.cells (arr .i64 q) 23)
  replace g0 := Lib.hid g0
  replace g1 := Lib.hid g1
  go_wp2_with (first | ((with_reducible refine wpl_load_row rtB ?_ (.tmp 2) ?_ (w.heap.size) ?_ 23 (arr .i64 b) ?_ ?_ ?_); rfl; rfl; rfl; simp [HLb.out]; exact g0.out; simp only [Act.put, List.setIfInBounds_toArray, List.set_cons_succ, List.set_cons_zero]) | ((with_reducible refine wpl_load_row rtB ?_ (.tmp 3) ?_ (w.heap.size + 1) ?_ 23 (arr .i64 q) ?_ ?_ ?_); rfl; rfl; rfl; simp [HLq.out]; exact g1.out; simp only [Act.put, List.setIfInBounds_toArray, List.set_cons_succ, List.set_cons_zero]))
  generalize hW0 : (w.alloc _).alloc _ = W0
  have Hb := Lib.hid (show W0.heap[w.heap.size]? = some (.cells (arr .i64 b) 23 (0, 0)) by rw [← hW0]; exact g0.out)
  have Hq := Lib.hid (show W0.heap[w.heap.size + 1]? = some (.cells (arr .i64 q) 23 (0, 0)) by rw [← hW0]; exact g1.out)
  replace hB : Below w.heap.size w W0 := by rw [← hW0]; exact hB
  have lb : w.heap.size < W0.heap.size := by rw [← hW0, hz]; omega
  have lq : w.heap.size + 1 < W0.heap.size := by rw [← hW0, hz]; omega
  clear hW0 g0 g1 hz
  refine (C1.out _).mono ?_
  rintro e w1 ⟨rfl, hb⟩
  replace Hb := Lib.hid ((hb.block _ lb).trans Hb.out)
  replace Hq := Lib.hid ((hb.block _ lq).trans Hq.out)
  replace lb := Nat.lt_of_lt_of_le lb hb.size
  replace lq := Nat.lt_of_lt_of_le lq hb.size
  replace hB := bt hB hb
  clear hb
  go_wp2_with (first | (((with_reducible refine wpl_store_row rtB ?_ (.tmp 5) (.tmp 23) ?_ (w1.heap.size) ?_ (arr .i64 dv) ?_ arr_one 23 ?_ _ ?_ (heap_alloc_new _ _) ?_); rfl; rfl; rfl; rfl; simp [HLd.out]; simp [zer_len]; intro w2 hr hg hs; (try simp only [Act.put])); have hb : Below w1.heap.size w1 w2 := (ba (brefl w1) _).grown hg (by simp) (fun k hk => by cases hk; exact Nat.le_refl _); have Jd := Lib.hid hr; have ld : w1.heap.size < w2.heap.size := (by rw [hs]; simp); have Jb := Lib.hid ((hb.block _ lb).trans Hb.out); have Jq := Lib.hid ((hb.block _ lq).trans Hq.out); clear hr hg hs) | ((with_reducible refine wpl_load_row rtB ?_ (.tmp 5) ?_ (w1.heap.size) ?_ 23 (arr .i64 dv) ?_ ?_ ?_); rfl; rfl; rfl; simp [HLd.out]; exact Jd.out; simp only [Act.put, List.setIfInBounds_toArray, List.set_cons_succ, List.set_cons_zero]) | ((with_reducible refine wpl_load_row rtB ?_ (.tmp 3) ?_ ((w.heap.size + 1)) ?_ 23 (arr .i64 q) ?_ ?_ ?_); rfl; rfl; rfl; simp [HLq.out]; exact Jq.out; simp only [Act.put, List.setIfInBounds_toArray, List.set_cons_succ, List.set_cons_zero]))
  replace Hb := Jb
  clear Jb
  replace lb := Nat.lt_of_lt_of_le lb hb.size
  replace Hq := Jq
  clear Jq
  replace lq := Nat.lt_of_lt_of_le lq hb.size
  have Hd := Jd
  clear Jd
  replace hB := bt hB hb
  clear hb
  generalize w1.heap.size = g2 at *
  refine (C2.out _).mono ?_
  rintro e w3 ⟨rfl, hb⟩
  replace Hb := Lib.hid ((hb.block _ lb).trans Hb.out)
  replace Hq := Lib.hid ((hb.block _ lq).trans Hq.out)
  replace Hd := Lib.hid ((hb.block _ ld).trans Hd.out)
  replace lb := Nat.lt_of_lt_of_le lb hb.size
  replace lq := Nat.lt_of_lt_of_le lq hb.size
  replace ld := Nat.lt_of_lt_of_le ld hb.size
  replace hB := bt hB hb
  clear hb
  go_wp2_with (first | (((with_reducible refine wpl_store_row rtB ?_ (.tmp 7) (.tmp 37) ?_ (w3.heap.size) ?_ (arr .i64 kv) ?_ arr_one 23 ?_ _ ?_ (heap_alloc_new _ _) ?_); rfl; rfl; rfl; rfl; simp [HLk.out]; simp [zer_len]; intro w4 hr hg hs; (try simp only [Act.put])); have hb : Below w3.heap.size w3 w4 := (ba (brefl w3) _).grown hg (by simp) (fun k hk => by cases hk; exact Nat.le_refl _); have Jk := Lib.hid hr; have lk : w3.heap.size < w4.heap.size := (by rw [hs]; simp); have Jb := Lib.hid ((hb.block _ lb).trans Hb.out); have Jq := Lib.hid ((hb.block _ lq).trans Hq.out); have Jd := Lib.hid ((hb.block _ ld).trans Hd.out); clear hr hg hs) | ((with_reducible refine wpl_load_row rtB ?_ (.tmp 2) ?_ (w.heap.size) ?_ 23 (arr .i64 b) ?_ ?_ ?_); rfl; rfl; rfl; simp [HLb.out]; exact Jb.out; simp only [Act.put, List.setIfInBounds_toArray, List.set_cons_succ, List.set_cons_zero]) | ((with_reducible refine wpl_load_row rtB ?_ (.tmp 3) ?_ ((w.heap.size + 1)) ?_ 23 (arr .i64 q) ?_ ?_ ?_); rfl; rfl; rfl; simp [HLq.out]; exact Jq.out; simp only [Act.put, List.setIfInBounds_toArray, List.set_cons_succ, List.set_cons_zero]))
  replace Hb := Jb
  clear Jb
  replace lb := Nat.lt_of_lt_of_le lb hb.size
  replace Hq := Jq
  clear Jq
  replace lq := Nat.lt_of_lt_of_le lq hb.size
  replace Hd := Jd
  clear Jd
  replace ld := Nat.lt_of_lt_of_le ld hb.size
  have Hk := Jk
  clear Jk
  replace hB := bt hB hb
  clear hb
  generalize w3.heap.size = g3 at *
  refine (C3.out _).mono ?_
  rintro e w5 ⟨rfl, hb⟩
  replace Hb := Lib.hid ((hb.block _ lb).trans Hb.out)
  replace Hq := Lib.hid ((hb.block _ lq).trans Hq.out)
  replace Hd := Lib.hid ((hb.block _ ld).trans Hd.out)
  replace Hk := Lib.hid ((hb.block _ lk).trans Hk.out)
  replace lb := Nat.lt_of_lt_of_le lb hb.size
  replace lq := Nat.lt_of_lt_of_le lq hb.size
  replace ld := Nat.lt_of_lt_of_le ld hb.size
  replace lk := Nat.lt_of_lt_of_le lk hb.size
  replace hB := bt hB hb
  clear hb
  go_wp2_with (((with_reducible refine wpl_store_row rtB ?_ (.tmp 9) (.tmp 43) ?_ (w5.heap.size) ?_ (arr .i64 mv) ?_ arr_one 23 ?_ _ ?_ (heap_alloc_new _ _) ?_); rfl; rfl; rfl; rfl; simp [HLm.out]; simp [zer_len]; intro w6 hr hg hs; (try simp only [Act.put])); have hb : Below w5.heap.size w5 w6 := (ba (brefl w5) _).grown hg (by simp) (fun k hk => by cases hk; exact Nat.le_refl _); have Jm := Lib.hid hr; have lm : w5.heap.size < w6.heap.size := (by rw [hs]; simp); have Jb := Lib.hid ((hb.block _ lb).trans Hb.out); have Jq := Lib.hid ((hb.block _ lq).trans Hq.out); have Jd := Lib.hid ((hb.block _ ld).trans Hd.out); have Jk := Lib.hid ((hb.block _ lk).trans Hk.out); clear hr hg hs)
  replace Hb := Jb
  clear Jb
  replace lb := Nat.lt_of_lt_of_le lb hb.size
  replace Hq := Jq
  clear Jq
  replace lq := Nat.lt_of_lt_of_le lq hb.size
  replace Hd := Jd
  clear Jd
  replace ld := Nat.lt_of_lt_of_le ld hb.size
  replace Hk := Jk
  clear Jk
  replace lk := Nat.lt_of_lt_of_le lk hb.size
  have Hm := Jm
  clear Jm
  replace hB := bt hB hb
  clear hb
  generalize w5.heap.size = g4 at *
  have neb : w.heap.size ≠ w6.heap.size := Nat.ne_of_lt lb
  have neq : (w.heap.size + 1) ≠ w6.heap.size := Nat.ne_of_lt lq
  have ned : g2 ≠ w6.heap.size := Nat.ne_of_lt ld
  have nek : g3 ≠ w6.heap.size := Nat.ne_of_lt lk
  have nem : g4 ≠ w6.heap.size := Nat.ne_of_lt lm
  have lw : w.heap.size ≤ w6.heap.size := hB.size
  have hal := ba (brefl w6) (.cells (arr .i64 zer) 23)
  have Ht0 := Lib.hid (heap_alloc_new w6 (.cells (arr .i64 zer) 23))
  have lt0 : w6.heap.size < (w6.alloc (.cells (arr .i64 zer) 23)).heap.size := by simp
  replace Hb := Lib.hid ((hal.block _ lb).trans Hb.out)
  replace Hq := Lib.hid ((hal.block _ lq).trans Hq.out)
  replace Hd := Lib.hid ((hal.block _ ld).trans Hd.out)
  replace Hk := Lib.hid ((hal.block _ lk).trans Hk.out)
  replace Hm := Lib.hid ((hal.block _ lm).trans Hm.out)
  replace lb := Nat.lt_of_lt_of_le lb hal.size
  replace lq := Nat.lt_of_lt_of_le lq hal.size
  replace ld := Nat.lt_of_lt_of_le ld hal.size
  replace lk := Nat.lt_of_lt_of_le lk hal.size
  replace lm := Nat.lt_of_lt_of_le lm hal.size
  replace hB := bt hB hal
  rw [← HT0.out] at Ht0
  generalize hW7 : w6.alloc _ = w7
  replace Hb := Lib.hid (show w7.heap[w.heap.size]? = some (.cells (arr .i64 b) 23 (0, 0)) by rw [← hW7]; exact Hb.out)
  replace lb : w.heap.size < w7.heap.size := by rw [← hW7]; exact lb
  replace Hq := Lib.hid (show w7.heap[(w.heap.size + 1)]? = some (.cells (arr .i64 q) 23 (0, 0)) by rw [← hW7]; exact Hq.out)
  replace lq : (w.heap.size + 1) < w7.heap.size := by rw [← hW7]; exact lq
  replace Hd := Lib.hid (show w7.heap[g2]? = some (.cells (arr .i64 dv) 23 (0, 0)) by rw [← hW7]; exact Hd.out)
  replace ld : g2 < w7.heap.size := by rw [← hW7]; exact ld
  replace Hk := Lib.hid (show w7.heap[g3]? = some (.cells (arr .i64 kv) 23 (0, 0)) by rw [← hW7]; exact Hk.out)
  replace lk : g3 < w7.heap.size := by rw [← hW7]; exact lk
  replace Hm := Lib.hid (show w7.heap[g4]? = some (.cells (arr .i64 mv) 23 (0, 0)) by rw [← hW7]; exact Hm.out)
  replace lm : g4 < w7.heap.size := by rw [← hW7]; exact lm
  replace Ht0 := Lib.hid (show w7.heap[w6.heap.size]? = some (.cells (arr .i64 (eachT (fun x _ => -x) b q 0)) 23 (0, 0)) by rw [← hW7]; exact Ht0.out)
  replace lt0 : w6.heap.size < w7.heap.size := by rw [← hW7]; exact lt0
  replace hB : Below w.heap.size w w7 := by rw [← hW7]; exact hB
  clear hal hW7
  generalize w6.heap.size = g5 at *
  go_loopw [12] (fun s12 wr => ∃ (i : Nat), i ≤ 64 ∧ s12 = .int .i64 (i : Int) ∧ (wr.heap[w.heap.size]? = some (.cells (arr .i64 b) 23 (0, 0)) ∧ wr.heap[(w.heap.size + 1)]? = some (.cells (arr .i64 q) 23 (0, 0)) ∧ wr.heap[g2]? = some (.cells (arr .i64 dv) 23 (0, 0)) ∧ wr.heap[g3]? = some (.cells (arr .i64 kv) 23 (0, 0)) ∧ wr.heap[g4]? = some (.cells (arr .i64 mv) 23 (0, 0))) ∧ (w.heap.size < wr.heap.size ∧ (w.heap.size + 1) < wr.heap.size ∧ g2 < wr.heap.size ∧ g3 < wr.heap.size ∧ g4 < wr.heap.size) ∧ wr.heap[g5]? = some (.cells (arr .i64 (eachT (fun x _ => -x) b q i)) 23 (0, 0)) ∧ g5 < wr.heap.size ∧ Below w.heap.size w wr) (fun s12 _ => 64 - (intOf s12).toNat)
  case atStart => exact ⟨0, by omega, rfl, ⟨Hb.out, Hq.out, Hd.out, Hk.out, Hm.out⟩, ⟨lb, lq, ld, lk, lm⟩, Ht0.out, lt0, hB⟩
  case round =>
    clear Ht0 lt0 Hb lb Hq lq Hd ld Hk lk Hm lm
    obtain ⟨i, hi, rfl, ⟨hb, hq, hd, hk, hm⟩, ⟨lb, lq, ld, lk, lm⟩, ht, lt, hB⟩ := hrel
    have Hb := Lib.hid hb
    have Hq := Lib.hid hq
    have Hd := Lib.hid hd
    have Hk := Lib.hid hk
    have Hm := Lib.hid hm
    clear hb hq hd hk hm
    have Ht := Lib.hid ht
    clear ht
    by_cases hi64 : i < 64
    · have i1 : (i : Int) < 64 := by omega
      obtain ⟨x0, x1, y0, y1⟩ := HV.out i hi64
      have k0 := row_cell Hb.out i (arr_get i (by rw [HLb.out]; exact hi64))
      have c3 : wr.cell? ⟨g5, i, none⟩ = some (.int .i64 0) := by
        rw [row_cell Ht.out i (arr_get i (by simp; exact hi64))]
        unfold eachT
        rw [nth_tell _ _ _ _ hi64, if_neg (by omega)]
      have f3 : wr.frozen? ⟨g5, i, none⟩ = false := frozen_of_row wr g5 i _ _ Ht.out
      go_wp2_with fail
      go_roundw
      case rel => exact ⟨i + 1, by omega, by go_num, ⟨(other1 (neb)).trans Hb.out, (other1 (neq)).trans Hq.out, (other1 (ned)).trans Hd.out, (other1 (nek)).trans Hk.out, (other1 (nem)).trans Hm.out⟩, ⟨by simpa [World.setCell] using lb, by simpa [World.setCell] using lq, by simpa [World.setCell] using ld, by simpa [World.setCell] using lk, by simpa [World.setCell] using lm⟩, told1 i Ht.out _ rfl hi64, by simpa [World.setCell] using lt, bset hB _ _ _ lw⟩
      case measure => simp [intOf]; omega
    · obtain rfl : i = 64 := by omega
      rw [HT1.out] at Ht
      have lt := lt
      go_wp2_with (first | ((with_reducible refine wpl_load_row rtB ?_ (.tmp 11) ?_ (g5) ?_ 23 (arr .i64 tv) ?_ ?_ ?_); rfl; rfl; rfl; simp [HLt.out]; exact Ht.out; simp only [Act.put, List.setIfInBounds_toArray, List.set_cons_succ, List.set_cons_zero]) | ((with_reducible refine wpl_load_row rtB ?_ (.tmp 3) ?_ ((w.heap.size + 1)) ?_ 23 (arr .i64 q) ?_ ?_ ?_); rfl; rfl; rfl; simp [HLq.out]; exact Hq.out; simp only [Act.put, List.setIfInBounds_toArray, List.set_cons_succ, List.set_cons_zero]))
      refine (C4.out _).mono ?_
      rintro e w8 ⟨rfl, hb⟩
      replace Hb := Lib.hid ((hb.block _ lb).trans Hb.out)
      replace Hq := Lib.hid ((hb.block _ lq).trans Hq.out)
      replace Hd := Lib.hid ((hb.block _ ld).trans Hd.out)
      replace Hk := Lib.hid ((hb.block _ lk).trans Hk.out)
      replace Hm := Lib.hid ((hb.block _ lm).trans Hm.out)
      replace lb := Nat.lt_of_lt_of_le lb hb.size
      replace lq := Nat.lt_of_lt_of_le lq hb.size
      replace ld := Nat.lt_of_lt_of_le ld hb.size
      replace lk := Nat.lt_of_lt_of_le lk hb.size
      replace lm := Nat.lt_of_lt_of_le lm hb.size
      replace hB := bt hB hb
      clear hb
      go_wp2_with (((with_reducible refine wpl_store_row rtB ?_ (.tmp 13) (.tmp 59) ?_ (w8.heap.size) ?_ (arr .i64 ov) ?_ arr_one 23 ?_ _ ?_ (heap_alloc_new _ _) ?_); rfl; rfl; rfl; rfl; simp [HLo.out]; simp [zer_len]; intro w9 hr hg hs; (try simp only [Act.put])); have hb : Below w8.heap.size w8 w9 := (ba (brefl w8) _).grown hg (by simp) (fun k hk => by cases hk; exact Nat.le_refl _); have Jo := Lib.hid hr; have lo : w8.heap.size < w9.heap.size := (by rw [hs]; simp); have Jb := Lib.hid ((hb.block _ lb).trans Hb.out); have Jq := Lib.hid ((hb.block _ lq).trans Hq.out); have Jd := Lib.hid ((hb.block _ ld).trans Hd.out); have Jk := Lib.hid ((hb.block _ lk).trans Hk.out); have Jm := Lib.hid ((hb.block _ lm).trans Hm.out); clear hr hg hs)
      replace Hb := Jb
      clear Jb
      replace lb := Nat.lt_of_lt_of_le lb hb.size
      replace Hq := Jq
      clear Jq
      replace lq := Nat.lt_of_lt_of_le lq hb.size
      replace Hd := Jd
      clear Jd
      replace ld := Nat.lt_of_lt_of_le ld hb.size
      replace Hk := Jk
      clear Jk
      replace lk := Nat.lt_of_lt_of_le lk hb.size
      replace Hm := Jm
      clear Jm
      replace lm := Nat.lt_of_lt_of_le lm hb.size
      have Ho := Jo
      clear Jo
      replace hB := bt hB hb
      clear hb
      generalize w8.heap.size = g6 at *
      clear Ht lt
      go_loopw [15] (fun s15 wr => ∃ (i : Nat), i ≤ 64 ∧ s15 = .int .i64 (i : Int) ∧ (wr.heap[w.heap.size]? = some (.cells (arr .i64 b) 23 (0, 0)) ∧ wr.heap[(w.heap.size + 1)]? = some (.cells (arr .i64 q) 23 (0, 0)) ∧ wr.heap[g2]? = some (.cells (arr .i64 dv) 23 (0, 0)) ∧ wr.heap[g3]? = some (.cells (arr .i64 kv) 23 (0, 0)) ∧ wr.heap[g4]? = some (.cells (arr .i64 mv) 23 (0, 0)) ∧ wr.heap[g6]? = some (.cells (arr .i64 ov) 23 (0, 0))) ∧ (w.heap.size < wr.heap.size ∧ (w.heap.size + 1) < wr.heap.size ∧ g2 < wr.heap.size ∧ g3 < wr.heap.size ∧ g4 < wr.heap.size ∧ g6 < wr.heap.size) ∧ Below w.heap.size w wr) (fun s15 _ => 64 - (intOf s15).toNat)
      case atStart => exact ⟨0, by omega, rfl, ⟨Hb.out, Hq.out, Hd.out, Hk.out, Hm.out, Ho.out⟩, ⟨lb, lq, ld, lk, lm, lo⟩, hB⟩
      case round =>
        clear Hb lb Hq lq Hd ld Hk lk Hm lm Ho lo hB
        obtain ⟨i, hi, rfl, ⟨hb, hq, hd, hk, hm, ho⟩, ⟨lb, lq, ld, lk, lm, lo⟩, hB⟩ := hrel
        have Hb := Lib.hid hb
        have Hq := Lib.hid hq
        have Hd := Lib.hid hd
        have Hk := Lib.hid hk
        have Hm := Lib.hid hm
        have Ho := Lib.hid ho
        clear hb hq hd hk hm ho
        by_cases hi64 : i < 64
        · have i1 : (i : Int) < 64 := by omega
          obtain ⟨x0, x1, y0, y1⟩ := HV.out i hi64
          have kb := row_cell Hb.out i (arr_get i (by rw [HLb.out]; exact hi64))
          have kq := row_cell Hq.out i (arr_get i (by rw [HLq.out]; exact hi64))
          have kd := row_cell Hd.out i (arr_get i (by rw [HLd.out]; exact hi64))
          have kk := row_cell Hk.out i (arr_get i (by rw [HLk.out]; exact hi64))
          have km := row_cell Hm.out i (arr_get i (by rw [HLm.out]; exact hi64))
          have ko := row_cell Ho.out i (arr_get i (by rw [HLo.out]; exact hi64))
          rw [HNk.out i hi64] at kk
          rw [HNm.out i hi64] at km
          rw [HNo.out i hi64] at ko
          have hoff := near_off (nth b i) y0
          have hle := near_le y0 ⟨x0, x1⟩
          rw [← HNd.out i hi64] at hoff hle
          unfold mulI at kk km
          generalize nth dv i = dn at *
          generalize nth b i = bn at *
          generalize nth q i = qn at *
          obtain ⟨m0, m1⟩ := prod_bd hle.1 hle.2 (show 0 ≤ qn by omega) y1 (by decide)
          obtain ⟨p0, p1⟩ := prod_bd x0 x1 (show 0 ≤ qn by omega) y1 (by decide)
          obtain ⟨o1, o2⟩ := hoff
          obtain ⟨e1, e2⟩ := hle
          have lift : ∀ (g : Nat) (v : Value), g < wr.heap.size → wr.cell? ⟨g, i, none⟩ = some v → ∀ p : Bel wr.heap.size wr.drew, p.w'.cell? ⟨g, i, none⟩ = some v := fun g v hg hc p => (p.h.cell (p := ⟨g, i, none⟩) hg).trans hc
          have fb := lift _ _ lb kb
          have fq := lift _ _ lq kq
          have fd := lift _ _ ld kd
          have fk := lift _ _ lk kk
          have fm := lift _ _ lm km
          have fo := lift _ _ lo ko
          have lift2 : ∀ (g : Nat) (v : Value), g < wr.heap.size → wr.cell? ⟨g, i, none⟩ = some v → ∀ p : Bel wr.heap.size wr.drew.drew, p.w'.cell? ⟨g, i, none⟩ = some v := fun g v hg hc p => (p.h.cell (p := ⟨g, i, none⟩) hg).trans hc
          have rb := lift2 _ _ lb kb
          have rq := lift2 _ _ lq kq
          have rd := lift2 _ _ ld kd
          have rk := lift2 _ _ lk kk
          have rm := lift2 _ _ lm km
          have ro := lift2 _ _ lo ko
          clear lift lift2 kb kq kd kk km ko
          have dX : decide (qn < 2 * (bn - dn * qn)) = false := by simpa using o2
          have dY : decide (qn < 2 * (dn * qn - bn)) = false := by simpa using o1
          clear o1 o2
          rcases Int.lt_or_le (dn * qn - bn) (bn - dn * qn) with hlt | hlt
          all_goals
            go_wp2_with fail
            refine Tin.reg_begin wr.heap.size 17 (by rfl) (by kernel_rfl) ?_
            refine Tin.reg_quiets [0, 1, 2, 3, 4, 5, 6, 7, 8, 9, 10, 11, 12, 13, 14, 15, 16] _ 0 rfl (by simp only [Tin.pick, List.map_cons, List.map_nil, Array.getD_eq_getD_getElem?, List.getElem?_toArray, List.getElem?_cons_zero, List.getElem?_cons_succ, Option.getD_some]; rfl) (by kernel_rfl) (by kernel_rfl) ?_
            repeat (first | go_big_quiet_step (fail))
            refine wpQuiet_nil ?_
            refine Tin.reg_done (by kernel_rfl) ?_
            clear fb fq fd fk fm fo
            go_wp2_with fail
            refine Tin.reg_begin wr.heap.size 28 (by rfl) (by kernel_rfl) ?_
            refine Tin.reg_quiets [0, 1, 2, 3, 4, 5, 6, 7, 8, 9, 10, 11, 12, 13, 14, 15, 16, 17, 18, 19, 20, 21, 22, 23, 24, 25, 26, 27] _ 0 rfl (by simp only [Tin.pick, List.map_cons, List.map_nil, Array.getD_eq_getD_getElem?, List.getElem?_toArray, List.getElem?_cons_zero, List.getElem?_cons_succ, Option.getD_some]; rfl) (by kernel_rfl) (by kernel_rfl) ?_
            repeat (first | go_big_quiet_step (fail))
            refine wpQuiet_nil ?_
            refine Tin.reg_done (by kernel_rfl) ?_
            go_wp2_with fail
            go_roundw
            case rel => exact ⟨i + 1, by omega, by go_num, ⟨Hb.out, Hq.out, Hd.out, Hk.out, Hm.out, Ho.out⟩, ⟨lb, lq, ld, lk, lm, lo⟩, hB.drew.drew⟩
            case measure => simp [intOf]; omega
        · obtain rfl : i = 64 := by omega
          obtain ⟨av, er, hav, her, C6⟩ := C5.out wr
          have HLa := Lib.hid hav
          have C6 := Lib.hid C6
          clear hav C5
          go_wp2_with (first | ((with_reducible refine wpl_load_row rtB ?_ (.tmp 9) ?_ (g4) ?_ 23 (arr .i64 mv) ?_ ?_ ?_); rfl; rfl; rfl; simp [HLm.out]; exact Hm.out; simp only [Act.put, List.setIfInBounds_toArray, List.set_cons_succ, List.set_cons_zero]) | ((with_reducible refine wpl_load_row rtB ?_ (.tmp 3) ?_ ((w.heap.size + 1)) ?_ 23 (arr .i64 q) ?_ ?_ ?_); rfl; rfl; rfl; simp [HLq.out]; exact Hq.out; simp only [Act.put, List.setIfInBounds_toArray, List.set_cons_succ, List.set_cons_zero]))
          refine C6.out.mono ?_
          rintro e w10 ⟨rfl, hb⟩
          replace Hb := Lib.hid ((hb.block _ lb).trans Hb.out)
          replace lb := Nat.lt_of_lt_of_le lb hb.size
          replace hB := bt hB hb
          clear hb
          rcases her with ⟨rfl, rfl⟩ | rfl
          · go_wp2_with (first | (((with_reducible refine wpl_store_row rtB ?_ (.tmp 17) (.tmp 123) ?_ (w10.heap.size) ?_ (arr .i64 av) ?_ arr_one 23 ?_ _ ?_ (heap_alloc_new _ _) ?_); rfl; rfl; rfl; rfl; simp [HLa.out]; simp [zer_len]; intro w11 hr hg hs; (try simp only [Act.put])); have hb : Below w10.heap.size w10 w11 := (ba (brefl w10) _).grown hg (by simp) (fun k hk => by cases hk; exact Nat.le_refl _); have Ja := Lib.hid hr; have la : w10.heap.size < w11.heap.size := (by rw [hs]; simp); have Jb := Lib.hid ((hb.block _ lb).trans Hb.out); clear hr hg hs) | ((with_reducible refine wpl_load_row rtB ?_ (.tmp 2) ?_ (w.heap.size) ?_ 23 (arr .i64 av) ?_ ?_ ?_); rfl; rfl; rfl; simp [HLa.out]; exact Jb.out; simp only [Act.put, List.setIfInBounds_toArray, List.set_cons_succ, List.set_cons_zero]) | ((with_reducible refine wpl_load_row rtB ?_ (.tmp 17) ?_ (w10.heap.size) ?_ 23 (arr .i64 av) ?_ ?_ ?_); rfl; rfl; rfl; simp [HLa.out]; exact Ja.out; simp only [Act.put, List.setIfInBounds_toArray, List.set_cons_succ, List.set_cons_zero]) | ((with_reducible refine wpl_eq_arr (l := av) (l' := av) at27 eqB ?_ (.tmp 128) (.tmp 129) 23 ?_ ?_ ?_ HLa.out HLa.out true (by simp) ?_); rfl; rfl; rfl; rfl; simp only [Act.put, List.setIfInBounds_toArray, List.set_cons_succ, List.set_cons_zero]))
            refine (awake_any _).mono ?_
            rintro e w12 ⟨rfl, hb12⟩
            go_wp2_with fail
            go_ret
            exact ⟨rfl, bt (bt hB hb) hb12⟩
          · go_wp2_with (((with_reducible refine wpl_store_row rtB ?_ (.tmp 17) (.tmp 123) ?_ (w10.heap.size) ?_ (arr .i64 av) ?_ arr_one 23 ?_ _ ?_ (heap_alloc_new _ _) ?_); rfl; rfl; rfl; rfl; simp [HLa.out]; simp [zer_len]; intro w11 hr hg hs; (try simp only [Act.put])); have hb : Below w10.heap.size w10 w11 := (ba (brefl w10) _).grown hg (by simp) (fun k hk => by cases hk; exact Nat.le_refl _); have Ja := Lib.hid hr; have la : w10.heap.size < w11.heap.size := (by rw [hs]; simp); have Jb := Lib.hid ((hb.block _ lb).trans Hb.out); clear hr hg hs)
            refine (awake_any _).mono ?_
            rintro e w12 ⟨rfl, hb12⟩
            go_wp2_with fail
            go_ret
            exact ⟨rfl, bt (bt hB hb) hb12⟩

theorem nearest_any (b q : List Int) (w : World) (hb : b.length = 64) (_wb : ∀ z ∈ b, (Lit.int .i64 z).wf = true) (hq : q.length = 64) (_wq : ∀ z ∈ q, (Lit.int .i64 z).wf = true) :
    Calls Try.prog 6 #[.agg (arr .i64 b), .agg (arr .i64 q)] w fun e w' => e = .returned (.bool true) ∧ Below w.heap.size w w' := by
  by_cases h : doneB b q = true
  · exact nearest_yes b q w hb hq h
  · exact nearest_no b q w hb hq (by simpa using h)
end Go.Proofs.Ytaahphocoedmdaa
