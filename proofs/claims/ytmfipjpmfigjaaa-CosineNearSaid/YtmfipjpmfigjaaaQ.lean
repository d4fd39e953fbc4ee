/- The walk of CosineBack. -/
import Derived.Test.YtmfipjpmfigjaaaP
namespace Go.Proofs.Ytmfipjpmfigjaaa
open Go.RowKit
open Go.Tin
set_option linter.unusedVariables false
set_option linter.unusedSimpArgs false

theorem out_bd (l : List Int) (hno : l.any outB = false) (i : Nat) : -128 ≤ nth l i ∧ nth l i ≤ 127 := by
  unfold nth
  rw [List.getD_eq_getElem?_getD]
  by_cases h : i < l.length
  · rw [List.getElem?_eq_getElem h]
    rw [List.any_eq_false] at hno
    have h2 := hno _ (List.getElem_mem h)
    simp [outB] at h2
    simp only [Option.getD_some]
    omega
  · rw [List.getElem?_eq_none (by omega)]
    simp
theorem no_big (l : List Int) (h : ∀ i, -32768 ≤ nth l i ∧ nth l i ≤ 32768) : l.any bigB = false :=
  any_not l bigB fun j _ => by
    have := h j
    simp [bigB]
    omega
theorem nth_over (f : Nat → Int) (i : Nat) (hi : ¬ i < 64) : nth (full 64 f) i = 0 := by
  unfold nth
  rw [List.getD_eq_getElem?_getD, List.getElem?_eq_none (by rw [full_len]; omega)]
  rfl
/-- What is computed of samples: coefficients, none of them beyond what is served; and of them again. -/
theorem of_samples (l : List Int) (hno : l.any outB = false) : dctL fwdF l = full 64 (refF fwdF l) ∧ dctE l = 0 ∧ dctL invF (full 64 (refF fwdF l)) = full 64 (refF invF (full 64 (refF fwdF l))) ∧ dctE (full 64 (refF fwdF l)) = 0 := by
  have hb := out_bd l hno
  have h1 : l.any bigB = false := no_big l fun i => by have := hb i; omega
  have h2 : (full 64 (refF fwdF l)).any bigB = false := no_big _ fun i => by
    by_cases hi : i < 64
    · rw [nth_full _ _ _ hi]
      have h := out_small l (fun j => by have := hb j; omega) (i % 8) (i / 8) (by omega) (by omega)
      unfold refF rnd
      omega
    · rw [nth_over _ i hi]; omega
  unfold dctL dctE
  rw [if_neg (by rw [h1]; decide), if_neg (by rw [h1]; decide), if_neg (by rw [h2]; decide), if_neg (by rw [h2]; decide), ref_dct, ref_dct]
  exact ⟨rfl, rfl, rfl, rfl⟩
theorem trn_no (l : List Int) (hno : l.any outB = false) : (trn l).any outB = false :=
  any_not _ _ fun j hj => by
    rw [trn_len] at hj
    unfold trn
    rw [nth_full _ _ _ hj]
    have := out_bd l hno (j % 8 * 8 + j / 8)
    simp [outB]
    omega
/-- So much of a block turned about its diagonal. -/
def trS (l : List Int) (k : Nat) : List Int := full 64 fun j => if j % 8 * 8 + j / 8 < k then nth l (j % 8 * 8 + j / 8) else 0
theorem trS_len (l : List Int) (k : Nat) : (trS l k).length = 64 := by simp [trS]
theorem trS_zero (l : List Int) : trS l 0 = List.replicate 64 0 := by
  rw [← tell_zero 64 (fun _ => 0)]
  exact full_congr _ _ _ fun i hi => by simp
theorem trS_all (l : List Int) : trS l 64 = trn l := full_congr _ _ _ fun i hi => by rw [if_pos (by omega)]
theorem trS_set (l : List Int) (k : Nat) (hk : k < 64) : (trS l k).set (k % 8 * 8 + k / 8) (nth l k) = trS l (k + 1) := by
  unfold trS
  apply List.ext_getElem
  · simp [full]
  · intro q h1 h2
    rw [List.getElem_set]
    simp only [full, List.getElem_map, List.getElem_range]
    have hq : q < 64 := by simpa [full] using h2
    by_cases h : k % 8 * 8 + k / 8 = q
    · have e : q % 8 * 8 + q / 8 = k := by omega
      rw [if_pos h, e, if_pos (by omega)]
    · rw [if_neg h]
      by_cases h3 : q % 8 * 8 + q / 8 < k
      · rw [if_pos h3, if_pos (by omega)]
      · rw [if_neg h3, if_neg (by omega)]

set_option maxRecDepth 100000 in
set_option maxHeartbeats 4000000 in
theorem back_any (l : List Int) (n : Int) (w : World) (hl : l.length = 64) (hw : ∀ z ∈ l, (Lit.int .i64 z).wf = true) (wn : (Lit.int .i64 n).wf = true) : Calls Try.prog 6 #[.agg (arr .i64 l), .int .i64 n] w fun e w' => e = .returned (.bool true) ∧ Below w.heap.size w w' := by
  clear hw wn
  have HL := Lib.hid hl
  have FW := forward_any
  have IV := inverse_any
  go_enter Try.func6, Try.ntmps6
  have q0 := heap_alloc_new w (.cells (arr .i64 l) 26)
  have hB := ba (brefl w) (.cells (arr .i64 l) 26)
  have e0 : w.heap.size < (w.alloc (.cells (arr .i64 l) 26)).heap.size := by simp
  have H0 := Lib.hid q0
  clear q0
  go_wp2_with ((with_reducible refine wpl_load_row rt26 ?_ (.tmp 2) rfl (w.heap.size) rfl 26 _ ?_ H0.out ?_); rfl; simp [HL.out]; simp only [Act.put, List.setIfInBounds_toArray, List.set_cons_succ, List.set_cons_zero])
  generalize w.alloc _ = W0 at *
  refine Calls.mono (samples_any l hl W0) ?_
  rintro e w0 ⟨rfl, hb0⟩
  replace H0 := Lib.hid ((hb0.block _ e0).trans H0.out)
  replace e0 := Nat.lt_of_lt_of_le e0 hb0.size
  replace hB := bt hB hb0
  by_cases hany : l.any outB = true
  · rw [hany]
    go_wp2_with fail
    refine Calls.mono (awake_any _) ?_
    rintro e wz ⟨rfl, hbz⟩
    go_wp2_with fail
    go_ret
    exact ⟨rfl, bt hB hbz⟩
  · have hno : l.any outB = false := by simpa using hany
    clear hany
    rw [hno]
    by_cases n1 : n < -128
    · go_wp2_with fail
      refine Calls.mono (awake_any _) ?_
      rintro e wz ⟨rfl, hbz⟩
      go_wp2_with fail
      go_ret
      exact ⟨rfl, bt hB hbz⟩
    · by_cases n2 : 127 < n
      · go_wp2_with fail
        refine Calls.mono (awake_any _) ?_
        rintro e wz ⟨rfl, hbz⟩
        go_wp2_with fail
        go_ret
        exact ⟨rfl, bt hB hbz⟩
      · obtain ⟨hC, hE, hBk, hE2⟩ := of_samples l hno
        have hbd := out_bd l hno
        have hnear : ∀ i, i < 64 → nth l i - 4 ≤ nth (full 64 (refF invF (full 64 (refF fwdF l)))) i ∧ nth (full 64 (refF invF (full 64 (refF fwdF l)))) i ≤ nth l i + 4 := fun i hi => by
          have h := back_near l (fun j => by have := hbd j; omega) (i % 8) (i / 8) (by omega) (by omega)
          rw [show 8 * (i / 8) + i % 8 = i by omega] at h
          rw [nth_full _ _ _ hi]
          exact h
        have HBd := Lib.hid hbd
        have htrn := of_samples (trn l) (trn_no l hno)
        have hTD := htrn.1
        have hTE := htrn.2.1
        have HTD := Lib.hid hTD
        have HTE := Lib.hid hTE
        have hfl := flat_all n (by omega) (by omega)
        have HFl := Lib.hid hfl
        clear htrn hTD hTE hfl
        have HNr := Lib.hid hnear
        have HTr := Lib.hid (fun i hi => ref_trn fwdF l i hi)
        have CL := Lib.hid (full_len 64 (refF fwdF l))
        have BkL := Lib.hid (full_len 64 (refF invF (full 64 (refF fwdF l))))
        clear hbd hnear
        generalize hCdef : full 64 (refF fwdF l) = C at *
        generalize hBdef : full 64 (refF invF C) = Bk at *
        go_wp2_with ((with_reducible refine wpl_load_row rt26 ?_ (.tmp 2) rfl (w.heap.size) rfl 26 _ ?_ H0.out ?_); rfl; simp [HL.out]; simp only [Act.put, List.setIfInBounds_toArray, List.set_cons_succ, List.set_cons_zero])
        refine Calls.mono (FW l hl _) ?_
        rw [hC, hE]
        rintro e w1 ⟨rfl, hb1⟩
        replace H0 := Lib.hid ((hb1.block _ e0).trans H0.out)
        replace e0 := Nat.lt_of_lt_of_le e0 hb1.size
        replace hB := bt hB hb1
        go_wp2_with (first | (with_reducible refine wpl_store_arr at26 rfl (.tmp 5) (.tmp 31) rfl w1.heap.size rfl rfl 26 (CL.out) _ rfl (heap_alloc_new _ _) ?_; intro w1x hrx hgx hsx; have hbx : Below w1.heap.size w1 w1x := (ba (brefl w1) _).grown hgx (by simp) (fun k hk => by cases hk; exact Nat.le_refl _); have e5 : w1.heap.size < w1x.heap.size := (by rw [hsx]; simp); replace H0 := Lib.hid ((hbx.block _ e0).trans H0.out); replace e0 := Nat.lt_of_lt_of_le e0 hbx.size; replace hB := bt hB hbx; have K5 := Lib.hid hrx; clear hrx hgx hsx hbx; simp only [Act.put]) | ((with_reducible refine wpl_load_row rt26 ?_ (.tmp 5) rfl (w1.heap.size) rfl 26 _ ?_ K5.out ?_); rfl; simp [CL.out]; simp only [Act.put, List.setIfInBounds_toArray, List.set_cons_succ, List.set_cons_zero]))
        generalize hg5 : w1.heap.size = g5 at *
        refine Calls.mono (IV C CL.out _) ?_
        rw [hBk, hE2]
        rintro e w2 ⟨rfl, hb2⟩
        replace H0 := Lib.hid ((hb2.block _ e0).trans H0.out)
        replace K5 := Lib.hid ((hb2.block _ e5).trans K5.out)
        replace e0 := Nat.lt_of_lt_of_le e0 hb2.size
        replace e5 := Nat.lt_of_lt_of_le e5 hb2.size
        replace hB := bt hB hb2
        go_wp2_with (with_reducible refine wpl_store_arr at26 rfl (.tmp 7) (.tmp 36) rfl w2.heap.size rfl rfl 26 (BkL.out) _ rfl (heap_alloc_new _ _) ?_; intro w2x hrx hgx hsx; have hbx : Below w2.heap.size w2 w2x := (ba (brefl w2) _).grown hgx (by simp) (fun k hk => by cases hk; exact Nat.le_refl _); have e7 : w2.heap.size < w2x.heap.size := (by rw [hsx]; simp); replace H0 := Lib.hid ((hbx.block _ e0).trans H0.out); replace K5 := Lib.hid ((hbx.block _ e5).trans K5.out); replace e0 := Nat.lt_of_lt_of_le e0 hbx.size; replace e5 := Nat.lt_of_lt_of_le e5 hbx.size; replace hB := bt hB hbx; have K7 := Lib.hid hrx; clear hrx hgx hsx hbx; simp only [Act.put])
        generalize hg7 : w2.heap.size = g7 at *
        have q9 := heap_alloc_new w2x (.cells (Array.replicate 64 (.int .i64 0)) 26)
        have hal := ba (brefl w2x) (.cells (Array.replicate 64 (.int .i64 0)) 26)
        have e9 : w2x.heap.size < (w2x.alloc (.cells (Array.replicate 64 (.int .i64 0)) 26)).heap.size := by simp
        rw [← arr_rep, ← trS_zero l] at q9
        have z5 : g5 < w2x.heap.size := e5
        have z7 : g7 < w2x.heap.size := e7
        have z0 : w.heap.size < w2x.heap.size := e0
        generalize hW9 : w2x.alloc _ = W9
        replace q9 : W9.heap[w2x.heap.size]? = some (.cells (arr .i64 (trS l 0)) 26 (0, 0)) := by rw [← hW9]; exact q9
        replace hal : Below w2x.heap.size w2x W9 := by rw [← hW9]; exact hal
        replace e9 : w2x.heap.size < W9.heap.size := by rw [← hW9]; exact e9
        clear hW9

        replace H0 := Lib.hid ((hal.block _ e0).trans H0.out)
        replace K5 := Lib.hid ((hal.block _ e5).trans K5.out)
        replace K7 := Lib.hid ((hal.block _ e7).trans K7.out)
        replace e0 := Nat.lt_of_lt_of_le e0 hal.size
        replace e5 := Nat.lt_of_lt_of_le e5 hal.size
        replace e7 := Nat.lt_of_lt_of_le e7 hal.size
        replace hB := bt hB hal
        clear hal FW IV
        generalize hg9 : w2x.heap.size = g9 at *
        have hbr := brefl W9
        go_loopw [10] (fun s10 wr => ∃ (i : Nat), i ≤ 64 ∧ s10 = .int .i64 (i : Int) ∧ wr.heap[g9]? = some (.cells (arr .i64 (trS l i)) 26 (0, 0)) ∧ Below g9 W9 wr ∧ g9 < wr.heap.size) (fun s10 _ => 64 - (intOf s10).toNat)
        case atStart => exact ⟨0, by omega, rfl, q9, hbr.mono (by omega), e9⟩
        case round =>
          clear q9 hbr
          obtain ⟨i, hi, rfl, hG, hb9, hlt⟩ := hrel
          by_cases hi64 : i < 64
          · have i1 : (i : Int) < 64 := by omega
            have k0 := blk_cell ((hb9.block _ (show w.heap.size < g9 by omega)).trans H0.out) i (by rw [HL.out]; exact hi64)
            have c2 := row_cell hG (i % 8 * 8 + i / 8) (arr_get (i % 8 * 8 + i / 8) (by rw [trS_len]; omega))
            have c3 := frozen_of_row wr _ (i % 8 * 8 + i / 8) _ _ hG
            have hset : (wr.setCell ⟨g9, i % 8 * 8 + i / 8, none⟩ (.int .i64 (nth l i))).heap[g9]? = some (.cells (arr .i64 (trS l (i + 1))) 26 (0, 0)) := by rw [blk_set hG, trS_set l i hi64]
            have HSet := Lib.hid hset
            clear hset hG
            go_wp2_with fail
            go_roundw
            case rel => exact ⟨i + 1, by omega, by go_num, HSet.out, hb9.setCell (Nat.le_refl _) _, by simpa [World.setCell] using hlt⟩
            case measure => simp [intOf]; omega
          · obtain rfl : i = 64 := by omega
            rw [trS_all] at hG
            have K9 := Lib.hid hG
            have TL := Lib.hid (trn_len l)
            replace H0 := Lib.hid ((hb9.block _ (show w.heap.size < g9 by omega)).trans H0.out)
            replace K5 := Lib.hid ((hb9.block _ (show g5 < g9 by omega)).trans K5.out)
            replace K7 := Lib.hid ((hb9.block _ (show g7 < g9 by omega)).trans K7.out)
            replace hB : Below w.heap.size w wr := hB.trans (hb9.mono (by omega))
            clear hG hb9
            replace e0 : w.heap.size < wr.heap.size := by omega
            replace e5 : g5 < wr.heap.size := by omega
            replace e7 : g7 < wr.heap.size := by omega
            replace e9 := hlt
            have DL := Lib.hid (full_len 64 (refF fwdF (trn l)))
            have HTD2 := HTD.out
            have HTE2 := HTE.out
            generalize full 64 (refF fwdF (trn l)) = D at *
            go_wp2_with ((with_reducible refine wpl_load_row rt26 ?_ (.tmp 9) rfl (g9) rfl 26 _ ?_ K9.out ?_); rfl; simp [TL.out]; simp only [Act.put, List.setIfInBounds_toArray, List.set_cons_succ, List.set_cons_zero])
            refine Calls.mono (forward_any (trn l) TL.out wr) ?_
            rw [HTD2, HTE2]
            clear HTD2 HTE2
            rintro e w3 ⟨rfl, hb3⟩
            replace H0 := Lib.hid ((hb3.block _ e0).trans H0.out)
            replace K5 := Lib.hid ((hb3.block _ e5).trans K5.out)
            replace K7 := Lib.hid ((hb3.block _ e7).trans K7.out)
            replace e0 := Nat.lt_of_lt_of_le e0 hb3.size
            replace e5 := Nat.lt_of_lt_of_le e5 hb3.size
            replace e7 := Nat.lt_of_lt_of_le e7 hb3.size
            replace hB := bt hB hb3
            go_wp2_with (with_reducible refine wpl_store_arr at26 rfl (.tmp 11) (.tmp 55) rfl w3.heap.size rfl rfl 26 (DL.out) _ rfl (heap_alloc_new _ _) ?_; intro w3x hrx hgx hsx; have hbx : Below w3.heap.size w3 w3x := (ba (brefl w3) _).grown hgx (by simp) (fun k hk => by cases hk; exact Nat.le_refl _); have e11 : w3.heap.size < w3x.heap.size := (by rw [hsx]; simp); replace H0 := Lib.hid ((hbx.block _ e0).trans H0.out); replace K5 := Lib.hid ((hbx.block _ e5).trans K5.out); replace K7 := Lib.hid ((hbx.block _ e7).trans K7.out); replace e0 := Nat.lt_of_lt_of_le e0 hbx.size; replace e5 := Nat.lt_of_lt_of_le e5 hbx.size; replace e7 := Nat.lt_of_lt_of_le e7 hbx.size; replace hB := bt hB hbx; have K11 := Lib.hid hrx; clear hrx hgx hsx hbx; simp only [Act.put])
            generalize hg11 : w3.heap.size = g11 at *
            refine Calls.mono (flat_any n w3x) ?_
            rintro e w4 ⟨rfl, hb4⟩
            replace H0 := Lib.hid ((hb4.block _ e0).trans H0.out)
            replace K5 := Lib.hid ((hb4.block _ e5).trans K5.out)
            replace K7 := Lib.hid ((hb4.block _ e7).trans K7.out)
            replace K11 := Lib.hid ((hb4.block _ e11).trans K11.out)
            replace e0 := Nat.lt_of_lt_of_le e0 hb4.size
            replace e5 := Nat.lt_of_lt_of_le e5 hb4.size
            replace e7 := Nat.lt_of_lt_of_le e7 hb4.size
            replace e11 := Nat.lt_of_lt_of_le e11 hb4.size
            replace hB := bt hB hb4
            go_wp2_with fail
            have hff := forward_any (full 64 fun _ => n) (full_len _ _) w4
            rw [HFl.out.1, HFl.out.2] at hff
            refine Calls.mono hff ?_
            clear hff
            rintro e w5 ⟨rfl, hb5⟩
            replace H0 := Lib.hid ((hb5.block _ e0).trans H0.out)
            replace K5 := Lib.hid ((hb5.block _ e5).trans K5.out)
            replace K7 := Lib.hid ((hb5.block _ e7).trans K7.out)
            replace K11 := Lib.hid ((hb5.block _ e11).trans K11.out)
            replace e0 := Nat.lt_of_lt_of_le e0 hb5.size
            replace e5 := Nat.lt_of_lt_of_le e5 hb5.size
            replace e7 := Nat.lt_of_lt_of_le e7 hb5.size
            replace e11 := Nat.lt_of_lt_of_le e11 hb5.size
            replace hB := bt hB hb5
            have heq : ∀ W : World, (Op.equalIn 10000 26 (.agg (arr .i64 (bl (8 * n)))) (.agg #[.int .i64 (8 * n), .int .i64 0, .int .i64 0, .int .i64 0, .int .i64 0, .int .i64 0, .int .i64 0, .int .i64 0, .int .i64 0, .int .i64 0, .int .i64 0, .int .i64 0, .int .i64 0, .int .i64 0, .int .i64 0, .int .i64 0, .int .i64 0, .int .i64 0, .int .i64 0, .int .i64 0, .int .i64 0, .int .i64 0, .int .i64 0, .int .i64 0, .int .i64 0, .int .i64 0, .int .i64 0, .int .i64 0, .int .i64 0, .int .i64 0, .int .i64 0, .int .i64 0, .int .i64 0, .int .i64 0, .int .i64 0, .int .i64 0, .int .i64 0, .int .i64 0, .int .i64 0, .int .i64 0, .int .i64 0, .int .i64 0, .int .i64 0, .int .i64 0, .int .i64 0, .int .i64 0, .int .i64 0, .int .i64 0, .int .i64 0, .int .i64 0, .int .i64 0, .int .i64 0, .int .i64 0, .int .i64 0, .int .i64 0, .int .i64 0, .int .i64 0, .int .i64 0, .int .i64 0, .int .i64 0, .int .i64 0, .int .i64 0, .int .i64 0, .int .i64 0])).run Try.prog W = .ok true W := fun W => eq_run at26 (l := bl (8 * n)) (bl_len _) (bl (8 * n)) (bl_len _) 9998 W |>.trans (by rw [decide_eq_true rfl])
            go_wp2_with (first | (with_reducible refine wpl_store_arr at26 rfl (.tmp 13) (.tmp 61) rfl w5.heap.size rfl rfl 26 (bl_len (8 * n)) _ rfl (heap_alloc_new _ _) ?_; intro w5x hrx hgx hsx; have hbx : Below w5.heap.size w5 w5x := (ba (brefl w5) _).grown hgx (by simp) (fun k hk => by cases hk; exact Nat.le_refl _); have e13 : w5.heap.size < w5x.heap.size := (by rw [hsx]; simp); replace H0 := Lib.hid ((hbx.block _ e0).trans H0.out); replace K5 := Lib.hid ((hbx.block _ e5).trans K5.out); replace K7 := Lib.hid ((hbx.block _ e7).trans K7.out); replace K11 := Lib.hid ((hbx.block _ e11).trans K11.out); replace e0 := Nat.lt_of_lt_of_le e0 hbx.size; replace e5 := Nat.lt_of_lt_of_le e5 hbx.size; replace e7 := Nat.lt_of_lt_of_le e7 hbx.size; replace e11 := Nat.lt_of_lt_of_le e11 hbx.size; replace hB := bt hB hbx; have K13 := Lib.hid hrx; have hq := heq w5x; clear hrx hgx hsx hbx; simp only [Act.put]) | ((with_reducible refine wpl_load_row rt26 ?_ (.tmp 13) rfl (w5.heap.size) rfl 26 _ ?_ K13.out ?_); rfl; simp [bl_len]; simp only [Act.put, List.setIfInBounds_toArray, List.set_cons_succ, List.set_cons_zero]))
            generalize hg13 : w5.heap.size = g13 at *
            clear heq
            have hbr5 := brefl w5x
            go_loopw [15] (fun s15 wq => ∃ (i : Nat), i ≤ 64 ∧ s15 = .int .i64 (i : Int) ∧ Below w5x.heap.size w5x wq) (fun s15 _ => 64 - (intOf s15).toNat)
            case atStart => exact ⟨0, by omega, rfl, hbr5⟩
            case round =>
              clear hbr5
              obtain ⟨i, hi, rfl, hbq⟩ := hrel
              by_cases hi64 : i < 64
              · have i1 : (i : Int) < 64 := by omega
                have hn := HNr.out i hi64
                have hx := HBd.out i
                have b1 := hn.1
                have b2 := hn.2
                have b3 := hx.1
                have b4 := hx.2
                clear hn hx
                have k7 : ∀ p : Bel w5x.heap.size wr.drew, p.w'.cell? ⟨g7, i, none⟩ = some (.int .i64 (nth Bk i)) := fun p => by
                  exact (p.h.cell (p := ⟨g7, i, none⟩) e7).trans ((hbq.cell (p := ⟨g7, i, none⟩) e7).trans (blk_cell K7.out (i) (by rw [BkL.out]; omega)))
                have k0 : ∀ p : Bel w5x.heap.size wr.drew, p.w'.cell? ⟨w.heap.size, i, none⟩ = some (.int .i64 (nth l i)) := fun p => by
                  exact (p.h.cell (p := ⟨w.heap.size, i, none⟩) e0).trans ((hbq.cell (p := ⟨w.heap.size, i, none⟩) e0).trans (blk_cell H0.out (i) (by rw [HL.out]; omega)))
                have k5 : ∀ p : Bel w5x.heap.size wr.drew, p.w'.cell? ⟨g5, i, none⟩ = some (.int .i64 (nth C i)) := fun p => by
                  exact (p.h.cell (p := ⟨g5, i, none⟩) e5).trans ((hbq.cell (p := ⟨g5, i, none⟩) e5).trans (blk_cell K5.out (i) (by rw [CL.out]; omega)))
                have k11 : ∀ p : Bel w5x.heap.size wr.drew, p.w'.cell? ⟨g11, i % 8 * 8 + i / 8, none⟩ = some (.int .i64 (nth C i)) := fun p => by
                  rw [← HTr.out i hi64]
                  exact (p.h.cell (p := ⟨g11, i % 8 * 8 + i / 8, none⟩) e11).trans ((hbq.cell (p := ⟨g11, i % 8 * 8 + i / 8, none⟩) e11).trans (blk_cell K11.out (i % 8 * 8 + i / 8) (by rw [DL.out]; omega)))
                have d1 : decide (nth Bk i < nth l i - 4) = false := decide_eq_false (by omega)
                have d2 : decide (nth l i + 4 < nth Bk i) = false := decide_eq_false (by omega)
                go_wp2_with fail
                refine Tin.reg_begin w5x.heap.size 32 (by rfl) (by kernel_rfl) ?_
                refine Tin.reg_quiets [0, 1, 2, 3, 4, 5, 6, 7, 8, 9, 10, 11, 12, 13, 14, 15, 16, 17, 18, 19, 20, 21, 22, 23, 24, 25, 26, 27, 28, 29, 30, 31] _ 0 rfl (by simp only [Tin.pick, List.map_cons, List.map_nil, Array.getD_eq_getD_getElem?, List.getElem?_toArray, List.getElem?_cons_zero, List.getElem?_cons_succ, Option.getD_some]; rfl) (by kernel_rfl) (by kernel_rfl) ?_
                repeat (first | go_big_quiet_step (fail))
                refine wpQuiet_nil ?_
                refine Tin.reg_done (by kernel_rfl) ?_
                go_wp2_with fail
                go_roundw
                case rel => exact ⟨i + 1, by omega, by go_num, ⟨hbq.os, hbq.tape, hbq.output, hbq.size, hbq.block⟩⟩
                case measure => simp [intOf]; omega
              · obtain rfl : i = 64 := by omega
                replace hB := bt hB hbq
                go_wp2_with fail
                refine Calls.mono (awake_any _) ?_
                rintro e wz ⟨rfl, hbz⟩
                go_wp2_with fail
                go_ret
                exact ⟨rfl, bt hB hbz⟩
end Go.Proofs.Ytmfipjpmfigjaaa
