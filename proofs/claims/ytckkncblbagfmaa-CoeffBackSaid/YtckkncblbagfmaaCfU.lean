/- The contract of the reference's Block. -/
import Derived.Test.YtckkncblbagfmaaCfT
namespace Go.Proofs.Ytckkncblbagfmaa
open Go.RowKit
open Go.Tin
set_option linter.unusedVariables false
set_option linter.unusedSimpArgs false


theorem put4n (w : World) (t : Nat) (a b c d x0 x1 x2 x3 : Value) (W : World) (hW : (((((w.alloc (.cells #[x0, x1, x2, x3] t)).setCell ⟨w.heap.size, 0, none⟩ a).setCell ⟨w.heap.size, 1, none⟩ b).setCell ⟨w.heap.size, 2, none⟩ c).setCell ⟨w.heap.size, 3, none⟩ d) = W) :
    Below w.heap.size w W ∧ W.heap[w.heap.size]? = some (.cells #[a, b, c, d] t (0, 0)) := by
  subst hW
  refine ⟨((((ba (brefl w) _).setCell (Nat.le_refl _) _).setCell (Nat.le_refl _) _).setCell (Nat.le_refl _) _).setCell (Nat.le_refl _) _, ?_⟩
  have h0 : (w.alloc (.cells #[x0, x1, x2, x3] t)).heap[w.heap.size]? = some (.cells #[x0, x1, x2, x3] t (0, 0)) := heap_alloc_new w _
  exact row_set (row_set (row_set (row_set h0 0 a) 1 b) 2 c) 3 d
theorem slv_at0 {w : World} {A : Option Addr} {zs : List Int} (h : SlV w A (iv zs)) (h0 : 0 < zs.length) : ∃ b off, A = some ⟨b, off, none⟩ ∧ b < w.heap.size := by
  rcases h with h | ⟨b, off, hA, hlt, -⟩
  · have : zs = [] := by simpa using h
    subst this; simp at h0
  · exact ⟨b, off, hA, hlt⟩

set_option maxRecDepth 100000 in
set_option maxHeartbeats 8000000 in
theorem rblk_any (A : Option Addr) (n c : Nat) (zs : List Int) (last : Int) (w : World) (sl : SlV w A (iv zs)) (hlen : zs.length = n * 4) (hn : n ≤ 100000) (hwf : ∀ z ∈ zs, (Lit.int .i64 z).wf = true) (hl : 0 ≤ sz last) :
    Calls Try.prog 18 #[.slice A n c, .int .i64 last] w fun e w' => e = .returned (.tuple #[.agg (arr .i64 (bkL zs n last)), .int .i64 (bkU zs n last : Int), .int .i64 (bkE zs n last)]) ∧ Below w.heap.size w w' := by
  have hld := sz_bd hl
  have HLAST := Lib.hid hl
  have HWF := Lib.hid (fun i (hi : i < zs.length) => hwf _ (mem_nth zs i hi))
  have HLEN := Lib.hid hlen
  clear hwf hl
  obtain ⟨g2, hg2, r0, r1, hB0, hz0⟩ : ∃ g2, g2 = w.heap.size + 1 ∧ ((w.alloc (.cells (arr .i64 zer) 33)).alloc (.cells (arr .i64 zer) 33)).heap[w.heap.size]? = some (.cells (arr .i64 zer) 33 (0, 0)) ∧ ((w.alloc (.cells (arr .i64 zer) 33)).alloc (.cells (arr .i64 zer) 33)).heap[g2]? = some (.cells (arr .i64 zer) 33 (0, 0)) ∧ Below w.heap.size w ((w.alloc (.cells (arr .i64 zer) 33)).alloc (.cells (arr .i64 zer) 33)) ∧ ((w.alloc (.cells (arr .i64 zer) 33)).alloc (.cells (arr .i64 zer) 33)).heap.size = g2 + 1 := by
    refine ⟨w.heap.size + 1, rfl, ?_, ?_, ba (ba (brefl w) _) _, by simp⟩
    · rw [Below.heap_alloc _ _ _ (by simp)]
      exact heap_alloc_new w _
    · have := heap_alloc_new (w.alloc (.cells (arr .i64 zer) 33)) (.cells (arr .i64 zer) 33)
      simpa using this
  have HXV := Lib.hid r0
  have HTV := Lib.hid r1
  have HBV := Lib.hid hB0
  have hXg : w.heap.size ≠ g2 := by omega
  clear r0 r1 hB0
  by_cases hn0 : n = 0
  · have HK := Lib.hid (bk_err (n := n) (zs := zs) HLAST.out 3 (by decide) [] 0 (show rdA zs n last = _ by rw [hn0]; exact rdA_0))
    have d0 : ((n : Int) == 0) = true := by simp [hn0]
    clear hn0 sl
    go_enter Try.func18, Try.ntmps18
    go_wp2_with ((refine wpl_store_row rtB ?_ (.tmp 4) (.tmp 16) ?_ (w.heap.size) ?_ (arr .i64 zer) ?_ arr_one 33 ?_ _ ?_ HXV.out ?_); rfl; rfl; rfl; rfl; simp [fromL_len, zer_len]; simp [fromL_len, zer_len]; intro w5 hr5 hg5 hs5; (try simp only [Act.put]))
    exact bodyPost_ret (res_arr_tmp2 at27 rfl _ _ w.heap.size 33 rfl (.int .i64 0) (.int .i64 (3)) rfl rfl zer_len hr5) rfl ⟨by rw [HK.out.1, HK.out.2.1, HK.out.2.2]; rfl, HBV.out.grown hg5 HBV.out.size (fun k hk => by cases hk; exact Nat.le_refl _)⟩
  obtain ⟨b, off, rfl, hbw⟩ := slv_at0 sl (by omega)
  have HSL := Lib.hid sl
  have k0 := bel_cells sl 0 (by omega)
  have k1 := bel_cells sl 1 (by omega)
  have k2 := bel_cells sl 2 (by omega)
  have k3 := bel_cells sl 3 (by omega)
  have d0 : ((n : Int) == 0) = false := by simp [hn0]
  have HRT := Lib.hid (fun W => right_any (nth zs 0) (nth zs 1) (nth zs 2) (nth zs 3) 0 11 W (HWF.out 2 (by omega)) (HWF.out 3 (by omega)))
  have HRV := Lib.hid (fun W => rvalue_any (nth zs 2) (nth zs 3) W (HWF.out 2 (by omega)) (HWF.out 3 (by omega)))
  have HOK := Lib.hid (show okA zs 0 0 11 = okS (nth zs 0) (nth zs 1) (nth zs 2) (nth zs 3) 0 11 from rfl)
  have HSY := Lib.hid (show syA zs 0 = nth zs 1 ∧ vlA zs 0 = vaN (nth zs 2) (nth zs 3) from ⟨rfl, rfl⟩)
  rw [Nat.add_zero] at k0
  clear sl
  generalize nth zs 0 = a at *
  generalize nth zs 1 = s at *
  generalize nth zs 2 = va at *
  generalize nth zs 3 = vn at *
  go_enter Try.func18, Try.ntmps18
  go_wp2_with fail
  generalize hV : (w.alloc _).alloc _ = V
  have HXW := Lib.hid (show V.heap[w.heap.size]? = some (.cells (arr .i64 zer) 33 (0, 0)) by rw [← hV]; exact HXV.out)
  have HTW := Lib.hid (show V.heap[g2]? = some (.cells (arr .i64 zer) 33 (0, 0)) by rw [← hV]; exact HTV.out)
  have HBW := Lib.hid (show Below w.heap.size w V by rw [← hV]; exact HBV.out)
  clear hV HXV HTV HBV hz0
  rw [← hg2]
  have hge : w.heap.size ≤ g2 := by omega
  clear hg2
  refine (HRT.out _).mono ?_
  rintro e V1 ⟨rfl, hb⟩
  have HXV := Lib.hid ((hb.block _ (row_lt HXW.out)).trans HXW.out)
  have HTV := Lib.hid ((hb.block _ (row_lt HTW.out)).trans HTW.out)
  have HBV := Lib.hid (HBW.out.trans (hb.mono HBW.out.size))
  clear hb HXW HTW HBW
  by_cases ho : okA zs 0 0 11 = true
  case neg =>
    have ho : okA zs 0 0 11 = false := by simpa using ho
    have HK := Lib.hid (bk_err HLAST.out 2 (by decide) [] 0 (rdA_no hn0 (.inl ho)))
    have hos := HOK.out ▸ ho
    rw [hos]
    clear hos ho
    go_wp2_with ((with_reducible refine wpl_store_row rtB ?_ (.tmp 4) (.tmp 29) ?_ (w.heap.size) ?_ (arr .i64 zer) ?_ arr_one 33 ?_ _ ?_ HXV.out ?_); rfl; rfl; rfl; rfl; simp [fromL_len, zer_len]; simp [fromL_len, zer_len]; intro w5 hr5 hg5 hs5; (try simp only [Act.put]))
    exact bodyPost_ret (res_arr_tmp2 at27 rfl _ _ w.heap.size 33 rfl (.int .i64 0) (.int .i64 (2)) rfl rfl zer_len hr5) rfl ⟨by rw [HK.out.1, HK.out.2.1, HK.out.2.2]; rfl, HBV.out.grown hg5 HBV.out.size (fun k hk => by cases hk; exact Nat.le_refl _)⟩
  have hos := HOK.out ▸ ho
  rw [hos]
  clear hos
  obtain ⟨-, -, s0, s1, s2, -⟩ := okA_facts ho
  have hvb := vlA_bd ho
  have HRY := Lib.hid (fun h' => rdA_yes (n := n) (last := last) hn0 ho h')
  have HRN := Lib.hid (fun h' => rdA_no (zs := zs) (n := n) (last := last) hn0 (.inr h'))
  rw [HSY.out.1] at s0 s1 s2
  rw [HSY.out.2] at hvb
  rw [HSY.out.1, HSY.out.2] at HRY
  rw [HSY.out.1] at HRN
  have k1' := ((bcell HBV.out).1 b (off + 1) hbw).trans k1
  have k2' := ((bcell HBV.out).1 b (off + 2) hbw).trans k2
  have k3' := ((bcell HBV.out).1 b (off + 3) hbw).trans k3
  clear ho HOK HSY k0 k1 k2 k3
  by_cases h11 : 11 < s
  · have HK := Lib.hid (bk_err HLAST.out 2 (by decide) [] 0 (HRN.out h11))
    go_wp2_with ((with_reducible refine wpl_store_row rtB ?_ (.tmp 4) (.tmp 29) ?_ (w.heap.size) ?_ (arr .i64 zer) ?_ arr_one 33 ?_ _ ?_ HXV.out ?_); rfl; rfl; rfl; rfl; simp [fromL_len, zer_len]; simp [fromL_len, zer_len]; intro w5 hr5 hg5 hs5; (try simp only [Act.put]))
    exact bodyPost_ret (res_arr_tmp2 at27 rfl _ _ w.heap.size 33 rfl (.int .i64 0) (.int .i64 (2)) rfl rfl zer_len hr5) rfl ⟨by rw [HK.out.1, HK.out.2.1, HK.out.2.2]; rfl, HBV.out.grown hg5 HBV.out.size (fun k hk => by cases hk; exact Nat.le_refl _)⟩
  have HR1 := Lib.hid (HRY.out h11)
  go_wp2_with fail
  refine (HRV.out _).mono ?_
  rintro e V2 ⟨rfl, hb⟩
  have HXS := Lib.hid ((set_other hXg).trans ((hb.block _ (row_lt HXV.out)).trans HXV.out) : (V2.setCell ⟨g2, 0, none⟩ (.int .i64 (last + vaN va vn))).heap[w.heap.size]? = some (.cells (arr .i64 zer) 33 (0, 0)))
  have HT2 := Lib.hid ((hb.block _ (row_lt HTV.out)).trans HTV.out)
  have HTS := Lib.hid (blk_set HT2.out 0 (last + vaN va vn))
  have HBS := Lib.hid ((HBV.out.trans (hb.mono HBV.out.size)).setCell (p := ⟨g2, 0, none⟩) (show w.heap.size ≤ g2 by omega) (.int .i64 (last + vaN va vn)))
  have c0 : V2.cell? ⟨g2, 0, none⟩ = some (.int .i64 0) := blk_cell HT2.out 0 (by rw [zer_len]; decide)
  have f0 : V2.frozen? ⟨g2, 0, none⟩ = false := frozen_of_row _ _ _ _ _ HT2.out
  clear hb HXV HTV HBV HRY HRN k1' k2' k3' HT2
  generalize vaN va vn = vl at *
  go_wp2_with fail
  generalize V2.setCell _ _ = V3 at *
  have hn1 : 1 ≤ n := by omega
  clear c0 f0
  go_loopw [10, 11] (fun s10 s11 W => ∃ (k used : Nat) (to : List Int), k ≤ 64 ∧ used ≤ n ∧ to.length = 64 ∧ s10 = .int .i64 (used : Int) ∧ s11 = .int .i64 (k : Int) ∧ W.heap[w.heap.size]? = some (.cells (arr .i64 zer) 33 (0, 0)) ∧ W.heap[g2]? = some (.cells (arr .i64 to) 33 (0, 0)) ∧ Below w.heap.size w W ∧ ∃ f, 65 ≤ f + k ∧ rdA zs n last = rdL zs n f k used to) (fun s10 s11 _ => 64 - (intOf s11).toNat)
  case atStart => exact ⟨1, 1, _, by omega, by omega, by simp [zer_len], rfl, rfl, HXS.out, HTS.out, HBS.out, 64, by omega, HR1.out⟩
  case round =>
    obtain ⟨k, used, to, hk, hu, hto, rfl, rfl, hrow, hrow2, hbl, f, hf, hrd⟩ := hrel
    obtain ⟨f, rfl⟩ : ∃ f', f = f' + 1 := ⟨f - 1, by omega⟩
    have HXr := Lib.hid hrow
    have HTr := Lib.hid hrow2
    have HBr := Lib.hid hbl
    have HRr := Lib.hid hrd
    have HTO := Lib.hid hto
    clear hrow hrow2 hbl hrd HXS HTS HBS HR1
    by_cases hk64 : k = 64
    · have HK := Lib.hid (bk_ok HLAST.out _ _ (HRr.out.trans (rdL_end (by omega))))
      subst hk64
      go_wp2_with ((with_reducible refine wpl_load_row rtB ?_ (.tmp 7) ?_ (g2) ?_ 33 (arr .i64 to) ?_ ?_ ?_); rfl; rfl; rfl; simp [hto]; exact HTr.out; simp only [Act.put, List.setIfInBounds_toArray, List.set_cons_succ, List.set_cons_zero])
      refine (rfrom_any to HTO.out _).mono ?_
      rintro e V ⟨rfl, hb⟩
      have HXV := Lib.hid ((hb.block _ (row_lt HXr.out)).trans HXr.out)
      have HBV := Lib.hid (HBr.out.trans (hb.mono HBr.out.size))
      go_wp2_with ((with_reducible refine wpl_store_row rtB ?_ (.tmp 4) (.tmp 92) ?_ (w.heap.size) ?_ (arr .i64 (fromL to)) ?_ arr_one 33 ?_ _ ?_ HXV.out ?_); rfl; rfl; rfl; rfl; simp [fromL_len, zer_len]; simp [fromL_len, zer_len]; intro w5 hr5 hg5 hs5; (try simp only [Act.put]))
      exact bodyPost_ret (res_arr_tmp2 at27 rfl _ _ w.heap.size 33 rfl (.int .i64 (used : Int)) (.int .i64 0) rfl rfl (fromL_len to) hr5) rfl ⟨by (rw [HK.out.1, HK.out.2.1, HK.out.2.2] <;> rfl), HBV.out.grown hg5 HBV.out.size (fun k hk => by cases hk; exact Nat.le_refl _)⟩
    have k63 : (k : Int) ≤ 63 := by omega
    by_cases hun : used = n
    · have HK := Lib.hid (bk_err HLAST.out 3 (by decide) _ _ (HRr.out.trans (rdL_out (by omega) hun)))
      have du : ((used : Int) == (n : Int)) = true := by simp [hun]
      obtain ⟨V, hV⟩ : ∃ V, V = wr := ⟨_, rfl⟩
      have HXV := HXr
      have HBV := HBr
      clear hun hV
      go_wp2_with ((with_reducible refine wpl_store_row rtB ?_ (.tmp 4) (.tmp 48) ?_ (w.heap.size) ?_ (arr .i64 zer) ?_ arr_one 33 ?_ _ ?_ HXV.out ?_); rfl; rfl; rfl; rfl; simp [fromL_len, zer_len]; simp [fromL_len, zer_len]; intro w5 hr5 hg5 hs5; (try simp only [Act.put]))
      exact bodyPost_ret (res_arr_tmp2 at27 rfl _ _ w.heap.size 33 rfl (.int .i64 0) (.int .i64 (3)) rfl rfl zer_len hr5) rfl ⟨by rw [HK.out.1, HK.out.2.1, HK.out.2.2]; rfl, HBV.out.grown hg5 HBV.out.size (fun k hk => by cases hk; exact Nat.le_refl _)⟩
    have du : ((used : Int) == (n : Int)) = false := by simp; omega
    have un : (used : Int) < (n : Int) := by omega
    have HSLr := Lib.hid (HSL.out.keep HBr.out)
    have hz4 : used * 4 + 4 ≤ zs.length := by have := HLEN.out; omega
    have k0 := bel_cells HSLr.out (used * 4) (by omega)
    have k1 := bel_cells HSLr.out (used * 4 + 1) (by omega)
    have k2 := bel_cells HSLr.out (used * 4 + 2) (by omega)
    have k3 := bel_cells HSLr.out (used * 4 + 3) (by omega)
    rw [← Nat.add_assoc] at k1 k2 k3
    have hbr : b < wr.heap.size := Nat.lt_of_lt_of_le hbw HBr.out.size
    clear HRT HRV
    have HRT := Lib.hid (fun W => right_any (nth zs (used * 4)) (nth zs (used * 4 + 1)) (nth zs (used * 4 + 2)) (nth zs (used * 4 + 3)) 1 10 W (HWF.out _ (by omega)) (HWF.out _ (by omega)))
    have HRV := Lib.hid (fun W => rvalue_any (nth zs (used * 4 + 2)) (nth zs (used * 4 + 3)) W (HWF.out _ (by omega)) (HWF.out _ (by omega)))
    have HOK := Lib.hid (show okA zs used 1 10 = okS (nth zs (used * 4)) (nth zs (used * 4 + 1)) (nth zs (used * 4 + 2)) (nth zs (used * 4 + 3)) 1 10 from rfl)
    have HSY := Lib.hid (show syA zs used = nth zs (used * 4 + 1) ∧ vlA zs used = vaN (nth zs (used * 4 + 2)) (nth zs (used * 4 + 3)) from ⟨rfl, rfl⟩)
    clear HSLr s0 s1 s2 h11
    generalize nth zs (used * 4) = a at *
    generalize nth zs (used * 4 + 1) = s at *
    generalize nth zs (used * 4 + 2) = va at *
    generalize nth zs (used * 4 + 3) = vn at *
    go_wp2_with fail
    have hbV := ba (brefl wr) (.cells #[.int .i64 a, .int .i64 s, .int .i64 va, .int .i64 vn] 45)
    have hQ := heap_alloc_new wr (.cells #[.int .i64 a, .int .i64 s, .int .i64 va, .int .i64 vn] 45)
    generalize wr.alloc (.cells #[.int .i64 a, .int .i64 s, .int .i64 va, .int .i64 vn] 45) = V at *
    clear k0 k1 k2 k3
    obtain ⟨q, hq⟩ : ∃ q, q = wr.heap.size := ⟨_, rfl⟩
    have HQV := Lib.hid (show V.heap[q]? = some (.cells #[.int .i64 a, .int .i64 s, .int .i64 va, .int .i64 vn] 45 (0, 0)) by rw [hq]; exact hQ)
    have HXV := Lib.hid ((hbV.block _ (row_lt HXr.out)).trans HXr.out)
    have HTV := Lib.hid ((hbV.block _ (row_lt HTr.out)).trans HTr.out)
    have HBV := Lib.hid (HBr.out.trans (hbV.mono HBr.out.size))
    rw [← hq]
    clear hq hQ hbV HXr HTr HBr hbr
    refine (HRT.out _).mono ?_
    rintro e V1 ⟨rfl, hb⟩
    replace HQV := Lib.hid ((hb.block _ (row_lt HQV.out)).trans HQV.out)
    replace HXV := Lib.hid ((hb.block _ (row_lt HXV.out)).trans HXV.out)
    replace HTV := Lib.hid ((hb.block _ (row_lt HTV.out)).trans HTV.out)
    replace HBV := Lib.hid (HBV.out.trans (hb.mono HBV.out.size))
    clear hb
    by_cases ho : okA zs used 1 10 = true
    case neg =>
      have ho : okA zs used 1 10 = false := by simpa using ho
      have HK := Lib.hid (bk_err HLAST.out 2 (by decide) _ _ (HRr.out.trans (rdL_no (by omega) (by omega) ho)))
      have hos := HOK.out ▸ ho
      rw [hos]
      clear hos ho
      go_wp2_with ((with_reducible refine wpl_store_row rtB ?_ (.tmp 4) (.tmp 56) ?_ (w.heap.size) ?_ (arr .i64 zer) ?_ arr_one 33 ?_ _ ?_ HXV.out ?_); rfl; rfl; rfl; rfl; simp [fromL_len, zer_len]; simp [fromL_len, zer_len]; intro w5 hr5 hg5 hs5; (try simp only [Act.put]))
      exact bodyPost_ret (res_arr_tmp2 at27 rfl _ _ w.heap.size 33 rfl (.int .i64 0) (.int .i64 (2)) rfl rfl zer_len hr5) rfl ⟨by rw [HK.out.1, HK.out.2.1, HK.out.2.2]; rfl, HBV.out.grown hg5 HBV.out.size (fun k hk => by cases hk; exact Nat.le_refl _)⟩
    have hos := HOK.out ▸ ho
    rw [hos]
    clear hos
    obtain ⟨-, -, s0, s1, s2, -⟩ := okA_facts ho
    have HSTOP := Lib.hid (fun h => HRr.out.trans (rdL_stop (by omega) (by omega) ho h))
    have HBAD := Lib.hid (fun h h' => HRr.out.trans (rdL_bad (by omega) (by omega) ho h h'))
    have HGO := Lib.hid (fun h h' => HRr.out.trans (rdL_go (by omega) (by omega) ho h h'))
    rw [HSY.out.1] at s0 s1 s2 HSTOP HBAD HGO
    rw [HSY.out.2] at HGO
    obtain ⟨R, hR⟩ := Int.eq_ofNat_of_zero_le (show 0 ≤ s / 16 by omega)
    have hRt : (s / 16).toNat = R := by omega
    rw [hRt] at HBAD HGO
    have q1 : V1.cell? ⟨q, 1, none⟩ = some (.int .i64 s) := row_cell HQV.out 1 rfl
    have q2 : V1.cell? ⟨q, 2, none⟩ = some (.int .i64 va) := row_cell HQV.out 2 rfl
    have q3 : V1.cell? ⟨q, 3, none⟩ = some (.int .i64 vn) := row_cell HQV.out 3 rfl
    clear ho HOK HSY HRr
    by_cases hs0 : s = 0
    · have HK := Lib.hid (bk_ok HLAST.out _ _ (HSTOP.out hs0))
      have ds : (s == 0) = true := by simp [hs0]
      clear hR hRt s0 s1 s2 hs0
      go_wp2_with ((with_reducible refine wpl_load_row rtB ?_ (.tmp 7) ?_ (g2) ?_ 33 (arr .i64 to) ?_ ?_ ?_); rfl; rfl; rfl; simp [hto]; exact HTV.out; simp only [Act.put, List.setIfInBounds_toArray, List.set_cons_succ, List.set_cons_zero])
      refine (rfrom_any to HTO.out _).mono ?_
      rintro e V ⟨rfl, hb⟩
      replace HXV := Lib.hid ((hb.block _ (row_lt HXV.out)).trans HXV.out)
      replace HBV := Lib.hid (HBV.out.trans (hb.mono HBV.out.size))
      go_wp2_with ((with_reducible refine wpl_store_row rtB ?_ (.tmp 4) (.tmp 92) ?_ (w.heap.size) ?_ (arr .i64 (fromL to)) ?_ arr_one 33 ?_ _ ?_ HXV.out ?_); rfl; rfl; rfl; rfl; simp [fromL_len, zer_len]; simp [fromL_len, zer_len]; intro w5 hr5 hg5 hs5; (try simp only [Act.put]))
      exact bodyPost_ret (res_arr_tmp2 at27 rfl _ _ w.heap.size 33 rfl (.int .i64 (used + 1 : Int)) (.int .i64 0) rfl rfl (fromL_len to) hr5) rfl ⟨by (rw [HK.out.1, HK.out.2.1, HK.out.2.2] <;> rfl), HBV.out.grown hg5 HBV.out.size (fun k hk => by cases hk; exact Nat.le_refl _)⟩
    have HG := Lib.hid (HGO.out hs0)
    have HB2 := Lib.hid (HBAD.out hs0)
    clear HGO HBAD HSTOP
    have ds : (s == 0) = false := by simp [hs0]
    by_cases hm : s % 16 = 0 ∧ s ≠ 240
    · have HK := Lib.hid (bk_err HLAST.out 2 (by decide) _ _ (HB2.out (.inl hm)))
      have d1 : (s % 16 == 0) = true := by simp [hm.1]
      have d2 : (s != 240) = true := by simp [hm.2]
      clear hm hR hRt hs0 s2
      go_wp2_with ((with_reducible refine wpl_store_row rtB ?_ (.tmp 4) (.tmp 80) ?_ (w.heap.size) ?_ (arr .i64 zer) ?_ arr_one 33 ?_ _ ?_ HXV.out ?_); rfl; rfl; rfl; rfl; simp [fromL_len, zer_len]; simp [fromL_len, zer_len]; intro w5 hr5 hg5 hs5; (try simp only [Act.put]))
      exact bodyPost_ret (res_arr_tmp2 at27 rfl _ _ w.heap.size 33 rfl (.int .i64 0) (.int .i64 (2)) rfl rfl zer_len hr5) rfl ⟨by rw [HK.out.1, HK.out.2.1, HK.out.2.2]; rfl, HBV.out.grown hg5 HBV.out.size (fun k hk => by cases hk; exact Nat.le_refl _)⟩
    by_cases h63 : 63 < k + R
    · have HK := Lib.hid (bk_err HLAST.out 2 (by decide) _ _ (HB2.out (.inr h63)))
      have e63 : 63 < (k : Int) + s / 16 := by omega
      by_cases h0 : s % 16 = 0
      · have d1 : (s % 16 == 0) = true := by simp [h0]
        have d2 : (s != 240) = false := by
          have : s = 240 := by omega
          simp [this]
        clear hm hR hRt hs0 s2 h0 h63
        go_wp2_with ((with_reducible refine wpl_store_row rtB ?_ (.tmp 4) (.tmp 80) ?_ (w.heap.size) ?_ (arr .i64 zer) ?_ arr_one 33 ?_ _ ?_ HXV.out ?_); rfl; rfl; rfl; rfl; simp [fromL_len, zer_len]; simp [fromL_len, zer_len]; intro w5 hr5 hg5 hs5; (try simp only [Act.put]))
        exact bodyPost_ret (res_arr_tmp2 at27 rfl _ _ w.heap.size 33 rfl (.int .i64 0) (.int .i64 (2)) rfl rfl zer_len hr5) rfl ⟨by rw [HK.out.1, HK.out.2.1, HK.out.2.2]; rfl, HBV.out.grown hg5 HBV.out.size (fun k hk => by cases hk; exact Nat.le_refl _)⟩
      · have d1 : (s % 16 == 0) = false := by simp [h0]
        clear hm hR hRt hs0 s2 h0 h63
        go_wp2_with ((with_reducible refine wpl_store_row rtB ?_ (.tmp 4) (.tmp 80) ?_ (w.heap.size) ?_ (arr .i64 zer) ?_ arr_one 33 ?_ _ ?_ HXV.out ?_); rfl; rfl; rfl; rfl; simp [fromL_len, zer_len]; simp [fromL_len, zer_len]; intro w5 hr5 hg5 hs5; (try simp only [Act.put]))
        exact bodyPost_ret (res_arr_tmp2 at27 rfl _ _ w.heap.size 33 rfl (.int .i64 0) (.int .i64 (2)) rfl rfl zer_len hr5) rfl ⟨by rw [HK.out.1, HK.out.2.1, HK.out.2.2]; rfl, HBV.out.grown hg5 HBV.out.size (fun k hk => by cases hk; exact Nat.le_refl _)⟩
    have HG2 := Lib.hid (HG.out (by rintro (h | h); exact hm h; exact h63 h))
    clear HG HB2
    obtain ⟨M, hM⟩ : ∃ M, M = k + R := ⟨_, rfl⟩
    rw [← hM] at HG2
    have HEM := Lib.hid (show (k : Int) + (R : Int) = (M : Int) by omega)
    have hM64 : M < 64 := by omega
    have hfM : 65 ≤ f + (M + 1) := by omega
    have hkM : k ≤ M := by omega
    have e63 : (k : Int) + (R : Int) ≤ 63 := by omega
    have hd : ((s % 16 == 0) = true ∧ (s != 240) = false) ∨ (s % 16 == 0) = false := by
      by_cases h0 : s % 16 = 0
      · have : s = 240 := by
          by_cases h : s = 240
          · exact h
          · exact absurd ⟨h0, h⟩ hm
        exact .inl ⟨by simp [h0], by simp [this]⟩
      · exact .inr (by simp [h0])
    clear hm hRt hs0 hM h63
    rcases hd with ⟨d1, d2⟩ | d1
    · go_wp2_with fail
      refine (HRV.out _).mono ?_
      rintro e V2 ⟨rfl, hb⟩
      rw [HEM.out]
      have HX' := Lib.hid ((hb.block _ (row_lt HXV.out)).trans HXV.out)
      have HT' := Lib.hid ((hb.block _ (row_lt HTV.out)).trans HTV.out)
      have HB' := Lib.hid (HBV.out.trans (hb.mono HBV.out.size))
      have cz : V2.cell? ⟨g2, M, none⟩ = some (.int .i64 (nth to M)) := blk_cell HT'.out M (by rw [HTO.out]; omega)
      have fz : V2.frozen? ⟨g2, M, none⟩ = false := frozen_of_row _ _ _ _ _ HT'.out
      generalize nth to M = old at cz
      generalize vaN va vn = vl at *
      clear hb HXV HTV HBV q1 q2 q3
      go_wp2_with fail
      go_roundw
      case rel => exact ⟨M + 1, used + 1, to.set M vl, by omega, by omega, by simp [hto], by go_num, by go_num, (set_other hXg).trans HX'.out, blk_set HT'.out M vl, HB'.out.setCell (p := ⟨g2, M, none⟩) hge _, f, hfM, HG2.out⟩
      case measure => simp [intOf]; omega
    · go_wp2_with fail
      refine (HRV.out _).mono ?_
      rintro e V2 ⟨rfl, hb⟩
      rw [HEM.out]
      have HX' := Lib.hid ((hb.block _ (row_lt HXV.out)).trans HXV.out)
      have HT' := Lib.hid ((hb.block _ (row_lt HTV.out)).trans HTV.out)
      have HB' := Lib.hid (HBV.out.trans (hb.mono HBV.out.size))
      have cz : V2.cell? ⟨g2, M, none⟩ = some (.int .i64 (nth to M)) := blk_cell HT'.out M (by rw [HTO.out]; omega)
      have fz : V2.frozen? ⟨g2, M, none⟩ = false := frozen_of_row _ _ _ _ _ HT'.out
      generalize nth to M = old at cz
      generalize vaN va vn = vl at *
      clear hb HXV HTV HBV q1 q2 q3
      go_wp2_with fail
      go_roundw
      case rel => exact ⟨M + 1, used + 1, to.set M vl, by omega, by omega, by simp [hto], by go_num, by go_num, (set_other hXg).trans HX'.out, blk_set HT'.out M vl, HB'.out.setCell (p := ⟨g2, M, none⟩) hge _, f, hfM, HG2.out⟩
      case measure => simp [intOf]; omega
end Go.Proofs.Ytckkncblbagfmaa
