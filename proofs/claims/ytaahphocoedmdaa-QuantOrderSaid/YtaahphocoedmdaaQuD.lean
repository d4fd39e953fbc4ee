/- The contracts of Scaled and its reference's numbers. -/
import Derived.Test.YtaahphocoedmdaaQuC
namespace Go.Proofs.Ytaahphocoedmdaa
open Go.RowKit
open Go.Tin
set_option linter.unusedVariables false
set_option linter.unusedSimpArgs false


/-- By how much numbers are scaled, of a quality. -/
def byI (n : Int) : Int := if n < 50 then 5000 / n else 200 - 2 * n
def scB (q : List Int) (n : Int) : Bool := inL q 1 255 && (decide (1 ≤ n) && decide (n ≤ 100))
def scL (q : List Int) (n : Int) : List Int := if scB q n = true then eachL (fun x _ => scaleI (byI n) x) q q else zer
def scE (q : List Int) (n : Int) : Int := if scB q n = true then 0 else 1
theorem scL_len (q : List Int) (n : Int) : (scL q n).length = 64 := by unfold scL; split <;> simp [zer_len]
theorem byI_bd {n : Int} (h : 1 ≤ n) (h' : n ≤ 100) : 0 ≤ byI n ∧ byI n ≤ 5000 := by
  unfold byI
  split
  · exact ⟨Int.ediv_nonneg (by decide) (by omega), Int.ediv_le_self _ (by decide)⟩
  · omega

set_option maxRecDepth 100000 in
set_option maxHeartbeats 4000000 in
theorem scaled_no (q : List Int) (hq : q.length = 64) (n : Int) (w : World) (hno : scB q n = false) :
    Calls Try.prog 9 #[.agg (arr .i64 q), .int .i64 n] w fun e w' => e = .returned (.tuple #[.agg (arr .i64 zer), .int .i64 1]) ∧ Below w.heap.size w w' := by
  have HQ := Lib.hid hq
  have HM := Lib.hid (fun W => may_any q hq W)
  clear hq
  unfold scB at hno
  go_enter Try.func9, Try.ntmps9
  obtain ⟨g0, g1, hB, hz⟩ := alloc2 w (.cells (arr .i64 q) 23) (.cells (arr .i64 zer) 23)
  replace g0 := Lib.hid g0
  replace g1 := Lib.hid g1
  go_wp2_with ((with_reducible refine wpl_load_row rtB ?_ (.tmp 2) ?_ (w.heap.size) ?_ 23 (arr .i64 q) ?_ ?_ ?_); rfl; rfl; rfl; simp [HQ.out]; exact g0.out; simp only [Act.put, List.setIfInBounds_toArray, List.set_cons_succ, List.set_cons_zero])
  generalize hW0 : (w.alloc _).alloc _ = W0
  replace g1 := Lib.hid (show W0.heap[w.heap.size + 1]? = some (.cells (arr .i64 zer) 23 (0, 0)) by rw [← hW0]; exact g1.out)
  replace hB : Below w.heap.size w W0 := by rw [← hW0]; exact hB
  replace hz : W0.heap.size = w.heap.size + 2 := by rw [← hW0]; exact hz
  clear hW0 g0
  refine (HM.out _).mono ?_
  rintro e w1 ⟨rfl, hb1⟩
  have h2 := Lib.hid ((hb1.block _ (show w.heap.size + 1 < _ by omega)).trans g1.out)
  have hz1 := hb1.size
  replace hB := bt hB hb1
  clear g1 hb1
  cases h1 : inL q 1 255
  · clear hno
    go_wp2_with ((with_reducible refine wpl_store_row rtB ?_ (.tmp 4) (.tmp 18) ?_ (w.heap.size + 1) ?_ (arr .i64 zer) ?_ arr_one 23 ?_ _ ?_ h2.out ?_); rfl; rfl; rfl; rfl; simp [zer_len]; simp [zer_len]; intro w5 hr5 hg5 hs5; (try simp only [Act.put]))
    exact bodyPost_ret (res_arr_tmp at27 rfl _ _ (w.heap.size + 1) 23 rfl (.int .i64 1) rfl zer_len hr5) rfl ⟨rfl, hB.grown hg5 hB.size (fun k hk => by cases hk; omega)⟩
  · rw [h1, Bool.true_and] at hno
    by_cases hn : n < 1
    · have d1 : decide (n < 1) = true := by simpa using hn
      clear hno
      go_wp2_with ((with_reducible refine wpl_store_row rtB ?_ (.tmp 4) (.tmp 18) ?_ (w.heap.size + 1) ?_ (arr .i64 zer) ?_ arr_one 23 ?_ _ ?_ h2.out ?_); rfl; rfl; rfl; rfl; simp [zer_len]; simp [zer_len]; intro w5 hr5 hg5 hs5; (try simp only [Act.put]))
      exact bodyPost_ret (res_arr_tmp at27 rfl _ _ (w.heap.size + 1) 23 rfl (.int .i64 1) rfl zer_len hr5) rfl ⟨rfl, hB.grown hg5 hB.size (fun k hk => by cases hk; omega)⟩
    · have d1 : decide (n < 1) = false := by simpa using hn
      have d2 : decide (100 < n) = true := by simp at hno; simp; omega
      clear hno
      go_wp2_with ((with_reducible refine wpl_store_row rtB ?_ (.tmp 4) (.tmp 18) ?_ (w.heap.size + 1) ?_ (arr .i64 zer) ?_ arr_one 23 ?_ _ ?_ h2.out ?_); rfl; rfl; rfl; rfl; simp [zer_len]; simp [zer_len]; intro w5 hr5 hg5 hs5; (try simp only [Act.put]))
      exact bodyPost_ret (res_arr_tmp at27 rfl _ _ (w.heap.size + 1) 23 rfl (.int .i64 1) rfl zer_len hr5) rfl ⟨rfl, hB.grown hg5 hB.size (fun k hk => by cases hk; omega)⟩

set_option maxRecDepth 100000 in
set_option maxHeartbeats 4000000 in
theorem scaled_yes (q : List Int) (hq : q.length = 64) (n : Int) (w : World) (hyes : scB q n = true) :
    Calls Try.prog 9 #[.agg (arr .i64 q), .int .i64 n] w fun e w' => e = .returned (.tuple #[.agg (arr .i64 (eachL (fun x _ => scaleI (byI n) x) q q)), .int .i64 0]) ∧ Below w.heap.size w w' := by
  have HQ := Lib.hid hq
  have HM := Lib.hid (fun W => may_any q hq W)
  unfold scB at hyes
  simp only [Bool.and_eq_true, decide_eq_true_eq] at hyes
  obtain ⟨h1, n0, n1⟩ := hyes
  obtain ⟨s0, s1⟩ := byI_bd n0 n1
  have HE := Lib.hid (fun (W : World) (g : Nat) (hg : g < W.heap.size) (hc : W.cell? ⟨g, 0, none⟩ = some (.int .i64 (byI n))) => each_any (fun x _ => scaleI (byI n) x) q q hq hq 21 #[.pointer (some ⟨g, 0, none⟩)] W (hcf 21 _ _ Try.func21 (by kernel_rfl) rfl) (fun W' i hb hi => by
    have hx := inL_t h1 i (by omega)
    have := scaled1_any (byI n) (nth q i) (nth q i) g W' ((hb.cell (p := ⟨g, 0, none⟩) hg).trans hc) s0 s1 hx.1 hx.2
    simpa using this))
  have HL := Lib.hid (eachL_len (fun x _ => scaleI (byI n) x) q q)
  have H1 := Lib.hid h1
  have HN := Lib.hid (show n < 50 → byI n = 5000 / n from fun h => by unfold byI; rw [if_pos h])
  have HN2 := Lib.hid (show 50 ≤ n → byI n = 200 - 2 * n from fun h => by unfold byI; rw [if_neg (by omega)])
  clear hq h1 s0 s1
  generalize eachL (fun x _ => scaleI (byI n) x) q q = r at *
  generalize byI n = s at *
  go_enter Try.func9, Try.ntmps9
  obtain ⟨g0, g1, hB, hz⟩ := alloc2 w (.cells (arr .i64 q) 23) (.cells (arr .i64 zer) 23)
  replace g0 := Lib.hid g0
  replace g1 := Lib.hid g1
  go_wp2_with ((with_reducible refine wpl_load_row rtB ?_ (.tmp 2) ?_ (w.heap.size) ?_ 23 (arr .i64 q) ?_ ?_ ?_); rfl; rfl; rfl; simp [HQ.out]; exact g0.out; simp only [Act.put, List.setIfInBounds_toArray, List.set_cons_succ, List.set_cons_zero])
  generalize hW0 : (w.alloc _).alloc _ = W0
  replace g0 := Lib.hid (show W0.heap[w.heap.size]? = some (.cells (arr .i64 q) 23 (0, 0)) by rw [← hW0]; exact g0.out)
  replace g1 := Lib.hid (show W0.heap[w.heap.size + 1]? = some (.cells (arr .i64 zer) 23 (0, 0)) by rw [← hW0]; exact g1.out)
  replace hB : Below w.heap.size w W0 := by rw [← hW0]; exact hB
  replace hz : W0.heap.size = w.heap.size + 2 := by rw [← hW0]; exact hz
  clear hW0
  refine (HM.out _).mono ?_
  rw [H1.out]
  rintro e w1 ⟨rfl, hb1⟩
  have h0 := Lib.hid ((hb1.block _ (show w.heap.size < _ by omega)).trans g0.out)
  have h2 := Lib.hid ((hb1.block _ (show w.heap.size + 1 < _ by omega)).trans g1.out)
  have hz1 := hb1.size
  replace hB := bt hB hb1
  clear g0 g1 hb1
  have h3 := Lib.hid (fun o => ((ba (brefl w1) o).block _ (show w.heap.size < _ by omega)).trans h0.out)
  have h4 := Lib.hid (fun o => ((ba (brefl w1) o).block _ (show w.heap.size + 1 < _ by omega)).trans h2.out)
  by_cases hn : n < 50
  · have E1 := Lib.hid (HN.out hn)
    go_wp2_with ((with_reducible refine wpl_load_row rtB ?_ (.tmp 2) ?_ (w.heap.size) ?_ 23 (arr .i64 q) ?_ ?_ ?_); rfl; rfl; rfl; simp [HQ.out]; exact h3.out _; simp only [Act.put, List.setIfInBounds_toArray, List.set_cons_succ, List.set_cons_zero])
    refine (HE.out _ w1.heap.size (by simp) (by rw [E1.out]; simp [go_sem])).mono ?_
    rintro e w2 ⟨rfl, hb2⟩
    replace hB := bt (ba hB (.cells #[.int .i64 (5000 / n)] 3)) hb2
    have h5 := Lib.hid ((hb2.block _ (show w.heap.size + 1 < (w1.alloc (.cells #[.int .i64 (5000 / n)] 3)).heap.size by simp; omega)).trans (h4.out _))
    have hz2 := hb2.size
    rw [World.size_alloc] at hz2
    clear hb2 h3 h4 h0 h2
    go_wp2_with ((with_reducible refine wpl_store_row rtB ?_ (.tmp 4) (.tmp 29) ?_ (w.heap.size + 1) ?_ (arr .i64 r) ?_ arr_one 23 ?_ _ ?_ h5.out ?_); rfl; rfl; rfl; rfl; simp [HL.out]; simp [zer_len]; intro w5 hr5 hg5 hs5; (try simp only [Act.put]))
    exact bodyPost_ret (res_arr_tmp at27 rfl _ _ (w.heap.size + 1) 23 rfl (.int .i64 0) rfl HL.out hr5) rfl ⟨rfl, hB.grown hg5 hB.size (fun k hk => by cases hk; omega)⟩
  · have E1 := Lib.hid (HN2.out (by omega))
    go_wp2_with ((with_reducible refine wpl_load_row rtB ?_ (.tmp 2) ?_ (w.heap.size) ?_ 23 (arr .i64 q) ?_ ?_ ?_); rfl; rfl; rfl; simp [HQ.out]; exact h3.out _; simp only [Act.put, List.setIfInBounds_toArray, List.set_cons_succ, List.set_cons_zero])
    refine (HE.out _ w1.heap.size (by simp) (by rw [E1.out]; simp [go_sem])).mono ?_
    rintro e w2 ⟨rfl, hb2⟩
    replace hB := bt (ba hB (.cells #[.int .i64 (200 - 2 * n)] 3)) hb2
    have h5 := Lib.hid ((hb2.block _ (show w.heap.size + 1 < (w1.alloc (.cells #[.int .i64 (200 - 2 * n)] 3)).heap.size by simp; omega)).trans (h4.out _))
    have hz2 := hb2.size
    rw [World.size_alloc] at hz2
    clear hb2 h3 h4 h0 h2
    go_wp2_with ((with_reducible refine wpl_store_row rtB ?_ (.tmp 4) (.tmp 29) ?_ (w.heap.size + 1) ?_ (arr .i64 r) ?_ arr_one 23 ?_ _ ?_ h5.out ?_); rfl; rfl; rfl; rfl; simp [HL.out]; simp [zer_len]; intro w5 hr5 hg5 hs5; (try simp only [Act.put]))
    exact bodyPost_ret (res_arr_tmp at27 rfl _ _ (w.heap.size + 1) 23 rfl (.int .i64 0) rfl HL.out hr5) rfl ⟨rfl, hB.grown hg5 hB.size (fun k hk => by cases hk; omega)⟩

theorem scaled_any (q : List Int) (hq : q.length = 64) (n : Int) (w : World) :
    Calls Try.prog 9 #[.agg (arr .i64 q), .int .i64 n] w fun e w' => e = .returned (.tuple #[.agg (arr .i64 (scL q n)), .int .i64 (scE q n)]) ∧ Below w.heap.size w w' := by
  unfold scL scE
  by_cases h : scB q n = true
  · rw [if_pos h, if_pos h]
    exact scaled_yes q hq n w h
  · rw [if_neg h, if_neg h]
    exact scaled_no q hq n w (by simpa using h)
end Go.Proofs.Ytaahphocoedmdaa
