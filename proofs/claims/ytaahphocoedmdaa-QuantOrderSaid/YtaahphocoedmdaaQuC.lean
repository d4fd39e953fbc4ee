/- The contracts of done, Divide and Multiply: a block divided, and multiplied. -/
import Derived.Test.YtaahphocoedmdaaQuB
namespace Go.Proofs.Ytaahphocoedmdaa
open Go.RowKit
open Go.Tin
set_option linter.unusedVariables false
set_option linter.unusedSimpArgs false


def doneB (a b : List Int) : Bool := inL b 1 255 && inL a (-1048576) 1048576
def zer : List Int := List.replicate 64 0
theorem zer_len : zer.length = 64 := rfl
theorem inL_t {l : List Int} {a b : Int} (h : inL l a b = true) (i : Nat) (hi : i < l.length) : a ≤ nth l i ∧ nth l i ≤ b := by
  unfold inL at h
  have h2 : l.any (outB a b) = false := by simpa using h
  rw [List.any_eq_false] at h2
  have h3 := h2 (l[i]) (List.getElem_mem hi)
  have e : nth l i = l[i] := by simp [nth, List.getD_eq_getElem?_getD, hi]
  rw [e]
  unfold outB at h3
  simp at h3
  omega
theorem res_arr2 {l l' : List Int} {a b : Int} (h : l = l') (h' : a = b) : Ending.returned (.tuple #[.agg (arr .i64 l), .int .i64 a]) = .returned (.tuple #[.agg (arr .i64 l'), .int .i64 b]) := by rw [h, h']

set_option maxRecDepth 100000 in
set_option maxHeartbeats 4000000 in
theorem done_no (a b : List Int) (ha : a.length = 64) (hb : b.length = 64) (fv : Value) (w : World) (hno : doneB a b = false) :
    Calls Try.prog 26 #[.agg (arr .i64 a), .agg (arr .i64 b), fv] w fun e w' => e = .returned (.tuple #[.agg (arr .i64 zer), .int .i64 1]) ∧ Below w.heap.size w w' := by
  have HA := Lib.hid ha
  have HB := Lib.hid hb
  have HM := Lib.hid (fun W => may_any b hb W)
  have HW := Lib.hid (fun W => within_any a ha (-1048576) 1048576 W)
  clear ha hb
  unfold doneB at hno
  go_enter Try.func26, Try.ntmps26
  obtain ⟨g0, g1, g2, hB, hz⟩ := alloc3 w (.cells (arr .i64 a) 23) (.cells (arr .i64 b) 23) (.cells (arr .i64 zer) 23)
  replace g0 := Lib.hid g0
  replace g1 := Lib.hid g1
  replace g2 := Lib.hid g2
  go_wp2_with ((with_reducible refine wpl_load_row rtB ?_ (.tmp 4) ?_ (w.heap.size + 1) ?_ 23 (arr .i64 b) ?_ ?_ ?_); rfl; rfl; rfl; simp [HB.out]; exact g1.out; simp only [Act.put, List.setIfInBounds_toArray, List.set_cons_succ, List.set_cons_zero])
  generalize hW0 : ((w.alloc _).alloc _).alloc _ = W0
  replace g0 := Lib.hid (show W0.heap[w.heap.size]? = some (.cells (arr .i64 a) 23 (0, 0)) by rw [← hW0]; exact g0.out)
  replace g1 := Lib.hid (show W0.heap[w.heap.size + 1]? = some (.cells (arr .i64 b) 23 (0, 0)) by rw [← hW0]; exact g1.out)
  replace g2 := Lib.hid (show W0.heap[w.heap.size + 2]? = some (.cells (arr .i64 zer) 23 (0, 0)) by rw [← hW0]; exact g2.out)
  replace hB : Below w.heap.size w W0 := by rw [← hW0]; exact hB
  replace hz : W0.heap.size = w.heap.size + 3 := by rw [← hW0]; exact hz
  clear hW0
  refine (HM.out _).mono ?_
  rintro e w1 ⟨rfl, hb1⟩
  have h0 := Lib.hid ((hb1.block _ (show w.heap.size < _ by omega)).trans g0.out)
  have h2 := Lib.hid ((hb1.block _ (show w.heap.size + 2 < _ by omega)).trans g2.out)
  have hz1 := hb1.size
  replace hB := bt hB hb1
  clear g0 g1 g2 hb1
  cases h1 : inL b 1 255
  · clear hno
    go_wp2_with ((with_reducible refine wpl_store_row rtB ?_ (.tmp 6) (.tmp 16) ?_ (w.heap.size + 2) ?_ (arr .i64 zer) ?_ arr_one 23 ?_ _ ?_ h2.out ?_); rfl; rfl; rfl; rfl; simp [zer_len]; simp [zer_len]; intro w5 hr5 hg5 hs5; (try simp only [Act.put]))
    exact bodyPost_ret (res_arr_tmp at27 rfl _ _ (w.heap.size + 2) 23 rfl (.int .i64 1) rfl zer_len hr5) rfl ⟨rfl, hB.grown hg5 hB.size (fun k hk => by cases hk; omega)⟩
  · have hno2 : inL a (-1048576) 1048576 = false := by rw [h1] at hno; simpa using hno
    clear hno
    go_wp2_with ((with_reducible refine wpl_load_row rtB ?_ (.tmp 3) ?_ (w.heap.size) ?_ 23 (arr .i64 a) ?_ ?_ ?_); rfl; rfl; rfl; simp [HA.out]; exact h0.out; simp only [Act.put, List.setIfInBounds_toArray, List.set_cons_succ, List.set_cons_zero])
    refine (HW.out _).mono ?_
    rw [hno2]
    rintro e w2 ⟨rfl, hb2⟩
    replace h2 := Lib.hid ((hb2.block _ (show w.heap.size + 2 < _ by omega)).trans h2.out)
    have hz2 := hb2.size
    replace hB := bt hB hb2
    clear h0 hb2
    go_wp2_with ((with_reducible refine wpl_store_row rtB ?_ (.tmp 6) (.tmp 16) ?_ (w.heap.size + 2) ?_ (arr .i64 zer) ?_ arr_one 23 ?_ _ ?_ h2.out ?_); rfl; rfl; rfl; rfl; simp [zer_len]; simp [zer_len]; intro w5 hr5 hg5 hs5; (try simp only [Act.put]))
    exact bodyPost_ret (res_arr_tmp at27 rfl _ _ (w.heap.size + 2) 23 rfl (.int .i64 1) rfl zer_len hr5) rfl ⟨rfl, hB.grown hg5 hB.size (fun k hk => by cases hk; omega)⟩

set_option maxRecDepth 100000 in
set_option maxHeartbeats 4000000 in
theorem done_yes (G : Int → Int → Int) (f : FuncId) (a b : List Int) (ha : a.length = 64) (hb : b.length = 64) (w : World)
    (hcf : ∀ (vs : Array Value) (W : World), (callFunc f vs).run Try.prog W = .ok (.enter f vs) W)
    (hcall : ∀ (W : World) (i : Nat), i < 64 → Calls Try.prog f #[.int .i64 (nth a i), .int .i64 (nth b i)] W fun e w' => e = .returned (.int .i64 (G (nth a i) (nth b i))) ∧ W = w') (hyes : doneB a b = true) :
    Calls Try.prog 26 #[.agg (arr .i64 a), .agg (arr .i64 b), .func (.func f) #[] #[]] w fun e w' => e = .returned (.tuple #[.agg (arr .i64 (eachL G a b)), .int .i64 0]) ∧ Below w.heap.size w w' := by
  have HA := Lib.hid ha
  have HB := Lib.hid hb
  have HM := Lib.hid (fun W => may_any b hb W)
  have HW := Lib.hid (fun W => within_any a ha (-1048576) 1048576 W)
  have HE := Lib.hid (fun W => each_any G a b ha hb f #[] W hcf (fun W' i _ hi => by have := hcall W' i hi; simpa using this))
  clear ha hb hcall
  unfold doneB at hyes
  rw [Bool.and_eq_true] at hyes
  obtain ⟨h1, h3⟩ := hyes
  have H1 := Lib.hid h1
  have H3 := Lib.hid h3
  clear h1 h3
  go_enter Try.func26, Try.ntmps26
  obtain ⟨g0, g1, g2, hB, hz⟩ := alloc3 w (.cells (arr .i64 a) 23) (.cells (arr .i64 b) 23) (.cells (arr .i64 zer) 23)
  replace g0 := Lib.hid g0
  replace g1 := Lib.hid g1
  replace g2 := Lib.hid g2
  go_wp2_with ((with_reducible refine wpl_load_row rtB ?_ (.tmp 4) ?_ (w.heap.size + 1) ?_ 23 (arr .i64 b) ?_ ?_ ?_); rfl; rfl; rfl; simp [HB.out]; exact g1.out; simp only [Act.put, List.setIfInBounds_toArray, List.set_cons_succ, List.set_cons_zero])
  generalize hW0 : ((w.alloc _).alloc _).alloc _ = W0
  replace g0 := Lib.hid (show W0.heap[w.heap.size]? = some (.cells (arr .i64 a) 23 (0, 0)) by rw [← hW0]; exact g0.out)
  replace g1 := Lib.hid (show W0.heap[w.heap.size + 1]? = some (.cells (arr .i64 b) 23 (0, 0)) by rw [← hW0]; exact g1.out)
  replace g2 := Lib.hid (show W0.heap[w.heap.size + 2]? = some (.cells (arr .i64 zer) 23 (0, 0)) by rw [← hW0]; exact g2.out)
  replace hB : Below w.heap.size w W0 := by rw [← hW0]; exact hB
  replace hz : W0.heap.size = w.heap.size + 3 := by rw [← hW0]; exact hz
  clear hW0
  refine (HM.out _).mono ?_
  rw [H1.out]
  rintro e w1 ⟨rfl, hb1⟩
  have h0 := Lib.hid ((hb1.block _ (show w.heap.size < _ by omega)).trans g0.out)
  have h1 := Lib.hid ((hb1.block _ (show w.heap.size + 1 < _ by omega)).trans g1.out)
  have h2 := Lib.hid ((hb1.block _ (show w.heap.size + 2 < _ by omega)).trans g2.out)
  have hz1 := hb1.size
  replace hB := bt hB hb1
  clear g0 g1 g2 hb1
  go_wp2_with ((with_reducible refine wpl_load_row rtB ?_ (.tmp 3) ?_ (w.heap.size) ?_ 23 (arr .i64 a) ?_ ?_ ?_); rfl; rfl; rfl; simp [HA.out]; exact h0.out; simp only [Act.put, List.setIfInBounds_toArray, List.set_cons_succ, List.set_cons_zero])
  refine (HW.out _).mono ?_
  rw [H3.out]
  rintro e w2 ⟨rfl, hb2⟩
  replace h0 := Lib.hid ((hb2.block _ (show w.heap.size < _ by omega)).trans h0.out)
  replace h1 := Lib.hid ((hb2.block _ (show w.heap.size + 1 < _ by omega)).trans h1.out)
  replace h2 := Lib.hid ((hb2.block _ (show w.heap.size + 2 < _ by omega)).trans h2.out)
  have hz2 := hb2.size
  replace hB := bt hB hb2
  clear hb2
  go_wp2_with (first | ((with_reducible refine wpl_load_row rtB ?_ (.tmp 3) ?_ (w.heap.size) ?_ 23 (arr .i64 a) ?_ ?_ ?_); rfl; rfl; rfl; simp [HA.out]; exact h0.out; simp only [Act.put, List.setIfInBounds_toArray, List.set_cons_succ, List.set_cons_zero]) | ((with_reducible refine wpl_load_row rtB ?_ (.tmp 4) ?_ (w.heap.size + 1) ?_ 23 (arr .i64 b) ?_ ?_ ?_); rfl; rfl; rfl; simp [HB.out]; exact h1.out; simp only [Act.put, List.setIfInBounds_toArray, List.set_cons_succ, List.set_cons_zero]))
  refine (HE.out _).mono ?_
  rintro e w3 ⟨rfl, hb3⟩
  replace h2 := Lib.hid ((hb3.block _ (show w.heap.size + 2 < _ by omega)).trans h2.out)
  have hz3 := hb3.size
  replace hB := bt hB hb3
  clear hb3 h0 h1
  have HL := Lib.hid (eachL_len G a b)
  go_wp2_with ((with_reducible refine wpl_store_row rtB ?_ (.tmp 6) (.tmp 20) ?_ (w.heap.size + 2) ?_ (arr .i64 (eachL G a b)) ?_ arr_one 23 ?_ _ ?_ h2.out ?_); rfl; rfl; rfl; rfl; simp [zer_len]; simp [zer_len]; intro w5 hr5 hg5 hs5; (try simp only [Act.put]))
  exact bodyPost_ret (res_arr_tmp at27 rfl _ _ (w.heap.size + 2) 23 rfl (.int .i64 0) rfl (eachL_len G a b) hr5) rfl ⟨rfl, hB.grown hg5 hB.size (fun k hk => by cases hk; omega)⟩

/-- What a block divided, or multiplied, is; which error. -/
def doL (G : Int → Int → Int) (a b : List Int) : List Int := if doneB a b = true then eachL G a b else zer
def doE (a b : List Int) : Int := if doneB a b = true then 0 else 1
theorem doL_len (G : Int → Int → Int) (a b : List Int) : (doL G a b).length = 64 := by unfold doL; split <;> simp [zer_len]
def mulI (x y : Int) : Int := x * y

set_option maxRecDepth 100000 in
set_option maxHeartbeats 4000000 in
theorem divide_any (a b : List Int) (ha : a.length = 64) (hb : b.length = 64) (w : World) :
    Calls Try.prog 14 #[.agg (arr .i64 a), .agg (arr .i64 b)] w fun e w' => e = .returned (.tuple #[.agg (arr .i64 (doL nearI a b)), .int .i64 (doE a b)]) ∧ Below w.heap.size w w' := by
  have hd : ∀ W : World, Calls Try.prog 26 #[.agg (arr .i64 a), .agg (arr .i64 b), .func (.func 27) #[] #[]] W fun e w' => e = .returned (.tuple #[.agg (arr .i64 (doL nearI a b)), .int .i64 (doE a b)]) ∧ Below W.heap.size W w' := by
    intro W
    unfold doL doE
    by_cases h : doneB a b = true
    · rw [if_pos h, if_pos h]
      refine done_yes nearI 27 a b ha hb W (hcf 27 _ _ Try.func27 (by kernel_rfl) rfl) (fun W' i hi => ?_) h
      unfold doneB at h
      rw [Bool.and_eq_true] at h
      have h1 := inL_t h.1 i (by omega)
      have h2 := inL_t h.2 i (by omega)
      exact near_any _ _ W' (by omega) (by omega) h1.1 h1.2
    · rw [if_neg h, if_neg h]
      exact done_no a b ha hb _ W (by simpa using h)
  have HA := Lib.hid ha
  have HB := Lib.hid hb
  have HD := Lib.hid hd
  have HL := Lib.hid (doL_len nearI a b)
  clear ha hb hd
  generalize doL nearI a b = r at *
  generalize doE a b = er at *
  go_enter Try.func14, Try.ntmps14
  obtain ⟨g0, g1, g2, hB, hz⟩ := alloc3 w (.cells (arr .i64 a) 23) (.cells (arr .i64 b) 23) (.cells (arr .i64 zer) 23)
  replace g0 := Lib.hid g0
  replace g1 := Lib.hid g1
  replace g2 := Lib.hid g2
  go_wp2_with (first | ((with_reducible refine wpl_load_row rtB ?_ (.tmp 2) ?_ (w.heap.size) ?_ 23 (arr .i64 a) ?_ ?_ ?_); rfl; rfl; rfl; simp [HA.out]; exact g0.out; simp only [Act.put, List.setIfInBounds_toArray, List.set_cons_succ, List.set_cons_zero]) | ((with_reducible refine wpl_load_row rtB ?_ (.tmp 3) ?_ (w.heap.size + 1) ?_ 23 (arr .i64 b) ?_ ?_ ?_); rfl; rfl; rfl; simp [HB.out]; exact g1.out; simp only [Act.put, List.setIfInBounds_toArray, List.set_cons_succ, List.set_cons_zero]))
  generalize hW0 : ((w.alloc _).alloc _).alloc _ = W0
  replace g2 := Lib.hid (show W0.heap[w.heap.size + 2]? = some (.cells (arr .i64 zer) 23 (0, 0)) by rw [← hW0]; exact g2.out)
  replace hB : Below w.heap.size w W0 := by rw [← hW0]; exact hB
  replace hz : W0.heap.size = w.heap.size + 3 := by rw [← hW0]; exact hz
  clear hW0 g0 g1
  refine (HD.out _).mono ?_
  rintro e w3 ⟨rfl, hb3⟩
  have h2 := Lib.hid ((hb3.block _ (show w.heap.size + 2 < _ by omega)).trans g2.out)
  replace hB := bt hB hb3
  have hz3 := hb3.size
  clear hb3 g2
  go_wp2_with ((with_reducible refine wpl_store_row rtB ?_ (.tmp 4) (.tmp 9) ?_ (w.heap.size + 2) ?_ (arr .i64 r) ?_ arr_one 23 ?_ _ ?_ h2.out ?_); rfl; rfl; rfl; rfl; simp [HL.out]; simp [zer_len]; intro w5 hr5 hg5 hs5; (try simp only [Act.put]))
  exact bodyPost_ret (res_arr_tmp at27 rfl _ _ (w.heap.size + 2) 23 rfl (.int .i64 er) rfl HL.out hr5) rfl ⟨rfl, hB.grown hg5 hB.size (fun k hk => by cases hk; omega)⟩


set_option maxRecDepth 100000 in
set_option maxHeartbeats 4000000 in
theorem multiply_any (a b : List Int) (ha : a.length = 64) (hb : b.length = 64) (w : World) :
    Calls Try.prog 15 #[.agg (arr .i64 a), .agg (arr .i64 b)] w fun e w' => e = .returned (.tuple #[.agg (arr .i64 (doL mulI a b)), .int .i64 (doE a b)]) ∧ Below w.heap.size w w' := by
  have hd : ∀ W : World, Calls Try.prog 26 #[.agg (arr .i64 a), .agg (arr .i64 b), .func (.func 28) #[] #[]] W fun e w' => e = .returned (.tuple #[.agg (arr .i64 (doL mulI a b)), .int .i64 (doE a b)]) ∧ Below W.heap.size W w' := by
    intro W
    unfold doL doE
    by_cases h : doneB a b = true
    · rw [if_pos h, if_pos h]
      refine done_yes mulI 28 a b ha hb W (hcf 28 _ _ Try.func28 (by kernel_rfl) rfl) (fun W' i hi => ?_) h
      unfold doneB at h
      rw [Bool.and_eq_true] at h
      have h1 := inL_t h.1 i (by omega)
      have h2 := inL_t h.2 i (by omega)
      exact times_any _ _ W' (by omega) (by omega) h1.1 h1.2
    · rw [if_neg h, if_neg h]
      exact done_no a b ha hb _ W (by simpa using h)
  have HA := Lib.hid ha
  have HB := Lib.hid hb
  have HD := Lib.hid hd
  have HL := Lib.hid (doL_len mulI a b)
  clear ha hb hd
  generalize doL mulI a b = r at *
  generalize doE a b = er at *
  go_enter Try.func15, Try.ntmps15
  obtain ⟨g0, g1, g2, hB, hz⟩ := alloc3 w (.cells (arr .i64 a) 23) (.cells (arr .i64 b) 23) (.cells (arr .i64 zer) 23)
  replace g0 := Lib.hid g0
  replace g1 := Lib.hid g1
  replace g2 := Lib.hid g2
  go_wp2_with (first | ((with_reducible refine wpl_load_row rtB ?_ (.tmp 2) ?_ (w.heap.size) ?_ 23 (arr .i64 a) ?_ ?_ ?_); rfl; rfl; rfl; simp [HA.out]; exact g0.out; simp only [Act.put, List.setIfInBounds_toArray, List.set_cons_succ, List.set_cons_zero]) | ((with_reducible refine wpl_load_row rtB ?_ (.tmp 3) ?_ (w.heap.size + 1) ?_ 23 (arr .i64 b) ?_ ?_ ?_); rfl; rfl; rfl; simp [HB.out]; exact g1.out; simp only [Act.put, List.setIfInBounds_toArray, List.set_cons_succ, List.set_cons_zero]))
  generalize hW0 : ((w.alloc _).alloc _).alloc _ = W0
  replace g2 := Lib.hid (show W0.heap[w.heap.size + 2]? = some (.cells (arr .i64 zer) 23 (0, 0)) by rw [← hW0]; exact g2.out)
  replace hB : Below w.heap.size w W0 := by rw [← hW0]; exact hB
  replace hz : W0.heap.size = w.heap.size + 3 := by rw [← hW0]; exact hz
  clear hW0 g0 g1
  refine (HD.out _).mono ?_
  rintro e w3 ⟨rfl, hb3⟩
  have h2 := Lib.hid ((hb3.block _ (show w.heap.size + 2 < _ by omega)).trans g2.out)
  replace hB := bt hB hb3
  have hz3 := hb3.size
  clear hb3 g2
  go_wp2_with ((with_reducible refine wpl_store_row rtB ?_ (.tmp 4) (.tmp 9) ?_ (w.heap.size + 2) ?_ (arr .i64 r) ?_ arr_one 23 ?_ _ ?_ h2.out ?_); rfl; rfl; rfl; rfl; simp [HL.out]; simp [zer_len]; intro w5 hr5 hg5 hs5; (try simp only [Act.put]))
  exact bodyPost_ret (res_arr_tmp at27 rfl _ _ (w.heap.size + 2) 23 rfl (.int .i64 er) rfl HL.out hr5) rfl ⟨rfl, hB.grown hg5 hB.size (fun k hk => by cases hk; omega)⟩
end Go.Proofs.Ytaahphocoedmdaa
