/- The contracts of Forward and Inverse. -/
import Derived.Test.YtmfipjpmfigjaaaF
namespace Go.Proofs.Ytmfipjpmfigjaaa
open Go.RowKit
open Go.Tin
set_option linter.unusedVariables false
set_option linter.unusedSimpArgs false

def fwdF (a b : Nat) : Int := if a < 8 ∧ b < 8 then facN a b else 0
def invF (a b : Nat) : Int := if a < 8 ∧ b < 8 then facN b a else 0
theorem facN_bd : ∀ a, a < 8 → ∀ b, b < 8 → -32768 ≤ facN a b ∧ facN a b ≤ 32768 := by decide
theorem fwdF_bd (a b : Nat) : -32768 ≤ fwdF a b ∧ fwdF a b ≤ 32768 := by
  unfold fwdF
  split
  · exact facN_bd a (by omega) b (by omega)
  · decide
theorem invF_bd (a b : Nat) : -32768 ≤ invF a b ∧ invF a b ≤ 32768 := by
  unfold invF
  split
  · exact facN_bd b (by omega) a (by omega)
  · decide
/-- What is told of a block: its coefficients, or the error. -/
def dctL (F : Nat → Nat → Int) (l : List Int) : List Int := if l.any bigB = true then List.replicate 64 0 else rndL (rowsL F (rowsL F l))
def dctE (l : List Int) : Int := if l.any bigB = true then 1 else 0
theorem dctL_len (F : Nat → Nat → Int) (l : List Int) : (dctL F l).length = 64 := by unfold dctL; split <;> simp [rndL_len]

set_option maxRecDepth 100000 in
set_option maxHeartbeats 4000000 in
theorem forward_any (l : List Int) (hl : l.length = 64) (w : World) :
    Calls Try.prog 10 #[.agg (arr .i64 l)] w fun e w' => e = .returned (.tuple #[.agg (arr .i64 (dctL fwdF l)), .int .i64 (dctE l)]) ∧ Below w.heap.size w w' := by
  have HL := Lib.hid hl
  have hgl : gridL.length = 64 := full_len _ _
  have HG := Lib.hid hgl
  have hdone : ∀ (g : Nat) (W : World), g < W.heap.size → W.heap[g]? = some (.cells (arr .i64 gridL) 42 (0, 0)) → Calls Try.prog 21 #[.agg (arr .i64 l), .func (.func 22) #[] #[.pointer (some ⟨g, 0, none⟩)]] W fun e w' => e = .returned (.tuple #[.agg (arr .i64 (dctL fwdF l)), .int .i64 (dctE l)]) ∧ Below W.heap.size W w' := fun g W hlt hg => by
    unfold dctL dctE
    by_cases h : l.any bigB = true
    · simp only [if_pos h]
      exact done_no l hl _ h W
    · simp only [if_neg h]
      refine done_yes fwdF l hl (by simpa using h) fwdF_bd 22 #[] #[.pointer (some ⟨g, 0, none⟩)] W (hcf 22 Try.f22 _ Try.func22 (by kernel_rfl) rfl) fun Wd a b hb ha hb' => ?_
      have h1 := fwd1_any a b g ha hb' Wd ((hb.block _ hlt).trans hg)
      unfold fwdF
      rw [if_pos ⟨ha, hb'⟩]
      exact h1
  have HD := Lib.hid hdone
  clear hl hgl hdone
  go_enter Try.func10, Try.ntmps10
  have q0 := heap_alloc2_old w (.cells (arr .i64 l) 26) (.cells (Array.replicate 64 (.int .i64 0)) 26)
  have q1 := heap_alloc2_new w (.cells (arr .i64 l) 26) (.cells (Array.replicate 64 (.int .i64 0)) 26)
  have hB := ba (ba (brefl w) (.cells (arr .i64 l) 26)) (.cells (Array.replicate 64 (.int .i64 0)) 26)
  have hz : ((w.alloc (.cells (arr .i64 l) 26)).alloc (.cells (Array.replicate 64 (.int .i64 0)) 26)).heap.size = w.heap.size + 2 := by simp
  rw [← arr_rep] at q1
  go_wp2_with fail
  generalize hW0 : (w.alloc _).alloc _ = W0
  replace q0 : W0.heap[w.heap.size]? = some (.cells (arr .i64 l) 26 (0, 0)) := by rw [← hW0]; exact q0
  replace q1 : W0.heap[w.heap.size + 1]? = some (.cells (arr .i64 (List.replicate 64 0)) 26 (0, 0)) := by rw [← hW0]; exact q1
  replace hB : Below w.heap.size w W0 := by rw [← hW0]; exact hB
  replace hz : W0.heap.size = w.heap.size + 2 := by rw [← hW0]; exact hz
  clear hW0
  refine Calls.mono (made_any W0) ?_
  rintro e w1 ⟨rfl, hb1⟩
  have hs1 := hb1.size
  have H0 := Lib.hid q0
  have H1 := Lib.hid q1
  clear q0 q1
  go_wp2_with (first | ((with_reducible refine wpl_store_row rt42 rfl (.tmp 4) (.tmp 5) rfl w1.heap.size rfl _ rfl arr_one 42 ?_ _ ?_ (heap_alloc_new _ _) ?_); simp [HG.out]; rfl; intro w5 hr5 hg5 hs5; have hb5 : Below w1.heap.size w1 w5 := (ba (brefl w1) _).grown hg5 (by simp) (fun k hk => by cases hk; exact Nat.le_refl _); have g5 : w1.heap.size < w5.heap.size := (by rw [hs5]; simp); have hB5 := bt (bt hB hb1) hb5; have hz5 : w.heap.size + 1 < w1.heap.size := (by omega); have H05 := Lib.hid (((bt hb1 hb5).block _ (show w.heap.size < _ by omega)).trans H0.out); have H15 := Lib.hid (((bt hb1 hb5).block _ (show w.heap.size + 1 < _ by omega)).trans H1.out); have H5 := Lib.hid hr5; clear hr5 hg5 hs5; simp only [Act.put]) | ((with_reducible refine wpl_load_row rt26 ?_ (.tmp 1) rfl w.heap.size rfl 26 _ ?_ H05.out ?_); rfl; simp [HL.out]; simp only [Act.put, List.setIfInBounds_toArray, List.set_cons_succ, List.set_cons_zero]))
  refine Calls.mono (HD.out w1.heap.size w5 g5 H5.out) ?_
  rintro e w6 ⟨rfl, hb6⟩
  have hB6 := bt hB5 hb6
  have H16 := Lib.hid ((hb6.block _ (show w.heap.size + 1 < _ by omega)).trans H15.out)
  go_wp2_with ((with_reducible refine wpl_store_row rt26 rfl (.tmp 2) (.tmp 9) rfl (w.heap.size + 1) rfl _ rfl arr_one 26 ?_ _ ?_ H16.out ?_); simp [dctL_len]; simp; intro w7 hr7 hg7 hs7; simp only [Act.put, List.setIfInBounds_toArray, List.set_cons_succ, List.set_cons_zero])
  exact bodyPost_ret (res_row_tmp rt26 rfl _ _ (w.heap.size + 1) 26 _ rfl (.int .i64 (dctE l)) rfl (by simp [dctL_len]) hr7) rfl ⟨rfl, hB6.grown hg7 hB6.size (fun k hk => by cases hk; omega)⟩

set_option maxRecDepth 100000 in
set_option maxHeartbeats 4000000 in
theorem inverse_any (l : List Int) (hl : l.length = 64) (w : World) :
    Calls Try.prog 11 #[.agg (arr .i64 l)] w fun e w' => e = .returned (.tuple #[.agg (arr .i64 (dctL invF l)), .int .i64 (dctE l)]) ∧ Below w.heap.size w w' := by
  have HL := Lib.hid hl
  have hgl : gridL.length = 64 := full_len _ _
  have HG := Lib.hid hgl
  have hdone : ∀ (g : Nat) (W : World), g < W.heap.size → W.heap[g]? = some (.cells (arr .i64 gridL) 42 (0, 0)) → Calls Try.prog 21 #[.agg (arr .i64 l), .func (.func 23) #[] #[.pointer (some ⟨g, 0, none⟩)]] W fun e w' => e = .returned (.tuple #[.agg (arr .i64 (dctL invF l)), .int .i64 (dctE l)]) ∧ Below W.heap.size W w' := fun g W hlt hg => by
    unfold dctL dctE
    by_cases h : l.any bigB = true
    · simp only [if_pos h]
      exact done_no l hl _ h W
    · simp only [if_neg h]
      refine done_yes invF l hl (by simpa using h) invF_bd 23 #[] #[.pointer (some ⟨g, 0, none⟩)] W (hcf 23 Try.f23 _ Try.func23 (by kernel_rfl) rfl) fun Wd a b hb ha hb' => ?_
      have h1 := inv1_any a b g ha hb' Wd ((hb.block _ hlt).trans hg)
      unfold invF
      rw [if_pos ⟨ha, hb'⟩]
      exact h1
  have HD := Lib.hid hdone
  clear hl hgl hdone
  go_enter Try.func11, Try.ntmps11
  have q0 := heap_alloc2_old w (.cells (arr .i64 l) 26) (.cells (Array.replicate 64 (.int .i64 0)) 26)
  have q1 := heap_alloc2_new w (.cells (arr .i64 l) 26) (.cells (Array.replicate 64 (.int .i64 0)) 26)
  have hB := ba (ba (brefl w) (.cells (arr .i64 l) 26)) (.cells (Array.replicate 64 (.int .i64 0)) 26)
  have hz : ((w.alloc (.cells (arr .i64 l) 26)).alloc (.cells (Array.replicate 64 (.int .i64 0)) 26)).heap.size = w.heap.size + 2 := by simp
  rw [← arr_rep] at q1
  go_wp2_with fail
  generalize hW0 : (w.alloc _).alloc _ = W0
  replace q0 : W0.heap[w.heap.size]? = some (.cells (arr .i64 l) 26 (0, 0)) := by rw [← hW0]; exact q0
  replace q1 : W0.heap[w.heap.size + 1]? = some (.cells (arr .i64 (List.replicate 64 0)) 26 (0, 0)) := by rw [← hW0]; exact q1
  replace hB : Below w.heap.size w W0 := by rw [← hW0]; exact hB
  replace hz : W0.heap.size = w.heap.size + 2 := by rw [← hW0]; exact hz
  clear hW0
  refine Calls.mono (made_any W0) ?_
  rintro e w1 ⟨rfl, hb1⟩
  have hs1 := hb1.size
  have H0 := Lib.hid q0
  have H1 := Lib.hid q1
  clear q0 q1
  go_wp2_with (first | ((with_reducible refine wpl_store_row rt42 rfl (.tmp 4) (.tmp 5) rfl w1.heap.size rfl _ rfl arr_one 42 ?_ _ ?_ (heap_alloc_new _ _) ?_); simp [HG.out]; rfl; intro w5 hr5 hg5 hs5; have hb5 : Below w1.heap.size w1 w5 := (ba (brefl w1) _).grown hg5 (by simp) (fun k hk => by cases hk; exact Nat.le_refl _); have g5 : w1.heap.size < w5.heap.size := (by rw [hs5]; simp); have hB5 := bt (bt hB hb1) hb5; have hz5 : w.heap.size + 1 < w1.heap.size := (by omega); have H05 := Lib.hid (((bt hb1 hb5).block _ (show w.heap.size < _ by omega)).trans H0.out); have H15 := Lib.hid (((bt hb1 hb5).block _ (show w.heap.size + 1 < _ by omega)).trans H1.out); have H5 := Lib.hid hr5; clear hr5 hg5 hs5; simp only [Act.put]) | ((with_reducible refine wpl_load_row rt26 ?_ (.tmp 1) rfl w.heap.size rfl 26 _ ?_ H05.out ?_); rfl; simp [HL.out]; simp only [Act.put, List.setIfInBounds_toArray, List.set_cons_succ, List.set_cons_zero]))
  refine Calls.mono (HD.out w1.heap.size w5 g5 H5.out) ?_
  rintro e w6 ⟨rfl, hb6⟩
  have hB6 := bt hB5 hb6
  have H16 := Lib.hid ((hb6.block _ (show w.heap.size + 1 < _ by omega)).trans H15.out)
  go_wp2_with ((with_reducible refine wpl_store_row rt26 rfl (.tmp 2) (.tmp 9) rfl (w.heap.size + 1) rfl _ rfl arr_one 26 ?_ _ ?_ H16.out ?_); simp [dctL_len]; simp; intro w7 hr7 hg7 hs7; simp only [Act.put, List.setIfInBounds_toArray, List.set_cons_succ, List.set_cons_zero])
  exact bodyPost_ret (res_row_tmp rt26 rfl _ _ (w.heap.size + 1) 26 _ rfl (.int .i64 (dctE l)) rfl (by simp [dctL_len]) hr7) rfl ⟨rfl, hB6.grown hg7 hB6.size (fun k hk => by cases hk; omega)⟩
end Go.Proofs.Ytmfipjpmfigjaaa
