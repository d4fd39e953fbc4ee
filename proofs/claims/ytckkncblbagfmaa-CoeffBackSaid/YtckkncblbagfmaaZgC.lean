/- The function order tells the places of a block in the order of the zigzag. No condition. -/
import Derived.Test.YtckkncblbagfmaaZgB
import Derived.Test.YtckkncblbagfmaaArr
namespace Go.Proofs.Ytckkncblbagfmaa
open Go.RowKit
open Go.Tin
set_option linter.unusedVariables false
set_option linter.unusedSimpArgs false

theorem way_any (F : Fence) (n : Nat) (h20 : F.fn 33) (hro : F.round = none) (w : World) : CallsIn F n Try.prog 33 #[] w fun e w' => e = .returned (.func (.func 34) #[] #[]) ∧ w = w' := by
  refine callsIn_of_wp Try.func33 rfl h20 ?_ hro
  simp only [Try.ntmps33, List.size_toArray, List.length_cons, List.length_nil, Nat.reduceAdd, Nat.reduceSub, Array.replicate_succ, Array.replicate_zero, List.push_toArray, List.append_toArray, List.nil_append, List.cons_append]
  gi_wp2
  go_ret
  exact ⟨rfl, rfl⟩

theorem blank26 : (Array.replicate 64 (Value.int .i64 0)) = outA 0 := by
  apply Array.ext_getElem?
  intro j
  by_cases hj : j < 64
  · rw [outA_get _ _ hj]; simp [hj]
  · rw [Array.getElem?_eq_none (by simp; omega), Array.getElem?_eq_none (by rw [outA_size]; omega)]

theorem one64 : ∀ v ∈ (outA 64).toList, v.oneCell' = true := by
  intro v hv
  simp [outA] at hv
  obtain ⟨j, _, rfl⟩ := hv
  rfl
theorem info26 : (Try.prog.info? 32).map (·.size) = some (outA 64).size := by rw [outA_size]; kernel_rfl

set_option maxHeartbeats 1000000 in
theorem order_in (w : World) : CallsIn Fence.wide 2 Try.prog 31 #[] w fun e w' => e = .returned (.agg (outA 64)) ∧ Below w.heap.size w w' := by
  refine callsIn_of_wp_marks Try.func31 rfl trivial ?_ rfl
  simp only [Try.ntmps31, List.size_toArray, List.length_nil, Nat.reduceSub, Array.replicate_succ, Array.replicate_zero, List.push_toArray, List.append_toArray, List.nil_append, List.cons_append]
  gi_wp2
  refine ⟨trivial, (way_any _ _ trivial rfl _).mono ?_⟩
  rintro e w1 ⟨rfl, rfl⟩
  gi_wp2
  refine wpIn_rangeFunc ?_
  intro fn hfn
  generalize hW0 : (w.alloc _).alloc _ = W0
  have ho0 : W0.heap[w.heap.size]? = some (.cells (outA 0) 32 (0, 0)) := by rw [← hW0, ← blank26]; exact heap_alloc2_old w _ _
  have hc0 : W0.heap[w.heap.size + 1]? = some (.cells #[.int .i64 ((0 : Nat) : Int)] 3 (0, 0)) := by rw [← hW0]; exact heap_alloc2_new w _ _
  have hs0 : W0.heap.size = w.heap.size + 2 := by rw [← hW0]; simp
  have hb0 : Below w.heap.size w W0 := by rw [← hW0]; exact ba (ba (brefl w) _) _
  clear hW0
  generalize hA : Code.region 3 _ _ = asg
  generalize hBd : Code.block 1 _ = bd
  have hab : Try.f31.body.bind rangeOf = some (asg, bd) := by rw [← hA, ← hBd]; rfl
  clear hA hBd
  obtain ⟨W1, hW1⟩ : ∃ W1, (W0.alloc (.deferred (some []))).alloc (.loop (ordRec asg bd fn w.heap.size (w.heap.size + 1) W0.heap.size .ready none)) = W1 := ⟨_, rfl⟩
  have hold : ∀ k, k < W0.heap.size → W1.heap[k]? = W0.heap[k]? := fun k hk => by
    rw [← hW1]; exact (Below.heap_alloc _ _ k (by simp; omega)).trans (Below.heap_alloc _ _ k hk)
  have hM : Mid asg bd fn w.heap.size (w.heap.size + 1) (W0.heap.size + 1) W0.heap.size 0 w W1 :=
    ⟨(hold _ (by omega)).trans ho0, (hold _ (by omega)).trans hc0,
     by rw [← hW1]; have := World.alloc_heap_new (W0.alloc (.deferred (some []))) (.loop (ordRec asg bd fn w.heap.size (w.heap.size + 1) W0.heap.size .ready none)); rwa [World.size_alloc] at this,
     by rw [← hW1]; exact (Below.heap_alloc _ _ _ (by simp)).trans (World.alloc_heap_new W0 _),
     by rw [← hW1]; exact ba (ba hb0 _) _⟩
  refine ⟨W0.heap.size + 1, [{ target := .collected W0.heap.size, args := #[] }], W1, { target := .fn (.func 34) #[], args := #[.func (.yield (W0.heap.size + 1)) #[] #[]] }, W1, 34,
    #[.func (.yield (W0.heap.size + 1)) #[] #[]], W1, ?_, ?_, ?_, ?_, fun _ => by omega, ?_⟩
  · rw [← hW1]; exact run_enterLoop_outer _ _ _ _ _
  · simp [resolve, go_sem]
  · intro f' hf'; trivial
  · simp [invoke, go_sem]
  · refine (wayRun asg bd hab Fence.wide 1 trivial rfl (Nat.le_refl _) fn trivial w.heap.size (w.heap.size + 1) (W0.heap.size + 1) W0.heap.size w W1 (Nat.le_refl _) rfl (by omega) (by omega) hM).mono ?_
    rintro e W2 ⟨⟨v, rfl⟩, h2⟩
    have hend := run_endLoop (P := Try.prog) h2.L (by simp [ordRec])
    obtain ⟨W3, hW3⟩ : ∃ W3, W2.putObj (W0.heap.size + 1) (.loop { ordRec asg bd fn w.heap.size (w.heap.size + 1) W0.heap.size .ready none with state := .exhausted }) = W3 := ⟨_, rfl⟩
    rw [hW3] at hend
    have o3 : W3.heap[w.heap.size]? = some (.cells (outA 64) 32 (0, 0)) := by rw [← hW3]; exact (World.putObj_heap_other (by omega)).trans h2.o
    have K3 : W3.heap[W0.heap.size]? = some (.deferred (some [])) := by rw [← hW3]; exact (World.putObj_heap_other (by omega)).trans h2.K
    have b3 : Below w.heap.size w W3 := by
      rw [← hW3]
      exact ⟨h2.b.os, h2.b.tape, h2.b.output, by simpa [World.putObj] using h2.b.size, fun k hk => (World.putObj_heap_other (by omega)).trans (h2.b.block k hk)⟩
    clear hW3 h2 hM hold hW1 hab ho0 hc0 hb0
    refine ⟨none, W3, hend, ?_⟩
    rename_i Q' K hK
    show K _ W3
    refine hK _ _ (wpIn_wide.2 ?_)
    clear hK
    obtain ⟨W4, hst, o4, hg4, hs4⟩ := run_store_row (P := Try.prog) (outA 64) o3 (outA 64).toList (by simp) one64
    have b4 : Below w.heap.size w W4 := b3.grown hg4 b3.size (fun k hk => by cases hk; exact Nat.le_refl _)
    have K4 : W4.heap[W0.heap.size]? = some (.deferred (some [])) := (hg4.block _ (Array.getElem?_eq_some_iff.1 K3).1 (by rw [hs0]; simp)).trans K3
    have HS := hst
    go_wp2_with (with_reducible refine wpList_load_row rfl 32 (.tmp 0) rfl w.heap.size rfl 32 (outA 64) (0, 0) _ o3 Try.underlying32 rfl info26 ?_)
    rw [hs0] at K4
    refine ⟨by simp, .inl ⟨_, _, rfl, run_takeDeferred K4, ?_⟩⟩
    refine ⟨_, results_cell_row rfl _ _ w.heap.size 32 (outA 64) (0, 0) _ rfl ((World.putObj_heap_other (by omega)).trans (by simpa using o4)) Try.underlying32 rfl info26, rfl, ?_⟩
    exact ⟨b4.os, b4.tape, b4.output, by simpa [World.putObj] using b4.size, fun k hk => (World.putObj_heap_other (by omega)).trans (b4.block k hk)⟩

/-- order tells the places, and leaves all that was as it was. -/
theorem order_any (w : World) : Calls Try.prog 31 #[] w fun e w' => e = .returned (.agg (outA 64)) ∧ Below w.heap.size w w' := callsIn_wide.1 (order_in w)
end Go.Proofs.Ytckkncblbagfmaa
