/- A whole row read in a region that draws its order; three blocks made one behind the other. No program in sight. (Not yet among the texts that seat.sh lays.) -/
import Derived.Test.YtaahphocoedmdaaRes
import Derived.Test.YtaahphocoedmdaaArq
namespace Go.Tin
open Go.RowKit
set_option linter.unusedSimpArgs false
set_option linter.unusedVariables false

/-- Three blocks made one behind the other. -/
theorem three (w : World) (o0 o1 o2 : Obj) : (((w.alloc o0).alloc o1).alloc o2).heap[w.heap.size]? = some o0 ∧ (((w.alloc o0).alloc o1).alloc o2).heap[w.heap.size + 1]? = some o1 ∧
    (((w.alloc o0).alloc o1).alloc o2).heap[w.heap.size + 1 + 1]? = some o2 := by
  refine ⟨?_, ?_, ?_⟩
  · rw [Below.heap_alloc _ _ _ (by simp <;> omega), Below.heap_alloc _ _ _ (by simp)]
    exact heap_alloc_new w o0
  · rw [Below.heap_alloc _ _ _ (by simp)]
    exact heap_alloc2_new w o0 o1
  · have h := heap_alloc_new ((w.alloc o0).alloc o1) o2
    simp only [World.size_alloc] at h
    exact h

/-- A whole row that is read in a region that draws its order. -/
theorem wpq_load_row {P : Program} {t : TypeId} {n : Nat} (rt : RT P t n) {ops : Array Oper} {C : World → Prop} {Q : Act → Prop} {a : Act} {o : Oper} {rest : List Oper} (hw : Region.wanted o (yielded ops a.tmps) = true) (x : Operand) (ho : o.op = .load t x)
    (g : Nat) (hx : a.eval x = .pointer (some ⟨g, 0, none⟩)) (ty : TypeId) (cs : Array Value) (hn : cs.size = n) (hg : ∀ w, C w → w.heap[g]? = some (.cells cs ty (0, 0)))
    (h : wpQuiet P ops C Q rest (a.put o.dst (.agg cs))) : wpQuiet P ops C Q (o :: rest) a := by
  obtain ⟨d, hu, hd⟩ := rt.ut
  refine wpq_value _ hw (fun w hC => ?_) h
  cases d <;> first | (cases hd; done) | (unfold execOp; simp only [ho, hx, Instr.loadAt, Instr.sureAddr, Sem.run_bind, Sem.run_pure, Result.andThen_ok, run_loadVar_row w g ty t cs (0, 0) _ (hg w hC) hu rfl (by rw [rt.it, hn])])
end Go.Tin
