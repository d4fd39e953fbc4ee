/- A whole row read in a region that draws its order; three blocks made one behind the other. No program in sight. (Not yet among the texts that seat.sh lays.) -/
import Derived.Test.YtmdcdmgbillehaaRes
import Derived.Test.YtmdcdmgbillehaaArq
namespace Go.Tin
open Go.RowKit
set_option linter.unusedSimpArgs false
set_option linter.unusedVariables false

/-- Three blocks made one behind the other. -/
theorem three (w : World) (o0 o1 o2 : Obj) : (((w.alloc o0).alloc o1).alloc o2).heap[w.heap.size]? = some o0 ∧ (((w.alloc o0).alloc o1).alloc o2).heap[w.heap.size + 1]? = some o1 ∧
    (((w.alloc o0).alloc o1).alloc o2).heap[w.heap.size + 1 + 1]? = some o2 := by
  refine ⟨?_, ?_, ?_⟩
  · rw [Below.heap_alloc _ _ _ (by simp <;> omega), Below.heap_alloc _ _ _ (by simp)]
    exact heap_alloc_new w o0
  · rw [Below.heap_alloc _ _ _ (by simp)]
    exact heap_alloc2_new w o0 o1
  · have h := heap_alloc_new ((w.alloc o0).alloc o1) o2
    simp only [World.size_alloc] at h
    exact h

/-- A whole row that is read in a region that draws its order. -/
theorem wpq_load_row {P : Program} {t : TypeId} {n : Nat} (rt : RT P t n) {ops : Array Oper} {C : World → Prop} {Q : Act → Prop} {a : Act} {o : Oper} {rest : List Oper} (hw : Region.wanted o (yielded ops a.tmps) = true) (x : Operand) (ho : o.op = .load t x)
    (g : Nat) (hx : a.eval x = .pointer (some ⟨g, 0, none⟩)) (ty : TypeId) (cs : Array Value) (hn : cs.size = n) (hg : ∀ w, C w → w.heap[g]? = some (.cells cs ty (0, 0)))
    (h : wpQuiet P ops C Q rest (a.put o.dst (.agg cs))) : wpQuiet P ops C Q (o :: rest) a := by
  obtain ⟨d, hu, hd⟩ := rt.ut
  refine wpq_value _ hw (fun w hC => ?_) h
  cases d <;> first | (cases hd; done) | (unfold execOp; simp only [ho, hx, Instr.loadAt, Instr.sureAddr, Sem.run_bind, Sem.run_pure, Result.andThen_ok, run_loadVar_row w g ty t cs (0, 0) _ (hg w hC) hu rfl (by rw [rt.it, hn])])
end Go.Tin
namespace Go.Tin
open Go.RowKit
set_option linter.unusedSimpArgs false
set_option linter.unusedVariables false
section
variable {k : IntKind} {l l' : List Int} {P : Program} {t e : TypeId} {n : Nat}
theorem neq_arr_run (at_ : AT P t e k n) (hE : P.eqGuardType P.depth t = false) (hn : l.length = n) (hn' : l'.length = n) (x y : Operand) (w : World) :
    (do eqGuard .neq t x y (.agg (arr k l)) (.agg (arr k l')); binOp .neq t (.agg (arr k l)) (.agg (arr k l')) : Sem Value).run P w = .ok (.bool (!decide (l = l'))) w := by
  have h := eq_run at_ hn l' hn' 9998 w
  have hg : (eqGuard .neq t x y (.agg (arr k l)) (.agg (arr k l'))).run P w = .ok () w := by
    unfold eqGuard
    simp [Sem.run_bind, run_program, hE]
  rw [Sem.run_bind, hg, Result.andThen_ok]
  show (do pure (.bool (!(← Op.equal t (.agg (arr k l)) (.agg (arr k l'))))) : Sem Value).run P w = _
  rw [Sem.run_bind]
  unfold Op.equal
  rw [show Op.maxDepth = 9998 + 2 from rfl, h]
  rfl
theorem wpq_ne_arr (at_ : AT P t e k n) (hE : P.eqGuardType P.depth t = false) {ops : Array Oper} {C : World → Prop} {Q : Act → Prop} {a : Act} {o : Oper} {rest : List Oper} (hw : Region.wanted o (yielded ops a.tmps) = true) (x y : Operand) (ty : TypeId) (ho : o.op = .binOp .neq t x y ty)
    (hx : a.eval x = .agg (arr k l)) (hy : a.eval y = .agg (arr k l')) (hn : l.length = n) (hn' : l'.length = n) (b : Bool) (hb : (!decide (l = l')) = b)
    (h : wpQuiet P ops C Q rest (a.put o.dst (.bool b))) : wpQuiet P ops C Q (o :: rest) a := by
  subst hb
  refine wpq_value _ hw (fun w hC => ?_) h
  unfold execOp
  simp only [ho, hx, hy, Sem.run_bind]
  have := neq_arr_run at_ hE hn hn' x y w
  rw [Sem.run_bind] at this
  rw [this]
  rfl
theorem wpl_ne_arr (at_ : AT P t e k n) (hE : P.eqGuardType P.depth t = false) {ops : Array Oper} {rest : List Oper} {o : Oper} {a : Act} {w : World} {Q : Exit → Act → World → Prop} (hw : Region.wanted o (yielded ops a.tmps) = true) (x y : Operand) (ty : TypeId) (ho : o.op = .binOp .neq t x y ty)
    (hx : a.eval x = .agg (arr k l)) (hy : a.eval y = .agg (arr k l')) (hn : l.length = n) (hn' : l'.length = n) (b : Bool) (hb : (!decide (l = l')) = b)
    (h : wpList P ops Q rest (a.put o.dst (.bool b)) w) : wpList P ops Q (o :: rest) a w := by
  subst hb
  refine wpList_step fun K hK => ?_
  rw [if_pos hw]
  unfold Oper.wp execOp
  simp only [ho, hx, hy, Sem.run_bind]
  have := neq_arr_run at_ hE hn hn' x y w
  rw [Sem.run_bind] at this
  rw [this]
  exact hK _ _ h
end
end Go.Tin
