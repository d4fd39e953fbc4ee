/- Whole arrays in a region that draws its order, and compared. No program in sight. -/
import Derived.Test.YtmdcdmgbillehaaArr
import Derived.Test.YtmdcdmgbillehaaReg
namespace Go.Tin
open Go.RowKit
set_option linter.unusedSimpArgs false
set_option linter.unusedVariables false
section
variable {k : IntKind} {l l' : List Int} {P : Program} {t e : TypeId} {n : Nat}
theorem eql_arr_run (at_ : AT P t e k n) (hE : P.eqGuardType P.depth t = false) (hn : l.length = n) (hn' : l'.length = n) (x y : Operand) (w : World) :
    (do eqGuard .eql t x y (.agg (arr k l)) (.agg (arr k l')); binOp .eql t (.agg (arr k l)) (.agg (arr k l')) : Sem Value).run P w = .ok (.bool (decide (l = l'))) w := by
  have h := eq_run at_ hn l' hn' 9998 w
  have hg : (eqGuard .eql t x y (.agg (arr k l)) (.agg (arr k l'))).run P w = .ok () w := by
    unfold eqGuard
    simp [Sem.run_bind, run_program, hE]
  rw [Sem.run_bind, hg, Result.andThen_ok]
  show (do pure (.bool (← Op.equal t (.agg (arr k l)) (.agg (arr k l')))) : Sem Value).run P w = _
  rw [Sem.run_bind]
  unfold Op.equal
  rw [show Op.maxDepth = 9998 + 2 from rfl, h]
  rfl
theorem wpq_value {ops : Array Oper} {C : World → Prop} {Q : Act → Prop} {a : Act} {o : Oper} {rest : List Oper} (v : Value) (hw : Region.wanted o (yielded ops a.tmps) = true) (hr : ∀ w, C w → (execOp a.eval o).run P w = .ok (.value v) w)
    (h : wpQuiet P ops C Q rest (a.put o.dst v)) : wpQuiet P ops C Q (o :: rest) a := by
  simp only [wpQuiet, hw, if_true]
  refine ⟨v, fun w hC => ?_, h⟩
  unfold Oper.quietAt
  rw [hr w hC]
  exact ⟨rfl, rfl⟩
theorem wpq_load_arr (at_ : AT P t e k n) {ops : Array Oper} {C : World → Prop} {Q : Act → Prop} {a : Act} {o : Oper} {rest : List Oper} (hw : Region.wanted o (yielded ops a.tmps) = true) (x : Operand) (ho : o.op = .load t x)
    (g : Nat) (hx : a.eval x = .pointer (some ⟨g, 0, none⟩)) (ty : TypeId) (hn : l.length = n) (hg : ∀ w, C w → w.heap[g]? = some (.cells (arr k l) ty (0, 0)))
    (h : wpQuiet P ops C Q rest (a.put o.dst (.agg (arr k l)))) : wpQuiet P ops C Q (o :: rest) a := by
  refine wpq_value _ hw (fun w hC => ?_) h
  unfold execOp
  simp only [ho, hx, Instr.loadAt, Instr.sureAddr, Sem.run_bind, Sem.run_pure, Result.andThen_ok, run_loadVar_row w g ty t (arr k l) (0, 0) _ (hg w hC) at_.ua rfl (by rw [at_.it, arr_size, hn])]
theorem wpq_eq_arr (at_ : AT P t e k n) (hE : P.eqGuardType P.depth t = false) {ops : Array Oper} {C : World → Prop} {Q : Act → Prop} {a : Act} {o : Oper} {rest : List Oper} (hw : Region.wanted o (yielded ops a.tmps) = true) (x y : Operand) (ty : TypeId) (ho : o.op = .binOp .eql t x y ty)
    (hx : a.eval x = .agg (arr k l)) (hy : a.eval y = .agg (arr k l')) (hn : l.length = n) (hn' : l'.length = n) (b : Bool) (hb : decide (l = l') = b)
    (h : wpQuiet P ops C Q rest (a.put o.dst (.bool b))) : wpQuiet P ops C Q (o :: rest) a := by
  subst hb
  refine wpq_value _ hw (fun w hC => ?_) h
  unfold execOp
  simp only [ho, hx, hy, Sem.run_bind]
  have := eql_arr_run at_ hE hn hn' x y w
  rw [Sem.run_bind] at this
  rw [this]
  rfl
theorem wpl_eq_arr (at_ : AT P t e k n) (hE : P.eqGuardType P.depth t = false) {ops : Array Oper} {rest : List Oper} {o : Oper} {a : Act} {w : World} {Q : Exit → Act → World → Prop} (hw : Region.wanted o (yielded ops a.tmps) = true) (x y : Operand) (ty : TypeId) (ho : o.op = .binOp .eql t x y ty)
    (hx : a.eval x = .agg (arr k l)) (hy : a.eval y = .agg (arr k l')) (hn : l.length = n) (hn' : l'.length = n) (b : Bool) (hb : decide (l = l') = b)
    (h : wpList P ops Q rest (a.put o.dst (.bool b)) w) : wpList P ops Q (o :: rest) a w := by
  subst hb
  refine wpList_step fun K hK => ?_
  rw [if_pos hw]
  unfold Oper.wp execOp
  simp only [ho, hx, hy, Sem.run_bind]
  have := eql_arr_run at_ hE hn hn' x y w
  rw [Sem.run_bind] at this
  rw [this]
  exact hK _ _ h
end
end Go.Tin
