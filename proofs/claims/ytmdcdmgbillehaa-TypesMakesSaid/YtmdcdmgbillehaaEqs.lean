/- Two structs compared, in a plain region and in one that draws. No program in sight. -/
import Derived.Test.YtmdcdmgbillehaaArq
namespace Go.Tin
open Go.RowKit
set_option linter.unusedSimpArgs false
set_option linter.unusedVariables false
section
variable {P : Program} {t : TypeId} {xs ys : Array Value} {b : Bool}
theorem run_eql_agg (hE : P.eqGuardType P.depth t = false) (hq : ∀ w, (Op.equalIn 10000 t (.agg xs) (.agg ys)).run P w = .ok b w) (x y : Operand) (w : World) :
    (do eqGuard .eql t x y (.agg xs) (.agg ys); binOp .eql t (.agg xs) (.agg ys) : Sem Value).run P w = .ok (.bool b) w := by
  rw [Sem.run_bind, run_eqGuard_agg w .eql t x y xs ys hE, Result.andThen_ok, run_eql_struct w t xs ys, hq w]
  rfl
theorem run_neq_agg (hE : P.eqGuardType P.depth t = false) (hq : ∀ w, (Op.equalIn 10000 t (.agg xs) (.agg ys)).run P w = .ok b w) (x y : Operand) (w : World) :
    (do eqGuard .neq t x y (.agg xs) (.agg ys); binOp .neq t (.agg xs) (.agg ys) : Sem Value).run P w = .ok (.bool (!b)) w := by
  rw [Sem.run_bind, run_eqGuard_agg w .neq t x y xs ys hE, Result.andThen_ok, run_neq_struct w t xs ys, hq w]
  rfl
theorem wpq_eql (hE : P.eqGuardType P.depth t = false) {ops : Array Oper} {C : World → Prop} {Q : Act → Prop} {a : Act} {o : Oper} {rest : List Oper} (hw : Region.wanted o (yielded ops a.tmps) = true) (x y : Operand) (ty : TypeId) (ho : o.op = .binOp .eql t x y ty)
    (hx : a.eval x = .agg xs) (hy : a.eval y = .agg ys) (hq : ∀ w, (Op.equalIn 10000 t (.agg xs) (.agg ys)).run P w = .ok b w)
    (h : wpQuiet P ops C Q rest (a.put o.dst (.bool b))) : wpQuiet P ops C Q (o :: rest) a := by
  refine wpq_value _ hw (fun w hC => ?_) h
  unfold execOp
  simp only [ho, hx, hy, Sem.run_bind]
  have := run_eql_agg hE hq x y w
  rw [Sem.run_bind] at this
  rw [this]
  rfl
theorem wpq_neq (hE : P.eqGuardType P.depth t = false) {ops : Array Oper} {C : World → Prop} {Q : Act → Prop} {a : Act} {o : Oper} {rest : List Oper} (hw : Region.wanted o (yielded ops a.tmps) = true) (x y : Operand) (ty : TypeId) (ho : o.op = .binOp .neq t x y ty)
    (hx : a.eval x = .agg xs) (hy : a.eval y = .agg ys) (hq : ∀ w, (Op.equalIn 10000 t (.agg xs) (.agg ys)).run P w = .ok b w)
    (h : wpQuiet P ops C Q rest (a.put o.dst (.bool (!b)))) : wpQuiet P ops C Q (o :: rest) a := by
  refine wpq_value _ hw (fun w hC => ?_) h
  unfold execOp
  simp only [ho, hx, hy, Sem.run_bind]
  have := run_neq_agg hE hq x y w
  rw [Sem.run_bind] at this
  rw [this]
  rfl
theorem wpl_eql (hE : P.eqGuardType P.depth t = false) {ops : Array Oper} {rest : List Oper} {o : Oper} {a : Act} {w : World} {Q : Exit → Act → World → Prop} (hw : Region.wanted o (yielded ops a.tmps) = true) (x y : Operand) (ty : TypeId) (ho : o.op = .binOp .eql t x y ty)
    (hx : a.eval x = .agg xs) (hy : a.eval y = .agg ys) (hq : ∀ w, (Op.equalIn 10000 t (.agg xs) (.agg ys)).run P w = .ok b w)
    (h : wpList P ops Q rest (a.put o.dst (.bool b)) w) : wpList P ops Q (o :: rest) a w := by
  refine wpList_step fun K hK => ?_
  rw [if_pos hw]
  unfold Oper.wp execOp
  simp only [ho, hx, hy, Sem.run_bind]
  have := run_eql_agg hE hq x y w
  rw [Sem.run_bind] at this
  rw [this]
  exact hK _ _ h
theorem wpl_neq (hE : P.eqGuardType P.depth t = false) {ops : Array Oper} {rest : List Oper} {o : Oper} {a : Act} {w : World} {Q : Exit → Act → World → Prop} (hw : Region.wanted o (yielded ops a.tmps) = true) (x y : Operand) (ty : TypeId) (ho : o.op = .binOp .neq t x y ty)
    (hx : a.eval x = .agg xs) (hy : a.eval y = .agg ys) (hq : ∀ w, (Op.equalIn 10000 t (.agg xs) (.agg ys)).run P w = .ok b w)
    (h : wpList P ops Q rest (a.put o.dst (.bool (!b))) w) : wpList P ops Q (o :: rest) a w := by
  refine wpList_step fun K hK => ?_
  rw [if_pos hw]
  unfold Oper.wp execOp
  simp only [ho, hx, hy, Sem.run_bind]
  have := run_neq_agg hE hq x y w
  rw [Sem.run_bind] at this
  rw [this]
  exact hK _ _ h
end
end Go.Tin
