/- Results of two: a whole row out of a block, and a temporary. No program in sight. -/
import Derived.Test.YtmdcdmgbillehaaArr
namespace Go.Tin
open Go.RowKit
set_option linter.unusedSimpArgs false
set_option linter.unusedVariables false
section
variable {P : Program}
theorem res_cell_tmp {fn : Func} {p q : Tmp} {ty : TypeId} (h : fn.results = #[.cell p ty, .tmp q]) (tmps : Array Value) (w : World) (g : Nat) (t : TypeId) (cs : Array Value) (fr : Nat × Nat) (d : TypeDesc)
    (hp : tmps.getD p undef = .pointer (some ⟨g, 0, none⟩)) (v : Value) (hv : tmps.getD q undef = v) (hg : w.heap[g]? = some (.cells cs t fr))
    (hu : P.underlying ty = some d) (hd : (match d with | .struct _ | .array _ _ => true | _ => false) = true) (hi : (P.info? ty).map (·.size) = some cs.size) :
    (results fn tmps).run P w = .ok (.tuple #[.agg cs, v]) w := by
  subst hv
  have hp' : tmps[p]?.getD undef = .pointer (some ⟨g, 0, none⟩) := by simpa using hp
  simp [results, h, hp', asAddr, run_loadVar_row w g t ty cs fr d hg hu hd hi]
variable {k : IntKind} {l : List Int} {t e : TypeId} {n : Nat} (at_ : AT P t e k n)
include at_
theorem res_arr_tmp {fn : Func} {p q : Tmp} (h : fn.results = #[.cell p t, .tmp q]) (tmps : Array Value) (w : World) (g : Nat) (ty : TypeId) (hp : tmps.getD p undef = .pointer (some ⟨g, 0, none⟩)) (v : Value) (hv : tmps.getD q undef = v) (hn : l.length = n) (hg : w.heap[g]? = some (.cells (arr k l) ty (0, 0))) :
    (results fn tmps).run P w = .ok (.tuple #[.agg (arr k l), v]) w :=
  res_cell_tmp h tmps w g ty (arr k l) (0, 0) _ hp v hv hg at_.ua rfl (by rw [at_.it, arr_size, hn])
end

/-! ### Whole rows: a struct (or an array) in a block of its own -/
def aggD (d : TypeDesc) : Bool := match d with | .struct _ | .array _ _ => true | _ => false
structure RT (P : Program) (t : TypeId) (n : Nat) : Prop where
  ut : ∃ d, P.underlying t = some d ∧ aggD d = true
  it : (P.info? t).map (·.size) = some n
theorem RT.of {P : Program} {t : TypeId} {n : Nat} {d : TypeDesc} (hu : P.underlying t = some d) (hd : aggD d = true) (hi : (P.info? t).map (·.size) = some n) : RT P t n := ⟨⟨d, hu, hd⟩, hi⟩
section
variable {P : Program} {t : TypeId} {n : Nat} (rt : RT P t n)
theorem row_cell {W : World} {g : Nat} {ty : TypeId} {cs : Array Value} (hg : W.heap[g]? = some (.cells cs ty (0, 0))) (j : Nat) {v : Value} (hj : cs[j]? = some v) : W.cell? ⟨g, j, none⟩ = some v := by
  rw [cell_of_row W g j _ _ _ hg, hj]
theorem row_set {W : World} {g : Nat} {ty : TypeId} {cs : Array Value} (hg : W.heap[g]? = some (.cells cs ty (0, 0))) (j : Nat) (v : Value) : (W.setCell ⟨g, j, none⟩ v).heap[g]? = some (.cells (cs.setIfInBounds j v) ty (0, 0)) :=
  heap_setCell_same W g j _ ty _ hg
include rt
theorem wpl_load_row {ops : Array Oper} {rest : List Oper} {o : Oper} {a : Act} {w : World} {Q : Exit → Act → World → Prop} (hgd : Region.wanted o (yielded ops a.tmps) = true) (x : Operand) (ho : o.op = .load t x)
    (g : Nat) (hx : a.eval x = .pointer (some ⟨g, 0, none⟩)) (ty : TypeId) (cs : Array Value) (hn : cs.size = n) (hg : w.heap[g]? = some (.cells cs ty (0, 0)))
    (h : wpList P ops Q rest (a.put o.dst (.agg cs)) w) : wpList P ops Q (o :: rest) a w :=
  wpList_step fun _ hK => by
    obtain ⟨d, hu, hd⟩ := rt.ut
    rw [if_pos hgd]
    cases d <;> first | (cases hd; done) | exact wp_load_row t x ho g hx ty cs (0, 0) _ hg hu rfl (by rw [rt.it, hn]) (hK _ _ h)
theorem wpl_store_row {ops : Array Oper} {rest : List Oper} {o : Oper} {a : Act} {w : World} {Q : Exit → Act → World → Prop} (hgd : o.guard = none) (x y : Operand) (ho : o.op = .store t x y)
    (g : Nat) (hx : a.eval x = .pointer (some ⟨g, 0, none⟩)) (cs : Array Value) (hy : a.eval y = .agg cs) (h1 : cs.all (·.oneCell') = true) (ty : TypeId) (hn : cs.size = n) (cur : Array Value) (hc : cur.size = n) (hg : w.heap[g]? = some (.cells cur ty (0, 0)))
    (h : ∀ w', w'.heap[g]? = some (.cells cs ty (0, 0)) → w.grownBy w' (some g) → w'.heap.size = w.heap.size → wpList P ops Q rest (a.put o.dst undef) w') : wpList P ops Q (o :: rest) a w := by
  refine wpList_store_mid hgd t x y ho g 0 cs hx hy ?_ (by rw [rt.it, hn]) h1 ?_
  · intro j hj
    rw [Nat.zero_add, cell_of_row w g j cur ty _ hg, Array.getElem?_eq_getElem (by omega)]
    exact ⟨rfl, frozen_of_row w g j cur ty hg⟩
  · refine h _ ?_ (grown_setCells g _ _ _ _ (World.grownBy.refl w _)) (setCells_size _ _ _ _)
    rw [setCells_heap _ _ _ _ hg, over_all _ _ (by simp; omega)]
theorem res_row {fn : Func} {p : Tmp} (h : fn.results = #[.cell p t]) (tmps : Array Value) (w : World) (g : Nat) (ty : TypeId) (cs : Array Value) (hp : tmps.getD p undef = .pointer (some ⟨g, 0, none⟩)) (hn : cs.size = n) (hg : w.heap[g]? = some (.cells cs ty (0, 0))) :
    (results fn tmps).run P w = .ok (.agg cs) w := by
  obtain ⟨d, hu, hd⟩ := rt.ut
  cases d <;> first | (cases hd; done) | exact results_cell_row h tmps w g ty cs (0, 0) _ hp hg hu rfl (by rw [rt.it, hn])
theorem res_row_tmp {fn : Func} {p q : Tmp} (h : fn.results = #[.cell p t, .tmp q]) (tmps : Array Value) (w : World) (g : Nat) (ty : TypeId) (cs : Array Value) (hp : tmps.getD p undef = .pointer (some ⟨g, 0, none⟩)) (v : Value) (hv : tmps.getD q undef = v) (hn : cs.size = n) (hg : w.heap[g]? = some (.cells cs ty (0, 0))) :
    (results fn tmps).run P w = .ok (.tuple #[.agg cs, v]) w := by
  obtain ⟨d, hu, hd⟩ := rt.ut
  cases d <;> first | (cases hd; done) | exact res_cell_tmp h tmps w g ty cs (0, 0) _ hp v hv hg hu rfl (by rw [rt.it, hn])
end
end Go.Tin
