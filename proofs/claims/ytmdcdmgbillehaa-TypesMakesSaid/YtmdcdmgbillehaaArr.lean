/- Words for a block that is known whole: an array in a variable. No program in sight. -/
import Derived.Test.YtmdcdmgbillehaaByt
import Derived.Deep.MidRow
namespace Go.Tin
open Go.RowKit
set_option linter.unusedSimpArgs false
set_option linter.unusedVariables false

section
variable {P : Program} {w : World} {g : Nat} {t : TypeId}
theorem setCells_heap_other (b k : Nat) (h : k ≠ b) : ∀ (vs : List Value) (o : Nat) (w : World), (w.setCells b o vs).heap[k]? = w.heap[k]?
  | [], _, _ => rfl
  | v :: vs, o, w => (setCells_heap_other b k h vs (o + 1) (w.setCell ⟨b, o, none⟩ v)).trans (heap_setCell_other _ _ _ _ h)
/-- The first cells of a row, written one behind the other. -/
def over (cur : Array Value) : Nat → List Value → Array Value
  | _, [] => cur
  | o, v :: vs => over (cur.setIfInBounds o v) (o + 1) vs
theorem over_get : ∀ (vs : List Value) (o : Nat) (cur : Array Value) (j : Nat), o + vs.length ≤ cur.size → (over cur o vs)[j]? = if o ≤ j ∧ j < o + vs.length then vs[j - o]? else cur[j]?
  | [], o, cur, j, _ => by
    rw [if_neg (by intro h; simp at h; omega)]
    rfl
  | v :: vs, o, cur, j, h => by
    simp only [List.length_cons] at h
    show (over (cur.setIfInBounds o v) (o + 1) vs)[j]? = _
    rw [over_get vs (o + 1) _ j (by simp; omega)]
    simp only [List.length_cons]
    by_cases h1 : o + 1 ≤ j ∧ j < o + 1 + vs.length
    · rw [if_pos h1, if_pos (by omega)]
      obtain ⟨m, rfl⟩ : ∃ m, j = o + 1 + m := ⟨j - (o + 1), by omega⟩
      rw [show o + 1 + m - (o + 1) = m by omega, show o + 1 + m - o = m + 1 by omega, List.getElem?_cons_succ]
    · rw [if_neg h1, Array.getElem?_setIfInBounds]
      by_cases h2 : o = j
      · subst h2
        rw [if_pos rfl, if_pos (by omega), if_pos (by omega)]
        simp
      · rw [if_neg h2, if_neg (by omega)]
theorem over_size : ∀ (vs : List Value) (o : Nat) (cur : Array Value), (over cur o vs).size = cur.size
  | [], _, _ => rfl
  | v :: vs, o, cur => by show (over (cur.setIfInBounds o v) (o + 1) vs).size = _; rw [over_size vs]; simp
theorem over_all (vs : List Value) (cur : Array Value) (h : vs.length = cur.size) : over cur 0 vs = vs.toArray := by
  apply Array.ext_getElem?
  intro j
  rw [over_get vs 0 cur j (by omega)]
  by_cases hj : j < vs.length
  · rw [if_pos (by omega)]; simp
  · rw [if_neg (by omega), Array.getElem?_eq_none (by omega), Array.getElem?_eq_none (by simp; omega)]
theorem setCells_heap : ∀ (vs : List Value) (o : Nat) (w : World) (cur : Array Value), w.heap[g]? = some (.cells cur t (0, 0)) → (w.setCells g o vs).heap[g]? = some (.cells (over cur o vs) t (0, 0))
  | [], _, _, _, h => h
  | v :: vs, o, w, cur, h => setCells_heap vs (o + 1) (w.setCell ⟨g, o, none⟩ v) (cur.setIfInBounds o v) (heap_setCell_same _ _ _ _ _ _ h)
theorem setCells_size : ∀ (vs : List Value) (o b : Nat) (w : World), (w.setCells b o vs).heap.size = w.heap.size
  | [], _, _, _ => rfl
  | v :: vs, o, b, w => by show ((w.setCell ⟨b, o, none⟩ v).setCells b (o + 1) vs).heap.size = _; rw [setCells_size vs]; simp [World.setCell]

/-- A whole row written. -/
theorem run_store_row (cur : Array Value) (hg : w.heap[g]? = some (.cells cur t (0, 0))) (vs : List Value) (hn : vs.length = cur.size) (h1 : ∀ v ∈ vs, v.oneCell' = true) :
    ∃ w', (storeCells ⟨g, 0, none⟩ vs).run P w = .ok () w' ∧ w'.heap[g]? = some (.cells vs.toArray t (0, 0)) ∧ w.grownBy w' (some g) ∧ w'.heap.size = w.heap.size := by
  have h := run_storeCells_cells (P := P) g 0 vs 0 w (fun j hj => by rw [show 0 + 0 + j = j by omega, cell_of_row w g _ cur t _ hg, Array.getElem?_eq_getElem (by omega)]; rfl) (fun j hj => frozen_of_row w g _ cur t hg) h1
  refine ⟨_, h, ?_, grown_setCells g _ _ _ _ (World.grownBy.refl w _), setCells_size _ _ _ _⟩
  rw [setCells_heap _ _ _ _ hg]
  rw [Nat.add_zero, over_all vs cur hn]
end

/-- A value built of constants: what it is, is shown once. -/
theorem wpl_build {P : Program} {ops : Array Oper} {rest : List Oper} {o : Oper} {a : Act} {w : World} {Q : Exit → Act → World → Prop} (hgd : o.guard = none) (t : TypeId) (parts : Array (Nat × Operand)) (ho : o.op = .build t parts)
    (v : Value) (hrun : (Instr.build t (parts.map fun (i, x) => (i, a.eval x))).run P w = .ok v w) (h : wpList P ops Q rest (a.put o.dst v) w) : wpList P ops Q (o :: rest) a w := by
  refine wpList_plain hgd fun K hK => ?_
  unfold Oper.wp execOp
  simp only [ho, Sem.run_bind, Sem.run_pure, Result.andThen_ok, hrun]
  exact hK _ _ h
/-- The same under a guard that is met. -/
theorem wpl_build_g {P : Program} {ops : Array Oper} {rest : List Oper} {o : Oper} {a : Act} {w : World} {Q : Exit → Act → World → Prop} (hgd : Region.wanted o (yielded ops a.tmps) = true) (t : TypeId) (parts : Array (Nat × Operand)) (ho : o.op = .build t parts)
    (v : Value) (hrun : (Instr.build t (parts.map fun (i, x) => (i, a.eval x))).run P w = .ok v w) (h : wpList P ops Q rest (a.put o.dst v) w) : wpList P ops Q (o :: rest) a w := by
  refine wpList_step fun K hK => ?_
  rw [if_pos hgd]
  unfold Oper.wp execOp
  simp only [ho, Sem.run_bind, Sem.run_pure, Result.andThen_ok, hrun]
  exact hK _ _ h
/-- An array of integers. -/
def arr (k : IntKind) (l : List Int) : Array Value := (l.map (Value.int k)).toArray
/-- An array of n numbers of which m are told. -/
def tell (n : Nat) (f : Nat → Int) (m : Nat) : List Int := (List.range n).map fun j => if j < m then f j else 0
def full (n : Nat) (f : Nat → Int) : List Int := (List.range n).map f
@[simp] theorem tell_len (n : Nat) (f : Nat → Int) (m : Nat) : (tell n f m).length = n := by simp [tell]
@[simp] theorem full_len (n : Nat) (f : Nat → Int) : (full n f).length = n := by simp [full]
theorem tell_set (n : Nat) (f : Nat → Int) (m : Nat) (_hm : m < n) : (tell n f m).set m (f m) = tell n f (m + 1) := by
  apply List.ext_getElem?
  intro j
  rw [List.getElem?_set]
  by_cases hj : j < n
  · by_cases h : m = j
    · subst h; simp [tell, hj]
    · rw [if_neg h]
      simp only [tell, List.getElem?_map, List.getElem?_range hj, Option.map_some]
      congr 1
      by_cases h1 : j < m
      · rw [if_pos h1, if_pos (by omega)]
      · rw [if_neg h1, if_neg (by omega)]
  · rw [List.getElem?_eq_none (by simp [tell]; omega), List.getElem?_eq_none (by simp [tell]; omega)]
    split <;> simp [tell]
    omega
theorem tell_all (n : Nat) (f : Nat → Int) : tell n f n = full n f := by
  unfold tell full
  refine List.map_congr_left fun j hj => ?_
  rw [if_pos (by simpa using hj)]
theorem tell_zero (n : Nat) (f : Nat → Int) : tell n f 0 = List.replicate n 0 := by
  unfold tell
  apply List.ext_getElem <;> simp
theorem nth_full (n : Nat) (f : Nat → Int) (j : Nat) (hj : j < n) : nth (full n f) j = f j := by
  simp [nth, full, List.getD_eq_getElem?_getD, hj]
theorem nth_tell (n : Nat) (f : Nat → Int) (m j : Nat) (hj : j < n) : nth (tell n f m) j = if j < m then f j else 0 := by
  simp [nth, tell, List.getD_eq_getElem?_getD, hj]
/-- A list is told by its numbers. -/
theorem full_nth (l : List Int) (n : Nat) (h : l.length = n) : full n (nth l) = l := by
  subst h
  apply List.ext_getElem
  · simp
  · intro j h1 h2
    simp [full, nth, List.getD_eq_getElem?_getD, h2]
theorem full_congr (n : Nat) (f g : Nat → Int) (h : ∀ j, j < n → f j = g j) : full n f = full n g :=
  List.map_congr_left fun j hj => h j (by simpa using hj)
theorem arr_zero (k : IntKind) (n : Nat) (f : Nat → Int) : (Array.replicate n (Value.int k 0)) = arr k (tell n f 0) := by
  rw [tell_zero]; simp [arr]
theorem arr_rep (k : IntKind) (n : Nat) : arr k (List.replicate n 0) = Array.replicate n (Value.int k 0) := by simp [arr]
/-- Array type t, of n elements of type e, which are integers of kind k. -/
structure AT (P : Program) (t e : TypeId) (k : IntKind) (n : Nat) : Prop where
  ua : P.underlying t = some (.array n e)
  ue : P.underlying e = some (.int k)
  ie : (P.info? e).map (·.size) = some 1
  it : (P.info? t).map (·.size) = some n

section
variable {k : IntKind} {l : List Int}
@[simp] theorem arr_size : (arr k l).size = l.length := by simp [arr]
theorem arr_get (j : Nat) (hj : j < l.length) : (arr k l)[j]? = some (.int k (nth l j)) := by
  simp [nth, arr, List.getD_eq_getElem?_getD, hj]
theorem arr_set (j : Nat) (v : Int) : (arr k l).setIfInBounds j (.int k v) = arr k (l.set j v) := by
  simp [arr, List.map_set]
theorem arr_one : (arr k l).all (·.oneCell') = true := by simp [arr, Value.oneCell']
theorem arr_toList : (arr k l).toList = l.map (Value.int k) := by simp [arr]
variable {P : Program} {t e : TypeId} {n : Nat} (at_ : AT P t e k n)
include at_
theorem idx_run (hn : l.length = n) (kk : IntKind) (j : Nat) (hj : j < n) (w : World) : (Instr.index t (.agg (arr k l)) (.int kk (j : Int))).run P w = .ok (.int k (nth l j)) w := by
  unfold nth
  obtain ⟨i, hi, hs⟩ := Option.map_eq_some_iff.1 at_.ie
  have hjl : j < l.length := by omega
  unfold Instr.index
  simp only [asIntOf, Sem.run_bind, Sem.run_pure, Result.andThen_ok, run_underlying at_.ua, Int.toNat_natCast]
  rw [if_pos ⟨by omega, by omega⟩]
  simp only [Sem.run_bind, sizeOf, typeInfo]
  have h := run_part_ints w e k at_.ue l j hjl
  simp only [Sem.run_pure, List.getD_eq_getElem?_getD, List.getElem?_eq_getElem hjl, Option.getD_some]
  simpa [arr, sizeOf, typeInfo, hi, hs] using h
theorem eq_run (hn : l.length = n) (l' : List Int) (hn' : l'.length = n) (d : Nat) (w : World) : (Op.equalIn (d + 2) t (.agg (arr k l)) (.agg (arr k l'))).run P w = .ok (decide (l = l')) w := by
  obtain ⟨i, hi, hs⟩ := Option.map_eq_some_iff.1 at_.ie
  exact run_eql_ints w d t e i k n at_.ua at_.ue hi hs l l' hn hn'
/-- A whole array read. -/
theorem wpl_load_arr {ops : Array Oper} {rest : List Oper} {o : Oper} {a : Act} {w : World} {Q : Exit → Act → World → Prop} (hgd : o.guard = none) (x : Operand) (ho : o.op = .load t x)
    (g : Nat) (hx : a.eval x = .pointer (some ⟨g, 0, none⟩)) (ty : TypeId) (hn : l.length = n) (hg : w.heap[g]? = some (.cells (arr k l) ty (0, 0)))
    (h : wpList P ops Q rest (a.put o.dst (.agg (arr k l))) w) : wpList P ops Q (o :: rest) a w :=
  wpList_load_row hgd t x ho g hx ty (arr k l) (0, 0) _ hg at_.ua rfl (by rw [at_.it, arr_size, hn]) h
/-- The same under a guard that is met. -/
theorem wpl_load_arr_g {ops : Array Oper} {rest : List Oper} {o : Oper} {a : Act} {w : World} {Q : Exit → Act → World → Prop} (hgd : Region.wanted o (yielded ops a.tmps) = true) (x : Operand) (ho : o.op = .load t x)
    (g : Nat) (hx : a.eval x = .pointer (some ⟨g, 0, none⟩)) (ty : TypeId) (hn : l.length = n) (hg : w.heap[g]? = some (.cells (arr k l) ty (0, 0)))
    (h : wpList P ops Q rest (a.put o.dst (.agg (arr k l))) w) : wpList P ops Q (o :: rest) a w :=
  wpList_step fun _ hK => by
    rw [if_pos hgd]
    exact wp_load_row t x ho g hx ty (arr k l) (0, 0) _ hg at_.ua rfl (by rw [at_.it, arr_size, hn]) (hK _ _ h)
/-- A whole array written. -/
theorem wpl_store_arr {ops : Array Oper} {rest : List Oper} {o : Oper} {a : Act} {w : World} {Q : Exit → Act → World → Prop} (hgd : o.guard = none) (x y : Operand) (ho : o.op = .store t x y)
    (g : Nat) (hx : a.eval x = .pointer (some ⟨g, 0, none⟩)) (hy : a.eval y = .agg (arr k l)) (ty : TypeId) (hn : l.length = n) (cur : Array Value) (hc : cur.size = n) (hg : w.heap[g]? = some (.cells cur ty (0, 0)))
    (h : ∀ w', w'.heap[g]? = some (.cells (arr k l) ty (0, 0)) → w.grownBy w' (some g) → w'.heap.size = w.heap.size → wpList P ops Q rest (a.put o.dst undef) w') : wpList P ops Q (o :: rest) a w := by
  refine wpList_store_mid hgd t x y ho g 0 (arr k l) hx hy ?_ (by rw [at_.it, arr_size, hn]) arr_one ?_
  · intro j hj
    rw [arr_size] at hj
    rw [Nat.zero_add, cell_of_row w g j cur ty _ hg, Array.getElem?_eq_getElem (by omega)]
    exact ⟨rfl, frozen_of_row w g j cur ty hg⟩
  · refine h _ ?_ (grown_setCells g _ _ _ _ (World.grownBy.refl w _)) (setCells_size _ _ _ _)
    rw [setCells_heap _ _ _ _ hg, over_all _ _ (by simp; omega)]
theorem res_arr {fn : Func} {p : Tmp} (h : fn.results = #[.cell p t]) (tmps : Array Value) (w : World) (g : Nat) (ty : TypeId) (hp : tmps.getD p undef = .pointer (some ⟨g, 0, none⟩)) (hn : l.length = n) (hg : w.heap[g]? = some (.cells (arr k l) ty (0, 0))) :
    (results fn tmps).run P w = .ok (.agg (arr k l)) w :=
  results_cell_row h tmps w g ty (arr k l) (0, 0) _ hp hg at_.ua rfl (by rw [at_.it, arr_size, hn])
omit at_ in
theorem blk_cell {W : World} {g : Nat} {ty : TypeId} (hg : W.heap[g]? = some (.cells (arr k l) ty (0, 0))) (j : Nat) (hj : j < l.length) : W.cell? ⟨g, j, none⟩ = some (.int k (nth l j)) := by
  rw [cell_of_row W g j _ _ _ hg, arr_get j hj]
omit at_ in
theorem blk_set {W : World} {g : Nat} {ty : TypeId} (hg : W.heap[g]? = some (.cells (arr k l) ty (0, 0))) (j : Nat) (v : Int) : (W.setCell ⟨g, j, none⟩ (.int k v)).heap[g]? = some (.cells (arr k (l.set j v)) ty (0, 0)) := by
  rw [heap_setCell_same W g j _ ty _ hg, arr_set]
end
end Go.Tin
