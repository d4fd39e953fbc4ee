/- Words for rows of the call's own that are written: one element stored, made of zeros, copied into. No program in sight. -/
import Derived.Test.YtmdcdmgbillehaaArr
import Derived.Laws.CopyOwn
import Derived.Laws.OwnMore
namespace Go.Tin
open Go.RowKit
set_option linter.unusedSimpArgs false
set_option linter.unusedVariables false

section
variable {k : IntKind} {e : TypeId} {w w' : World} {B g m c : Nat} {l : List Int}
theorem Own.set (h : Own k e w B (.slice (some ⟨g, 0, none⟩) m c) l) (j : Nat) (n : Int) :
    Own k e (w.setCell ⟨g, j, none⟩ (.int k n)) B (.slice (some ⟨g, 0, none⟩) m c) (l.set j n) ∧ w.grownBy (w.setCell ⟨g, j, none⟩ (.int k n)) (some g) := by
  have hm : m = l.length := h.sl'.1
  subst hm
  obtain ⟨h1, h2⟩ := World.ownsRow.stored h j (.int k n)
  unfold Own
  rw [List.length_set, List.map_set]
  exact ⟨h1, h2⟩
theorem Own.cell_ (h : Own k e w B (.slice (some ⟨g, 0, none⟩) m c) l) (j : Nat) (hj : j < l.length) : w.cell? ⟨g, j, none⟩ = some (.int k (nth l j)) := by
  have hm : m = l.length := h.sl'.1
  subst hm
  rw [World.ownsRow.cellAt h j (by omega)]
  simp [nth, List.getD_eq_getElem?_getD, hj]
theorem Own.free (h : Own k e w B (.slice (some ⟨g, 0, none⟩) m c) l) (j : Nat) : w.frozen? ⟨g, j, none⟩ = false := by
  have hm : m = l.length := h.sl'.1
  subst hm
  exact World.ownsRow.frozenAt h j
theorem nth_set (l : List Int) (j i : Nat) (n : Int) (hj : j < l.length) : nth (l.set j n) i = if i = j then n else nth l i := by
  unfold nth
  rw [List.getD_eq_getElem?_getD, List.getElem?_set]
  by_cases h : j = i
  · subst h; simp [hj]
  · rw [if_neg h, if_neg (fun e => h e.symm), List.getD_eq_getElem?_getD]
theorem ext_nth {l l' : List Int} (hl : l.length = l'.length) (h : ∀ i, i < l.length → nth l i = nth l' i) : l = l' := by
  apply List.ext_getElem hl
  intro i h1 h2
  have := h i h1
  simpa [nth, List.getD_eq_getElem?_getD, h1, h2] using this
end

section
variable {P : Program} {s e : TypeId} {k : IntKind} {by_ : Nat} (bt : ST P s e k by_)
include bt
/-- x[j] = n, x a row of the call's own. -/
theorem wpl_set {ops : Array Oper} {rest : List Oper} {o : Oper} {a : Act} {Q : Exit → Act → World → Prop} (w : World) (hgd : o.guard = none) (x y : Operand)
    (ho : o.op = Op.store e x y) (B g m c : Nat) (l : List Int) (hown : Own k e w B (.slice (some ⟨g, 0, none⟩) m c) l) (j : Nat) (hj : j < l.length) (n : Int)
    (hx : a.eval x = .pointer (some ⟨g, j, none⟩)) (hy : a.eval y = .int k n)
    (h : ∀ w', Own k e w' B (.slice (some ⟨g, 0, none⟩) m c) (l.set j n) → w.grownBy w' (some g) → w'.heap.size = w.heap.size → wpList P ops Q rest (a.put o.dst undef) w') : wpList P ops Q (o :: rest) a w := by
  refine wpList_plain hgd fun K hK => ?_
  obtain ⟨h1, h2⟩ := hown.set j n
  have hc := hown.cell_ j hj
  have hf := hown.free j
  obtain ⟨i, hi, _, hsz, _⟩ := bt.info
  unfold Oper.wp execOp
  have hrun : (Instr.storeAt e (.pointer (some ⟨g, j, none⟩)) (.int k n)).run P w = .ok () (w.setCell ⟨g, j, none⟩ (.int k n)) := by
    have hsize : (sizeOf e).run P w = .ok 1 w := by simp [sizeOf, typeInfo, hi, hsz]
    simp [go_sem, Instr.storeAt, Instr.sureAddr, hc, hf, hsize]
  simp only [ho, hx, hy, Sem.run_bind, hrun, Result.andThen_ok, Sem.run_pure]
  exact hK _ _ (h _ h1 h2 (by simp [World.setCell]))
/-- make([]T, n). -/
theorem wpl_makeN {ops : Array Oper} {rest : List Oper} {o : Oper} {a : Act} {Q : Exit → Act → World → Prop} (w : World) (hgd : o.guard = none) (x y : Operand)
    (ho : o.op = Op.makeSlice s x y) (B : Nat) (kl kc : IntKind) (L C : Int) (n : Nat) (hx : a.eval x = .int kl L) (hy : a.eval y = .int kc C) (hL : L = (n : Int)) (hC : C = (n : Int))
    (hb : by_ * n ≤ 281474976710656) (hn : n ≤ maxLen) (hB : B ≤ w.heap.size)
    (h : ∀ w', Own k e w' B (.slice (some ⟨w.heap.size, 0, none⟩) n n) (List.replicate n 0) → w.grownBy w' none → wpList P ops Q rest (a.put o.dst (.slice (some ⟨w.heap.size, 0, none⟩) n n)) w') : wpList P ops Q (o :: rest) a w := by
  obtain ⟨i, hi, hz, hsz, hby⟩ := bt.info
  refine wpList_make_full w hgd x y s ho B e i (.int k 0) 1 bt.us hi hz hsz kl kc L C n hx hy hL hC (by rw [hby]; exact hb) hn hB fun w' h1 h2 => h w' ?_ h2
  unfold Own
  rw [List.length_replicate, List.map_replicate]
  have e1 : (madeCells (Value.int k 0).cells (n * 1)).toList = List.replicate n (Value.int k 0) := by
    rw [Nat.mul_one]; exact toList_madeCells_one _ _
  rw [e1] at h1
  exact h1
/-- copy(x, y), x a row of the call's own, of the same length as y. -/
theorem wpl_copyAll {ops : Array Oper} {rest : List Oper} {o : Oper} {a : Act} {Q : Exit → Act → World → Prop} (w : World) (hgd : o.guard = none) (x y : Operand)
    (ho : o.op = .call { callee := .builtin .copy, args := #[x, y], argTypes := #[s, s] }) (B g c n : Nat) (l : List Int) (hln : l.length = n) (hx : a.eval x = .slice (some ⟨g, 0, none⟩) n c) (hown : Own k e w B (.slice (some ⟨g, 0, none⟩) n c) l)
    (A : Option Addr) (c' : Nat) (news : List Int) (hnl : news.length = n) (hy : a.eval y = .slice A n c') (hr : Sl k w A news) (hB : B ≤ w.heap.size)
    (h : ∀ w', Own k e w' B (.slice (some ⟨g, 0, none⟩) n c) news → w.grownBy w' (some g) → w'.heap.size = w.heap.size → wpList P ops Q rest (a.put o.dst (goInt n)) w') : wpList P ops Q (o :: rest) a w := by
  subst hln
  have hl := hnl
  rw [← hnl] at hy h
  obtain ⟨i, hi, hz, hsz, hby⟩ := bt.info
  have hsz' : (P.info? e).map (·.size) = some 1 := by rw [hi]; simp [hsz]
  have hmin : Nat.min news.length l.length = news.length := by rw [hl]; exact Nat.min_self _
  rcases hown.2 with ⟨h', _⟩ | ⟨g', cap', cur, h', hb, hg, hnc, hcm, hcs, htake⟩
  · simp at h'
  · simp only [Value.slice.injEq, Option.some.injEq, Addr.mk.injEq, and_true, true_and] at h'
    obtain ⟨rfl, rfl⟩ := h'
    by_cases h0 : news.length = 0
    · have hn : news = [] := List.eq_nil_of_length_eq_zero h0
      have hl0 : l = [] := List.eq_nil_of_length_eq_zero (by omega)
      subst hn
      subst hl0
      refine wpList_copy_nothing hgd x y s s ho e bt.us hsz' _ _ _ _ _ _ hx hy hmin ?_
      exact h w hown (World.grownBy.refl w _) rfl
    · rcases hr with hr | ⟨b, off, rfl, hlt, hc⟩
      · subst hr; simp at h0
      refine wpList_copy_own hgd x y s s ho e bt.us hsz' g 0 l.length c ⟨b, off, none⟩ news.length c' hx hy cur e hg (news.map (Value.int k)) (by rw [List.length_map]; exact hmin.symm) ?_ (by rw [List.length_map]; omega) (by simp [Value.oneCell']) ?_
      · intro j v hj
        rw [List.getElem?_map] at hj
        obtain ⟨z, hz', rfl⟩ := Option.map_eq_some_iff.1 hj
        have hjl : j < news.length := (List.getElem?_eq_some_iff.1 hz').1
        rw [add_none, hc j hjl, List.getD_eq_getElem?_getD, hz']
        rfl
      · have hs := setRow_heap w g cur (cur.toList.take 0 ++ (news.map (Value.int k) ++ cur.toList.drop (0 + (news.map (Value.int k)).length))).toArray e (0, 0) hg
        have hgr : w.grownBy (w.setRow g (cur.toList.take 0 ++ (news.map (Value.int k) ++ cur.toList.drop (0 + (news.map (Value.int k)).length))).toArray) (some g) :=
          ⟨rfl, rfl, rfl, by simp [World.setRow], fun q hq hne => setRow_other w g q _ (fun e => hne (by rw [e]))⟩
        rw [show goInt (news.map (Value.int k)).length = goInt news.length by rw [List.length_map]]
        refine h _ ?_ hgr (by simp [World.setRow])
        unfold Own
        exact ⟨by simp, .inr ⟨g, c, _, rfl, hb, hs, by omega, hcm, by simp; omega, by simp⟩⟩
end
end Go.Tin
namespace Go.Tin
open Go.RowKit
theorem own_form {k : IntKind} {e : TypeId} {w : World} {B : Nat} {v : Value} {l : List Int} (h : Own k e w B v l) : ∃ A c, v = .slice A l.length c := by
  obtain ⟨A, c, hv, _⟩ := h.sl
  exact ⟨A, c, hv⟩
theorem take_snoc_nth (l : List Int) (i : Nat) (h : i < l.length) : l.take (i + 1) = l.take i ++ [nth l i] := by
  rw [List.take_succ_eq_append_getElem h]
  simp [nth, List.getD_eq_getElem?_getD, h]
theorem take_eq_step {l m : List Int} {i : Nat} (h : l.take i = m.take i) (hl : i < l.length) (hm : i < m.length) (he : nth l i = nth m i) : l.take (i + 1) = m.take (i + 1) := by
  rw [take_snoc_nth l i hl, take_snoc_nth m i hm, h, he]
theorem nth_ne {l m : List Int} {i : Nat} (he : nth l i ≠ nth m i) : l ≠ m := fun h => he (by rw [h])
end Go.Tin
namespace Go.Tin
open Go.RowKit
theorem Own.lit {k : IntKind} {e : TypeId} (w : World) (cs : Array Value) (l : List Int) (n : Nat) (h : cs.toList = l.map (Value.int k)) (hn : n = l.length) (hl : l.length ≤ maxLen) : Own k e (w.alloc (.cells cs e)) w.heap.size (.slice (some ⟨w.heap.size, 0, none⟩) n n) l := by
  subst hn
  have hs : cs.size = l.length := by rw [← Array.length_toList, h, List.length_map]
  refine ⟨by simp, .inr ⟨w.heap.size, l.length, cs, rfl, Nat.le_refl _, heap_alloc_new w _, Nat.le_refl _, hl, by omega, ?_⟩⟩
  rw [h, List.take_of_length_le (by simp)]
end Go.Tin
namespace Go.Tin
open Go.RowKit
theorem alloc1 (w : World) (o0 : Obj) : (w.alloc o0).heap[w.heap.size]? = some o0 ∧ Below w.heap.size w (w.alloc o0) ∧ (w.alloc o0).heap.size = w.heap.size + 1 :=
  ⟨heap_alloc_new w o0, ba (brefl w) _, by simp⟩
theorem alloc2 (w : World) (o0 o1 : Obj) : ((w.alloc o0).alloc o1).heap[w.heap.size]? = some o0 ∧ ((w.alloc o0).alloc o1).heap[w.heap.size + 1]? = some o1 ∧ Below w.heap.size w ((w.alloc o0).alloc o1) ∧ ((w.alloc o0).alloc o1).heap.size = w.heap.size + 2 :=
  ⟨heap_alloc2_old w o0 o1, heap_alloc2_new w o0 o1, ba (ba (brefl w) _) _, by simp⟩
theorem alloc3 (w : World) (o0 o1 o2 : Obj) : (((w.alloc o0).alloc o1).alloc o2).heap[w.heap.size]? = some o0 ∧ (((w.alloc o0).alloc o1).alloc o2).heap[w.heap.size + 1]? = some o1 ∧ (((w.alloc o0).alloc o1).alloc o2).heap[w.heap.size + 2]? = some o2 ∧ Below w.heap.size w (((w.alloc o0).alloc o1).alloc o2) ∧ (((w.alloc o0).alloc o1).alloc o2).heap.size = w.heap.size + 3 := by
  obtain ⟨h0, h1, hb, hz⟩ := alloc2 w o0 o1
  obtain ⟨k, kb, kz⟩ := alloc1 ((w.alloc o0).alloc o1) o2
  refine ⟨(kb.block _ (by omega)).trans h0, (kb.block _ (by omega)).trans h1, by rw [← hz]; exact k, bt hb kb, by omega⟩
theorem alloc4 (w : World) (o0 o1 o2 o3 : Obj) : ((((w.alloc o0).alloc o1).alloc o2).alloc o3).heap[w.heap.size]? = some o0 ∧ ((((w.alloc o0).alloc o1).alloc o2).alloc o3).heap[w.heap.size + 1]? = some o1 ∧ ((((w.alloc o0).alloc o1).alloc o2).alloc o3).heap[w.heap.size + 2]? = some o2 ∧ ((((w.alloc o0).alloc o1).alloc o2).alloc o3).heap[w.heap.size + 3]? = some o3 ∧ Below w.heap.size w ((((w.alloc o0).alloc o1).alloc o2).alloc o3) ∧ ((((w.alloc o0).alloc o1).alloc o2).alloc o3).heap.size = w.heap.size + 4 := by
  obtain ⟨h0, h1, h2, hb, hz⟩ := alloc3 w o0 o1 o2
  obtain ⟨k, kb, kz⟩ := alloc1 (((w.alloc o0).alloc o1).alloc o2) o3
  refine ⟨(kb.block _ (by omega)).trans h0, (kb.block _ (by omega)).trans h1, (kb.block _ (by omega)).trans h2, by rw [← hz]; exact k, bt hb kb, by omega⟩
end Go.Tin
namespace Go.Tin
open Go.RowKit
theorem bset {B : Nat} {w0 w : World} (hb : Below B w0 w) (g i : Nat) (v : Value) (h : B ≤ g) : Below B w0 (w.setCell ⟨g, i, none⟩ v) := Below.setCell hb (show B ≤ (⟨g, i, none⟩ : Addr).block from h) v
end Go.Tin
