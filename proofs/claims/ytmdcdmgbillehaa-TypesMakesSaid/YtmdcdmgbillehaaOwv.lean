/- Slices whose elements have many cells (structs, arrays): what a slice reads as, a row of the call's own, append, an element read. No program in sight. -/
import Derived.Test.YtmdcdmgbillehaaRwq
import Derived.Test.YtmdcdmgbillehaaByt
import Derived.Deep.AppendLies
import Derived.Deep.MidRow
namespace Go.Tin
open Go.RowKit
set_option linter.unusedSimpArgs false
set_option linter.unusedVariables false

/-- Slice type s, of elements of type e, which have sz cells, by_ bytes each. -/
structure SV (P : Program) (s e : TypeId) (sz by_ : Nat) : Prop where
  us : P.underlying s = some (.slice e)
  info : ∃ i z, P.info? e = some i ∧ i.zero = some z ∧ z.cells.size = sz ∧ i.size = sz ∧ i.bytes = by_
  pos : 0 < sz
theorem SV.of {P : Program} {s e : TypeId} {sz b : Nat} (us : P.underlying s = some (.slice e))
    (h : (P.info? e).bind (fun i => i.zero.map fun z => (z.cells.size, i.size, i.bytes)) = some (sz, sz, b)) (hp : 0 < sz) : SV P s e sz b := by
  obtain ⟨i, hi, h⟩ := Option.bind_eq_some_iff.1 h
  obtain ⟨z, hz, h⟩ := Option.map_eq_some_iff.1 h
  simp only [Prod.mk.injEq] at h
  exact ⟨us, ⟨i, z, hi, hz, h.1, h.2.1, h.2.2⟩, hp⟩

/-- The cells from A on are xs. -/
def SlV (w : World) (A : Option Addr) (xs : List Value) : Prop :=
  xs = [] ∨ ∃ b off, A = some ⟨b, off, none⟩ ∧ b < w.heap.size ∧ ∀ i, i < xs.length → w.cell? ⟨b, off + i, none⟩ = xs[i]?
section
variable {w w' : World} {A : Option Addr} {xs : List Value} {B : Nat}
theorem SlV.nil_ : SlV w A [] := .inl rfl
theorem SlV.keep (h : SlV w A xs) (hb : Below w.heap.size w w') : SlV w' A xs := by
  rcases h with h | ⟨b, off, hA, hlt, hc⟩
  · exact .inl h
  · exact .inr ⟨b, off, hA, Nat.lt_of_lt_of_le hlt hb.size, fun i hi => (hb.cell (p := ⟨b, off + i, none⟩) hlt).trans (hc i hi)⟩
theorem SlV.at_ (h : SlV w A xs) (hl : 0 < xs.length) : ∃ b off, A = some ⟨b, off, none⟩ ∧ b < w.heap.size ∧ ∀ i, i < xs.length → w.cell? ⟨b, off + i, none⟩ = xs[i]? := by
  rcases h with h | h
  · subst h; simp at hl
  · exact h
theorem SlV.cut (h : SlV w A xs) (j : Nat) : SlV w (A.map (·.add j)) (xs.drop j) := by
  rcases h with h | ⟨b, off, hA, hlt, hc⟩
  · subst h; exact .inl (by simp)
  · subst hA
    refine .inr ⟨b, off + j, by simp [add_none], hlt, fun i hi => ?_⟩
    rw [List.length_drop] at hi
    rw [Nat.add_assoc, hc (j + i) (by omega)]
    simp
theorem SlV.take (h : SlV w A xs) (j : Nat) : SlV w A (xs.take j) := by
  rcases h with h | ⟨b, off, hA, hlt, hc⟩
  · subst h; exact .inl (by simp)
  · refine .inr ⟨b, off, hA, hlt, fun i hi => ?_⟩
    rw [List.length_take] at hi
    rw [hc i (by omega)]
    simp [show i < j by omega]
theorem SlV.cut' (h : SlV w A xs) {c j s : Nat} (hl : xs.length ≤ c * s) : SlV w (if c = j then A else A.map (·.add (j * s))) (xs.drop (j * s)) := by
  split
  · rename_i hj
    subst hj
    rw [List.drop_eq_nil_of_le hl]
    exact .inl rfl
  · exact h.cut _
theorem SlV.ofSl {k : IntKind} {zs : List Int} (h : Sl k w A zs) : SlV w A (zs.map (Value.int k)) := by
  rcases h with h | ⟨b, off, hA, hlt, hc⟩
  · subst h; exact .inl rfl
  · refine .inr ⟨b, off, hA, hlt, fun i hi => ?_⟩
    have hi' : i < zs.length := by simpa using hi
    rw [hc i hi']
    simp [List.getD_eq_getElem?_getD, hi']
theorem SlV.toSl {k : IntKind} {zs : List Int} (h : SlV w A (zs.map (Value.int k))) : Sl k w A zs := by
  rcases h with h | ⟨b, off, hA, hlt, hc⟩
  · exact .inl (by simpa using h)
  · refine .inr ⟨b, off, hA, hlt, fun i hi => ?_⟩
    rw [hc i (by simpa using hi)]
    simp [List.getD_eq_getElem?_getD, hi]
theorem SlV.new_ (w : World) (t : TypeId) (cs : Array Value) : SlV (w.alloc (.cells cs t)) (some ⟨w.heap.size, 0, none⟩) cs.toList := by
  refine .inr ⟨w.heap.size, 0, rfl, by simp, fun i hi => ?_⟩
  rw [World.cell?_alloc_new, ← Array.getElem?_toList, Nat.zero_add]
theorem SlV.rng {b off : Nat} (h : SlV w (some ⟨b, off, none⟩) xs) (i n : Nat) (hin : i + n ≤ xs.length) : w.rangeAt b (off + i) ((xs.drop i).take n) := by
  intro j v hj
  have hjl : j < ((xs.drop i).take n).length := (List.getElem?_eq_some_iff.1 hj).1
  rw [List.length_take, List.length_drop] at hjl
  rcases h with h | ⟨b', off', hA, hlt, hc⟩
  · subst h; simp at hin; omega
  · simp only [Option.some.injEq, Addr.mk.injEq, and_true] at hA
    obtain ⟨rfl, rfl⟩ := hA
    rw [Nat.add_assoc, hc (i + j) (by omega), ← hj]
    simp [show j < n by omega]
end

/-- v is a slice of n elements over a row of the call's own, in a block from B on; xs are its cells. -/
def OwnV (e : TypeId) (sz : Nat) (w : World) (B : Nat) (v : Value) (n : Nat) (xs : List Value) : Prop := w.ownsRow B e sz v n xs
section
variable {e : TypeId} {sz : Nat} {w w' : World} {B n : Nat} {v : Value} {xs : List Value}
theorem OwnV.len (h : OwnV e sz w B v n xs) : xs.length = n * sz := h.1
theorem OwnV.sl (h : OwnV e sz w B v n xs) : ∃ A c, v = .slice A n c ∧ SlV w A xs ∧ n ≤ c ∧ c ≤ maxLen ∧ ((A = none ∧ c = 0) ∨ ∃ g, A = some ⟨g, 0, none⟩ ∧ B ≤ g ∧ g < w.heap.size) := by
  obtain ⟨h1, h2⟩ := h
  rcases h2 with ⟨rfl, rfl⟩ | ⟨g, cap, cur, rfl, hBg, hh, hnc, hcm, hcs, hx⟩
  · have : xs = [] := List.eq_nil_of_length_eq_zero (by simpa using h1)
    subst this
    exact ⟨none, 0, rfl, .inl rfl, Nat.le_refl _, by decide, .inl ⟨rfl, rfl⟩⟩
  · have hlt : g < w.heap.size := by
      rcases Nat.lt_or_ge g w.heap.size with h | h
      · exact h
      · rw [Array.getElem?_eq_none h] at hh; cases hh
    refine ⟨some ⟨g, 0, none⟩, cap, rfl, .inr ⟨g, 0, rfl, hlt, fun i hi => ?_⟩, hnc, hcm, .inr ⟨g, rfl, hBg, hlt⟩⟩
    have h3 := World.ownsRow.cells (w := w) (base := B) (e := e) (size := sz) (v := .slice (some ⟨g, 0, none⟩) n cap) (n := n) (xs := xs) ⟨h1, .inr ⟨g, cap, cur, rfl, hBg, hh, hnc, hcm, hcs, hx⟩⟩ (g := g) rfl i xs[i]
      (List.getElem?_eq_getElem hi)
    rw [add_none] at h3
    rw [h3, List.getElem?_eq_getElem hi]
theorem OwnV.sl' {A : Option Addr} {m c : Nat} (h : OwnV e sz w B (.slice A m c) n xs) : m = n ∧ SlV w A xs ∧ n ≤ c ∧ c ≤ maxLen := by
  obtain ⟨A', c', he, hs, h1, h2, _⟩ := h.sl
  injection he with hA hn hc
  subst hA; subst hc
  exact ⟨hn, hs, h1, h2⟩
theorem ownv_form (h : OwnV e sz w B v n xs) : ∃ A c, v = .slice A n c := by
  obtain ⟨A, c, hv, _⟩ := h.sl
  exact ⟨A, c, hv⟩
theorem OwnV.keep (h : OwnV e sz w B v n xs) (hb : Below w.heap.size w w') : OwnV e sz w' B v n xs := by
  obtain ⟨h1, h2⟩ := h
  refine ⟨h1, ?_⟩
  rcases h2 with h2 | ⟨g, cap, cur, hv, hBg, hh, r⟩
  · exact .inl h2
  · refine .inr ⟨g, cap, cur, hv, hBg, ?_, r⟩
    have hlt : g < w.heap.size := by
      rcases Nat.lt_or_ge g w.heap.size with h | h
      · exact h
      · rw [Array.getElem?_eq_none h] at hh; cases hh
    rw [hb.block g hlt]; exact hh
theorem OwnV.nil_ (e : TypeId) (sz : Nat) (w : World) (B : Nat) : OwnV e sz w B (.slice none 0 0) 0 [] := ⟨by simp, .inl ⟨rfl, rfl⟩⟩
theorem OwnV.new0 (e : TypeId) (sz : Nat) (w : World) : OwnV e sz (w.alloc (.cells #[] e)) w.heap.size (.slice (some ⟨w.heap.size, 0, none⟩) 0 0) 0 [] :=
  ⟨by simp, .inr ⟨w.heap.size, 0, #[], rfl, Nat.le_refl _, heap_alloc_new w _, Nat.le_refl _, by decide, by simp, by simp⟩⟩
theorem OwnV.lit (w : World) (cs : Array Value) (hs : cs.size = n * sz) (hn : n ≤ maxLen) : OwnV e sz (w.alloc (.cells cs e)) w.heap.size (.slice (some ⟨w.heap.size, 0, none⟩) n n) n cs.toList :=
  ⟨by simpa using hs, .inr ⟨w.heap.size, n, cs, rfl, Nat.le_refl _, heap_alloc_new w _, Nat.le_refl _, hn, hs, List.take_of_length_le (by simp [hs])⟩⟩
theorem OwnV.mono {B' : Nat} (h : OwnV e sz w B v n xs) (hB : B' ≤ B) : OwnV e sz w B' v n xs := by
  obtain ⟨h1, h2⟩ := h
  refine ⟨h1, ?_⟩
  rcases h2 with h2 | ⟨g, cap, cur, hv, hBg, r⟩
  · exact .inl h2
  · exact .inr ⟨g, cap, cur, hv, Nat.le_trans hB hBg, r⟩
theorem OwnV.grown {w0 : World} (h : OwnV e sz w B v n xs) (hb : Below B w0 w) (hB : B ≤ w.heap.size) (hg : w.grownBy w' v.ownBlock) : Below B w0 w' :=
  hb.grown hg hB fun g hg => (World.ownsRow.lt h g hg).1
theorem OwnV.kept {row : Option Nat} (h : OwnV e sz w B v n xs) (hg : w.grownBy w' row) (hne : v.ownBlock = none ∨ v.ownBlock ≠ row) : OwnV e sz w' B v n xs :=
  World.ownsRow.kept h hg hne
theorem OwnV.alloc (h : OwnV e sz w B v n xs) (o : Obj) : OwnV e sz (w.alloc o) B v n xs := h.keep ((Below.refl _ _).alloc (Nat.le_refl _) o)
theorem OwnV.drew (h : OwnV e sz w B v n xs) : OwnV e sz w.drew B v n xs := h
theorem OwnV.low {A : Option Addr} {m c : Nat} (h : OwnV e sz w B (.slice A m c) n xs) : ∀ q, (Value.slice A m c).ownBlock = some q → B ≤ q ∧ q < w.heap.size := fun q hq => by
  obtain ⟨h1, h2⟩ := World.ownsRow.lt h q hq
  exact ⟨h1, h2⟩
end

section
variable {P : Program} {s e : TypeId} {sz by_ : Nat} (bt : SV P s e sz by_)
include bt
/-- append(x, y...), x a row of the call's own. -/
theorem appv_run (w : World) (ty : TypeId) (B : Nat) (v : Value) (n : Nat) (xs : List Value) (hown : OwnV e sz w B v n xs) (A : Option Addr) (m c : Nat) (news : List Value) (hl : news.length = m * sz) (hr : SlV w A news) (h1 : ∀ u ∈ news, u.oneCell' = true)
    (hlen : (n + m) * by_ ≤ 140737488355328) (hlen' : n + m ≤ 140737488355328) (hB : B ≤ w.heap.size) :
    ∃ v' w', (Builtin.append_ #[s, s] ty #[v, .slice A m c]).run P w = .ok v' w' ∧ OwnV e sz w' B v' (n + m) (xs ++ news) ∧ w.grownBy w' v.ownBlock ∧ (v'.ownBlock = v.ownBlock ∨ v'.ownBlock = some w.heap.size) := by
  obtain ⟨i, z, hi, hz, hzs, hsz, hby⟩ := bt.info
  have hcells : ∀ ad : Addr, A = some ad → ∀ j u, news[j]? = some u → w.cell? (ad.add j) = some u := by
    rintro ad rfl j u hj
    rcases hr with h | ⟨b, off, h, _, hc⟩
    · subst h; simp at hj
    · injection h with h
      subst h
      rw [add_none, hc j (List.getElem?_eq_some_iff.1 hj).1, hj]
  rcases A with _ | ad
  · have hn : news = [] := by
      rcases hr with h | ⟨b, off, h, _⟩
      · exact h
      · cases h
    subst hn
    have hm : m = 0 := by
      have : m * sz = 0 := by simpa using hl.symm
      rcases Nat.mul_eq_zero.1 this with h | h
      · exact h
      · have := bt.pos; omega
    subst hm
    refine ⟨v, w, ?_, by simpa using hown, World.grownBy.refl w _, .inl rfl⟩
    rcases hown.2 with ⟨rfl, h0⟩ | ⟨g, cap, cur, rfl, _, _, hnc, _⟩
    · subst h0
      simp [Builtin.append_, run_underlying bt.us, sizeOf, typeInfo, hi, Builtin.lenOf, Builtin.firstCells]
    · simp [Builtin.append_, run_underlying bt.us, sizeOf, typeInfo, hi, Builtin.lenOf, Builtin.firstCells, hnc, storeCells]
  · obtain ⟨v', w', h1', h2, h3, _, h5⟩ := run_append_own_at (P := P) w B s ty e i z sz by_ bt.us hi hz hsz hby hzs bt.pos v n xs hown ad m c news hl (hcells ad rfl) h1 (by unfold maxLen; omega) hlen hB
    exact ⟨v', w', h1', h2, h3, h5⟩
theorem wplv_app {ops : Array Oper} {rest : List Oper} {o : Oper} {a : Act} {Q : Exit → Act → World → Prop} (w : World) (hgd : o.guard = none) (x y : Operand)
    (ho : o.op = .call { callee := .builtin .append, args := #[x, y], argTypes := #[s, s] }) (B : Nat) (v : Value) (n : Nat) (xs : List Value) (hs : a.eval x = v) (hown : OwnV e sz w B v n xs)
    (A : Option Addr) (m c : Nat) (news : List Value) (hy : a.eval y = .slice A m c) (hl : news.length = m * sz) (hr : SlV w A news) (h1 : ∀ u ∈ news, u.oneCell' = true)
    (hlen : (n + m) * by_ ≤ 140737488355328) (hlen' : n + m ≤ 140737488355328) (hB : B ≤ w.heap.size)
    (h : ∀ A' c' w', OwnV e sz w' B (.slice A' (n + m) c') (n + m) (xs ++ news) → w.grownBy w' v.ownBlock → ((Value.slice A' (n + m) c').ownBlock = v.ownBlock ∨ (Value.slice A' (n + m) c').ownBlock = some w.heap.size) → wpList P ops Q rest (a.put o.dst (.slice A' (n + m) c')) w') : wpList P ops Q (o :: rest) a w := by
  refine wpList_plain hgd fun K hK => ?_
  obtain ⟨v', w', hrun, h2, h3, h4⟩ := appv_run bt w o.type B v n xs hown A m c news hl hr h1 hlen hlen' hB
  obtain ⟨A', c', rfl⟩ := ownv_form h2
  unfold Oper.wp execOp
  simp only [ho, resolve, invoke, builtin, Sem.run_bind, Sem.run_pure, Result.andThen_ok, List.map_toArray, List.map_cons, List.map_nil, hs, hy, hrun]
  exact hK _ _ (h A' c' w' h2 h3 h4)
/-- out = append(out, x): the element's own row was made one step ahead. -/
theorem wplv_push {ops : Array Oper} {rest : List Oper} {o : Oper} {a : Act} {Q : Exit → Act → World → Prop} (w : World) (cs : Array Value) (hgd : o.guard = none) (x y : Operand)
    (ho : o.op = .call { callee := .builtin .append, args := #[x, y], argTypes := #[s, s] }) (B : Nat) (A : Option Addr) (m c : Nat) (xs : List Value) (hs : a.eval x = .slice A m c) (hown : OwnV e sz w B (.slice A m c) m xs)
    (hB : B ≤ w.heap.size) (hy : a.eval y = .slice (some ⟨w.heap.size, 0, none⟩) 1 1) (hcs : cs.size = sz) (h1 : ∀ u ∈ cs.toList, u.oneCell' = true)
    (hlen : (m + 1) * by_ ≤ 140737488355328) (hlen' : m + 1 ≤ 140737488355328)
    (h : ∀ A' c' w', OwnV e sz w' B (.slice A' (m + 1) c') (m + 1) (xs ++ cs.toList) → w.grownBy w' (Value.slice A m c).ownBlock → ((Value.slice A' (m + 1) c').ownBlock = (Value.slice A m c).ownBlock ∨ ∃ g, (Value.slice A' (m + 1) c').ownBlock = some g ∧ w.heap.size ≤ g) → wpList P ops Q rest (a.put o.dst (.slice A' (m + 1) c')) w') :
    wpList P ops Q (o :: rest) a (w.alloc (.cells cs e)) := by
  have hg0 : w.grownBy (w.alloc (.cells cs e)) (Value.slice A m c).ownBlock := World.grownBy_alloc w _ _
  refine wplv_app bt _ hgd x y ho B _ m xs hs (hown.alloc _) (some ⟨w.heap.size, 0, none⟩) 1 1 cs.toList hy (by simpa using hcs) (SlV.new_ w _ _) h1 hlen hlen' (by simp; omega) fun A' c' w' h2 h3 h4 => ?_
  refine h A' c' w' h2 (hg0.trans h3) ?_
  rcases h4 with h4 | h4
  · exact .inl h4
  · exact .inr ⟨_, h4, by simp⟩
end

section
variable {P : Program} {t : TypeId} {n : Nat} (rt : RT P t n)
include rt
theorem loadv_run (w : World) (b o : Nat) (cs : List Value) (hn : cs.length = n) (hc : w.rangeAt b o cs) : (Instr.loadAt t (.pointer (some ⟨b, o, none⟩))).run P w = .ok (.agg cs.toArray) w := by
  obtain ⟨d, hu, hd⟩ := rt.ut
  have hr : (loadVar t ⟨b, o, none⟩).run P w = .ok (.agg cs.toArray) w := by
    cases d <;> first | (cases hd; done) | exact run_loadVar_mid w b o t cs _ hc hu rfl (by rw [rt.it, hn])
  simp only [Instr.loadAt, Instr.sureAddr, Sem.run_bind, Sem.run_pure, Result.andThen_ok, hr]
/-- An element (or a part) of many cells that is read. -/
theorem wpl_loadv {ops : Array Oper} {rest : List Oper} {o : Oper} {a : Act} {w : World} {Q : Exit → Act → World → Prop} (hgd : Region.wanted o (yielded ops a.tmps) = true) (x : Operand) (ho : o.op = .load t x)
    (b q : Nat) (hx : a.eval x = .pointer (some ⟨b, q, none⟩)) (cs : List Value) (hn : cs.length = n) (hc : w.rangeAt b q cs)
    (h : wpList P ops Q rest (a.put o.dst (.agg cs.toArray)) w) : wpList P ops Q (o :: rest) a w := by
  refine wpList_step fun K hK => ?_
  rw [if_pos hgd]
  unfold Oper.wp execOp
  simp only [ho, hx, Sem.run_bind, loadv_run rt w b q cs hn hc, Result.andThen_ok, Sem.run_pure]
  exact hK _ _ h
theorem wpq_loadv {ops : Array Oper} {C : World → Prop} {Q : Act → Prop} {a : Act} {o : Oper} {rest : List Oper} (hw : Region.wanted o (yielded ops a.tmps) = true) (x : Operand) (ho : o.op = .load t x)
    (b q : Nat) (hx : a.eval x = .pointer (some ⟨b, q, none⟩)) (cs : List Value) (hn : cs.length = n) (hc : ∀ w, C w → w.rangeAt b q cs)
    (h : wpQuiet P ops C Q rest (a.put o.dst (.agg cs.toArray))) : wpQuiet P ops C Q (o :: rest) a := by
  refine wpq_value _ hw (fun w hC => ?_) h
  unfold execOp
  simp only [ho, hx, Sem.run_bind, loadv_run rt w b q cs hn (hc w hC), Result.andThen_ok, Sem.run_pure]
end
end Go.Tin
