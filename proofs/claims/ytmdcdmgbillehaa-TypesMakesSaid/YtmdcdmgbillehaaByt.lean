/- Words for slices of integers: what a slice reads as, a row of the call's own, append, the text of bytes. No program in sight. -/
import Derived.Test.YtmdcdmgbillehaaPre
import Derived.Maps.AppendAt
import Derived.WalkSpells
import Derived.OwnWalk
import Derived.Lib.SliceRun
namespace Go.Tin
open Go.RowKit
set_option linter.unusedSimpArgs false
set_option linter.unusedVariables false

/-- Slice type s, of elements of type e, which are integers of kind k, so many bytes each. -/
structure ST (P : Program) (s e : TypeId) (k : IntKind) (by_ : Nat) : Prop where
  us : P.underlying s = some (.slice e)
  ue : P.underlying e = some (.int k)
  info : ∃ i, P.info? e = some i ∧ i.zero = some (.int k 0) ∧ i.size = 1 ∧ i.bytes = by_

theorem ST.of {P : Program} {s e : TypeId} {k : IntKind} {b : Nat} (us : P.underlying s = some (.slice e)) (ue : P.underlying e = some (.int k))
    (h : (P.info? e).map (fun i => (i.zero, i.size, i.bytes)) = some (some (.int k 0), 1, b)) : ST P s e k b := by
  obtain ⟨i, hi, h⟩ := Option.map_eq_some_iff.1 h
  simp only [Prod.mk.injEq] at h
  exact ⟨us, ue, i, hi, h.1, h.2.1, h.2.2⟩

/-- The slice at A reads as l. -/
def Sl (k : IntKind) (w : World) (A : Option Addr) (l : List Int) : Prop :=
  l = [] ∨ ∃ b off, A = some ⟨b, off, none⟩ ∧ b < w.heap.size ∧ ∀ i, i < l.length → w.cell? ⟨b, off + i, none⟩ = some (.int k (l.getD i 0))

section
variable {k : IntKind} {w w' : World} {A : Option Addr} {l : List Int} {B : Nat}
theorem Sl.nil_ : Sl k w A [] := .inl rfl
theorem Sl.keep (h : Sl k w A l) (hb : Below w.heap.size w w') : Sl k w' A l := by
  rcases h with h | ⟨b, off, hA, hlt, hc⟩
  · exact .inl h
  · exact .inr ⟨b, off, hA, Nat.lt_of_lt_of_le hlt hb.size, fun i hi => (hb.cell (p := ⟨b, off + i, none⟩) hlt).trans (hc i hi)⟩
theorem Sl.at_ (h : Sl k w A l) (hl : 0 < l.length) : ∃ b off, A = some ⟨b, off, none⟩ ∧ b < w.heap.size ∧ ∀ i, i < l.length → w.cell? ⟨b, off + i, none⟩ = some (.int k (l.getD i 0)) := by
  rcases h with h | h
  · subst h; simp at hl
  · exact h
theorem add_none (b off j : Nat) : (⟨b, off, none⟩ : Addr).add j = ⟨b, off + j, none⟩ := by
  unfold Addr.add; split <;> simp_all
theorem Sl.cut (h : Sl k w A l) (j : Nat) : Sl k w (A.map (·.add j)) (l.drop j) := by
  rcases h with h | ⟨b, off, hA, hlt, hc⟩
  · subst h; exact .inl (by simp)
  · subst hA
    refine .inr ⟨b, off + j, by simp [add_none], hlt, fun i hi => ?_⟩
    rw [List.length_drop] at hi
    rw [Nat.add_assoc, hc (j + i) (by omega)]
    simp [List.getD_eq_getElem?_getD]
theorem Sl.cut' (h : Sl k w A l) {c j : Nat} (hl : l.length ≤ c) : Sl k w (if c = j then A else A.map (·.add j)) (l.drop j) := by
  split
  · rename_i hj
    subst hj
    rw [List.drop_eq_nil_of_le hl]
    exact .inl rfl
  · exact h.cut j
theorem Sl.take (h : Sl k w A l) (j : Nat) : Sl k w A (l.take j) := by
  rcases h with h | ⟨b, off, hA, hlt, hc⟩
  · subst h; exact .inl (by simp)
  · refine .inr ⟨b, off, hA, hlt, fun i hi => ?_⟩
    rw [List.length_take] at hi
    rw [hc i (by omega)]
    simp [List.getD_eq_getElem?_getD, show i < j by omega]
theorem Sl.of_row {len cap : Nat} {zs : List Int} {a : Option Addr} (h : IsRow k w a len cap zs) :
    Sl k w a (zs.take len) ∧ (zs.take len).length = len ∧ len ≤ cap ∧ cap ≤ maxLen ∧ ∀ n ∈ zs.take len, (Lit.int k n).wf = true := by
  rcases h with ⟨rfl, rfl, rfl, rfl⟩ | ⟨x, rfl, hl, hm, hz, hcell, hwz⟩
  · exact ⟨.inl (by simp), by simp, Nat.le_refl _, by decide, by simp⟩
  · refine ⟨?_, by rw [List.length_take]; omega, hl, hm, fun n hn => hwz n (List.mem_of_mem_take hn)⟩
    by_cases h0 : cap = 0
    · subst h0
      exact .inl (by rw [List.eq_nil_of_length_eq_zero hz]; simp)
    · have hspot : x.spot = none := by
        have hc := hcell 0 (by omega)
        have := World.cell?_spot hc
        simpa [Addr.add] using this
      obtain ⟨b, off, spot⟩ := x
      have hs : spot = none := hspot
      subst hs
      have hlt : b < w.heap.size := by
        have hc := hcell 0 (by omega)
        have := World.block_lt_of_cell? w _ hc
        simpa [Addr.add] using this
      refine .inr ⟨b, off, rfl, hlt, fun i hi => ?_⟩
      rw [List.length_take] at hi
      have hc := hcell i (by omega)
      rw [add_none] at hc
      rw [hc]
      simp [List.getD_eq_getElem?_getD, show i < len by omega]

/-- v is a slice over a row of the call's own, in a block from B on, which reads as l. -/
def Own (k : IntKind) (e : TypeId) (w : World) (B : Nat) (v : Value) (l : List Int) : Prop := w.ownsRow B e 1 v l.length (l.map (Value.int k))

variable {e : TypeId} {v : Value}
theorem Own.sl (h : Own k e w B v l) : ∃ A c, v = .slice A l.length c ∧ Sl k w A l ∧ l.length ≤ c ∧ c ≤ maxLen ∧ ((A = none ∧ c = 0) ∨ ∃ g, A = some ⟨g, 0, none⟩ ∧ B ≤ g ∧ g < w.heap.size) := by
  obtain ⟨h1, h2⟩ := h
  rcases h2 with ⟨rfl, hn⟩ | ⟨g, cap, cur, rfl, hBg, hh, hnc, hcm, hcs, hx⟩
  · have : l = [] := List.eq_nil_of_length_eq_zero hn
    subst this
    exact ⟨none, 0, rfl, .inl rfl, Nat.le_refl _, by decide, .inl ⟨rfl, rfl⟩⟩
  · have hlt : g < w.heap.size := by
      rcases Nat.lt_or_ge g w.heap.size with h | h
      · exact h
      · rw [Array.getElem?_eq_none h] at hh; cases hh
    refine ⟨some ⟨g, 0, none⟩, cap, rfl, .inr ⟨g, 0, rfl, hlt, fun i hi => ?_⟩, hnc, hcm, .inr ⟨g, rfl, hBg, hlt⟩⟩
    have h3 := World.ownsRow.cells (w := w) (base := B) (e := e) (size := 1) (v := .slice (some ⟨g, 0, none⟩) l.length cap) (n := l.length) (xs := l.map (Value.int k)) ⟨h1, .inr ⟨g, cap, cur, rfl, hBg, hh, hnc, hcm, hcs, hx⟩⟩ (g := g) rfl i (.int k (l.getD i 0))
      (by rw [List.getElem?_map, List.getElem?_eq_getElem hi]; simp [List.getD_eq_getElem?_getD, hi])
    rw [add_none] at h3
    exact h3
theorem Own.sl' {n c : Nat} (h : Own k e w B (.slice A n c) l) : n = l.length ∧ Sl k w A l := by
  obtain ⟨A', c', he, hs, _⟩ := h.sl
  injection he with hA hn _
  subst hA
  exact ⟨hn, hs⟩
theorem Own.keep (h : Own k e w B v l) (hb : Below w.heap.size w w') : Own k e w' B v l := by
  obtain ⟨h1, h2⟩ := h
  refine ⟨h1, ?_⟩
  rcases h2 with h2 | ⟨g, cap, cur, hv, hBg, hh, r⟩
  · exact .inl h2
  · refine .inr ⟨g, cap, cur, hv, hBg, ?_, r⟩
    have hlt : g < w.heap.size := by
      rcases Nat.lt_or_ge g w.heap.size with h | h
      · exact h
      · rw [Array.getElem?_eq_none h] at hh; cases hh
    rw [hb.block g hlt]; exact hh
theorem Own.nil_ (k : IntKind) (e : TypeId) (w : World) (B : Nat) : Own k e w B (.slice none 0 0) [] := ⟨rfl, .inl ⟨rfl, rfl⟩⟩
theorem Own.new0 (w : World) : Own k e (w.alloc (.cells #[] e)) w.heap.size (.slice (some ⟨w.heap.size, 0, none⟩) 0 0) [] :=
  ⟨rfl, .inr ⟨w.heap.size, 0, #[], rfl, Nat.le_refl _, heap_alloc_new w _, Nat.le_refl _, by decide, rfl, rfl⟩⟩
theorem Own.mono {B' : Nat} (h : Own k e w B v l) (hB : B' ≤ B) : Own k e w B' v l := by
  obtain ⟨h1, h2⟩ := h
  refine ⟨h1, ?_⟩
  rcases h2 with h2 | ⟨g, cap, cur, hv, hBg, r⟩
  · exact .inl h2
  · exact .inr ⟨g, cap, cur, hv, Nat.le_trans hB hBg, r⟩
theorem Own.grown {w0 : World} (h : Own k e w B v l) (hb : Below B w0 w) (hB : B ≤ w.heap.size) (hg : w.grownBy w' v.ownBlock) : Below B w0 w' :=
  hb.grown hg hB fun g hg => (World.ownsRow.lt h g hg).1
theorem Sl.new_ (w : World) (t : TypeId) (cs : Array Value) (news : List Int) (h : cs.toList = news.map (Value.int k)) : Sl k (w.alloc (.cells cs t)) (some ⟨w.heap.size, 0, none⟩) news := by
  refine .inr ⟨w.heap.size, 0, rfl, by simp, fun i hi => ?_⟩
  rw [World.cell?_alloc_new, ← Array.getElem?_toList, h]
  simp [List.getD_eq_getElem?_getD, hi]
theorem Own.alloc (h : Own k e w B v l) (o : Obj) : Own k e (w.alloc o) B v l := h.keep ((Below.refl _ _).alloc (Nat.le_refl _) o)
theorem Own.drew (h : Own k e w B v l) : Own k e w.drew B v l := h
theorem Own.drewN (h : Own k e w B v l) (n : Nat) : Own k e (w.drewN n) B v l := h
end

theorem grown_setCells (b : Nat) : ∀ (vs : List Value) (o : Nat) (w0 w : World), w0.grownBy w (some b) → w0.grownBy (w.setCells b o vs) (some b)
  | [], _, _, _, h => h
  | v :: vs, o, w0, w, h => grown_setCells b vs (o + 1) w0 (w.setCell ⟨b, o, none⟩ v)
      ⟨h.os, h.tape, h.output, by simpa [World.setCell] using h.size, fun i hi hne => (Below.heap_setCell w ⟨b, o, none⟩ v i (fun e => hne (by rw [e]))).trans (h.block i hi hne)⟩
theorem Own.kept {k : IntKind} {e : TypeId} {w w' : World} {B : Nat} {v : Value} {l : List Int} {row : Option Nat} (h : Own k e w B v l) (hg : w.grownBy w' row) (hne : v.ownBlock = none ∨ v.ownBlock ≠ row) : Own k e w' B v l :=
  World.ownsRow.kept h hg hne

/-- Two rows, the second one made behind the first: they lie apart. -/
theorem Own.apart {k k' : IntKind} {e e' : TypeId} {w w' : World} {B B' : Nat} {v v' : Value} {l l' : List Int} (h : Own k e w B v l) (h' : Own k' e' w' B' v' l') (hB : w.heap.size ≤ B') : v'.ownBlock = none ∨ v'.ownBlock ≠ v.ownBlock := by
  cases hv' : v'.ownBlock with
  | none => exact .inl rfl
  | some g' =>
    refine .inr fun he => ?_
    have h1 := (World.ownsRow.lt h g' he.symm).2
    have h2 := (World.ownsRow.lt h' g' hv').1
    omega
theorem Own.apart' {k k' : IntKind} {e e' : TypeId} {w w' : World} {B B' : Nat} {v v' : Value} {l l' : List Int} (h : Own k e w B v l) (h' : Own k' e' w' B' v' l') (hB : w.heap.size ≤ B') : v.ownBlock = none ∨ v.ownBlock ≠ v'.ownBlock := by
  cases hv : v.ownBlock with
  | none => exact .inl rfl
  | some g =>
    refine .inr fun he => ?_
    have h1 := (World.ownsRow.lt h g hv).2
    have h2 := (World.ownsRow.lt h' g he.symm).1
    omega

section
variable {P : Program} {s e : TypeId} {k : IntKind} {by_ : Nat} (bt : ST P s e k by_)
include bt

theorem app_run (w : World) (ty : TypeId) (B : Nat) (v : Value) (l : List Int) (hown : Own k e w B v l) (A : Option Addr) (c : Nat) (news : List Int) (hr : Sl k w A news) (m : Nat) (hm : m = news.length)
    (hlen : (l.length + news.length) * by_ ≤ 140737488355328) (hlen' : l.length + news.length ≤ 140737488355328) (hB : B ≤ w.heap.size) :
    ∃ v' w', (Builtin.append_ #[s, s] ty #[v, .slice A m c]).run P w = .ok v' w' ∧ Own k e w' B v' (l ++ news) ∧ w.grownBy w' v.ownBlock ∧ (v'.ownBlock = v.ownBlock ∨ v'.ownBlock = some w.heap.size) := by
  subst hm
  obtain ⟨i, hi, hz, hsz, hby⟩ := bt.info
  have fin : ∀ ad : Addr, A = some ad → (∀ j u, (news.map (Value.int k))[j]? = some u → w.cell? (ad.add j) = some u) →
      ∃ v' w', (Builtin.append_ #[s, s] ty #[v, .slice A news.length c]).run P w = .ok v' w' ∧ Own k e w' B v' (l ++ news) ∧ w.grownBy w' v.ownBlock ∧ (v'.ownBlock = v.ownBlock ∨ v'.ownBlock = some w.heap.size) := by
    rintro ad rfl hnews
    obtain ⟨v', w', h1, h2, h3, _, h5⟩ := run_append_own_at (P := P) w B s ty e i (.int k 0) 1 by_ bt.us hi hz hsz hby rfl (by decide) v l.length (l.map (Value.int k)) hown ad news.length c (news.map (Value.int k)) (by simp)
      hnews (by simp [Value.oneCell']) (by unfold maxLen; omega) hlen hB
    refine ⟨v', w', h1, ?_, h3, h5⟩
    unfold Own
    rw [List.length_append, List.map_append]
    exact h2
  rcases A with _ | ad
  · have hn : news = [] := by
      rcases hr with h | ⟨b, off, h, _⟩
      · exact h
      · cases h
    subst hn
    refine ⟨v, w, ?_, by simpa using hown, World.grownBy.refl w _, .inl rfl⟩
    rcases hown.2 with ⟨rfl, h0⟩ | ⟨g, cap, cur, rfl, _, _, hnc, _⟩
    · have hl : l = [] := List.eq_nil_of_length_eq_zero h0
      subst hl
      simp [Builtin.append_, run_underlying bt.us, sizeOf, typeInfo, hi, Builtin.lenOf, Builtin.firstCells]
    · simp [Builtin.append_, run_underlying bt.us, sizeOf, typeInfo, hi, Builtin.lenOf, Builtin.firstCells, hnc, storeCells]
  · refine fin ad rfl fun j u hj => ?_
    rcases hr with h | ⟨b, off, h, _, hc⟩
    · subst h; simp at hj
    · injection h with h
      subst h
      rw [List.getElem?_map] at hj
      obtain ⟨x, hx, rfl⟩ := Option.map_eq_some_iff.1 hj
      have hjl : j < news.length := (List.getElem?_eq_some_iff.1 hx).1
      rw [add_none, hc j hjl, List.getD_eq_getElem?_getD, hx]
      rfl

/-- append(x, y...), x a row of the call's own. -/
theorem wpl_app {ops : Array Oper} {rest : List Oper} {o : Oper} {a : Act} {Q : Exit → Act → World → Prop} (w : World) (hgd : o.guard = none) (x y : Operand)
    (ho : o.op = .call { callee := .builtin .append, args := #[x, y], argTypes := #[s, s] }) (B : Nat) (v : Value) (l : List Int) (hs : a.eval x = v) (hown : Own k e w B v l)
    (A : Option Addr) (m c : Nat) (news : List Int) (hx : a.eval y = .slice A m c) (hr : Sl k w A news) (hm : m = news.length)
    (hlen : (l.length + news.length) * by_ ≤ 140737488355328) (hlen' : l.length + news.length ≤ 140737488355328) (hB : B ≤ w.heap.size)
    (h : ∀ v' w', Own k e w' B v' (l ++ news) → w.grownBy w' v.ownBlock → (v'.ownBlock = v.ownBlock ∨ v'.ownBlock = some w.heap.size) → wpList P ops Q rest (a.put o.dst v') w') : wpList P ops Q (o :: rest) a w := by
  refine wpList_plain hgd fun K hK => ?_
  obtain ⟨v', w', hrun, h2, h3, h4⟩ := app_run bt w o.type B v l hown A c news hr m hm hlen hlen' hB
  unfold Oper.wp execOp
  simp only [ho, resolve, invoke, builtin, Sem.run_bind, Sem.run_pure, Result.andThen_ok, List.map_toArray, List.map_cons, List.map_nil, hs, hx, hrun]
  exact hK _ _ (h v' w' h2 h3 h4)
theorem clear_run (hzv : ∀ w, (zeroValue e).run P w = .ok (.int k 0) w) (w : World) (ty : TypeId) (B : Nat) (v : Value) (l : List Int) (hown : Own k e w B v l) :
    ∃ w', (Builtin.clear_ #[s] ty #[v]).run P w = .ok (.tuple #[]) w' ∧ w.grownBy w' v.ownBlock := by
  obtain ⟨A, c, rfl, hsl, hc, hm, hA⟩ := hown.sl
  by_cases h0 : l.length = 0
  · refine ⟨w, ?_, World.grownBy.refl w _⟩
    rw [h0]
    cases A <;> simp [Builtin.clear_, run_underlying bt.us]
  · obtain ⟨b, off, rfl, hlt, hcell⟩ := hsl.at_ (by omega)
    rcases hA with ⟨h, _⟩ | ⟨g, h, hBg, hg⟩
    · cases h
    · simp only [Option.some.injEq, Addr.mk.injEq, and_true] at h
      obtain ⟨rfl, rfl⟩ := h
      refine ⟨_, Lib.run_clear_slice w s e ty (.int k 0) bt.us hzv rfl rfl b 0 l.length c (by omega) (fun j hj => by rw [hcell j hj]; rfl) (fun j hj => ?_), grown_setCells b _ _ _ _ (World.grownBy.refl w _)⟩
      exact World.ownsRow.frozenAt hown _

/-- clear(x), x a row of the call's own. -/
theorem wpl_clear (hzv : ∀ w, (zeroValue e).run P w = .ok (.int k 0) w) {ops : Array Oper} {rest : List Oper} {o : Oper} {a : Act} {Q : Exit → Act → World → Prop} (w : World) (hgd : o.guard = none) (x : Operand)
    (ho : o.op = .call { callee := .builtin .clear, args := #[x], argTypes := #[s] }) (B : Nat) (v : Value) (l : List Int) (hs : a.eval x = v) (hown : Own k e w B v l)
    (h : ∀ w', w.grownBy w' v.ownBlock → wpList P ops Q rest (a.put o.dst (.tuple #[])) w') : wpList P ops Q (o :: rest) a w := by
  refine wpList_plain hgd fun K hK => ?_
  obtain ⟨w', hrun, hb⟩ := clear_run bt hzv w o.type B v l hown
  unfold Oper.wp execOp
  simp only [ho, resolve, invoke, builtin, Sem.run_bind, Sem.run_pure, Result.andThen_ok, List.map_toArray, List.map_cons, List.map_nil, hs, hrun]
  exact hK _ _ (h w' hb)

/-- make([]T, 0, n). -/
theorem wpl_make0 {ops : Array Oper} {rest : List Oper} {o : Oper} {a : Act} {Q : Exit → Act → World → Prop} (w : World) (hgd : o.guard = none) (x y : Operand)
    (ho : o.op = Op.makeSlice s x y) (B : Nat) (kl kc : IntKind) (C : Int) (n : Nat) (hx : a.eval x = .int kl 0) (hy : a.eval y = .int kc C) (hC : C = (n : Int))
    (hb : by_ * n ≤ 281474976710656) (hn : n ≤ maxLen) (hB : B ≤ w.heap.size)
    (h : ∀ v' w', Own k e w' B v' [] → w.grownBy w' none → wpList P ops Q rest (a.put o.dst v') w') : wpList P ops Q (o :: rest) a w := by
  obtain ⟨i, hi, hz, hsz, hby⟩ := bt.info
  exact wpList_make_own w hgd x y s ho B e i (.int k 0) 1 bt.us hi hz hsz kl kc C n hx hy hC (by rw [hby]; exact hb) hn hB fun w' h1 h2 => h _ w' h1 h2
end

/-- The text of bytes. -/
def strOf (l : List Int) : ByteArray := l.foldl (fun r n => r.push (UInt8.ofNat n.toNat)) ByteArray.empty
theorem str_run {P : Program} {s e st : TypeId} (us : P.underlying s = some (.slice e)) (ue : P.underlying e = some (.int .u8)) (ust : P.underlying st = some .string) {w : World} {A : Option Addr} {l : List Int} (h : Sl .u8 w A l) (n c : Nat) (hn : n = l.length) :
    (convert s st (.slice A n c)).run P w = .ok (.string (strOf l)) w := by
  subst hn
  rw [run_convert_bytes_string w s st e A l.length c us ue ust]
  rcases A with _ | ad
  · have hn : l = [] := by
      rcases h with h | ⟨b, off, h, _⟩
      · exact h
      · cases h
    subst hn
    simp [Conv.bytesToString, strOf, Sem.run_pure]
  · refine run_bytesToString w ad l.length c l ?_
    have hl : l.length = (l.map (Value.int .u8)).length := by simp
    rw [hl]
    refine run_loadCells_list w ad _ fun j u hj => ?_
    rcases h with h | ⟨b, off, h, _, hc⟩
    · subst h; simp at hj
    · injection h with h
      subst h
      rw [List.getElem?_map] at hj
      obtain ⟨x, hx, rfl⟩ := Option.map_eq_some_iff.1 hj
      have hjl : j < l.length := (List.getElem?_eq_some_iff.1 hx).1
      rw [add_none, hc j hjl, List.getD_eq_getElem?_getD, hx]
      rfl
theorem str_bel {P : Program} {s e st : TypeId} (us : P.underlying s = some (.slice e)) (ue : P.underlying e = some (.int .u8)) (ust : P.underlying st = some .string) {w w' : World} {A : Option Addr} {l : List Int} (h : Sl .u8 w A l) (hb : Below w.heap.size w w') (n c : Nat) (hn : n = l.length) :
    (convert s st (.slice A n c)).run P w' = .ok (.string (strOf l)) w' := str_run us ue ust (h.keep hb) n c hn
end Go.Tin
