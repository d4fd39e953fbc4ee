/- append(x, n), x a row whose cells are known, whatever mark its block bears. No program in sight. -/
import Derived.Test.YtmdcdmgbillehaaPsh
import Derived.Laws.Append
import Derived.Laws.AppendOwn
import Derived.Maps.AppendAt
import Derived.Test.YtmdcdmgbillehaaApz
import Derived.Lib.ConvBytes
namespace Go.Tin
open Go.RowKit
set_option linter.unusedSimpArgs false
set_option linter.unusedVariables false
section
variable {P : Program} {s e : TypeId} {k : IntKind} {by_ : Nat} (bt : ST P s e k by_)
include bt in
set_option maxRecDepth 100000 in
theorem appm_run (w : World) (ty : TypeId) (B g c : Nat) (l : List Int) (hl : ∀ j v, (l.map (Value.int k))[j]? = some v → w.cell? ((⟨g, 0, none⟩ : Addr).add j) = some v) (hgB : B ≤ g) (hlt : g < w.heap.size)
    (hroom : l.length + 1 ≤ c → (∃ v, w.cell? ⟨g, l.length, none⟩ = some v) ∧ w.frozen? ⟨g, l.length, none⟩ = false)
    (a : Addr) (n : Int) (hn : w.cell? a = some (.int k n))
    (hlen : (l.length + 1) * by_ ≤ 140737488355328) (hlen' : l.length + 1 ≤ 140737488355328) :
    ∃ A' c' w', (Builtin.append_ #[s, s] ty #[.slice (some ⟨g, 0, none⟩) l.length c, .slice (some a) 1 1]).run P w = .ok (.slice A' (l.length + 1) c') w' ∧ Sl k w' A' (l ++ [n]) ∧ Below B w w' ∧ ∀ b o, A' = some ⟨b, o, none⟩ → B ≤ b := by
  obtain ⟨i, hi, hz, hsz, hby⟩ := bt.info
  have hnews : ∀ j v, ([Value.int k n] : List Value)[j]? = some v → w.cell? (a.add j) = some v := by
    intro j v hj
    match j with
    | 0 => simp at hj; subst hj; simpa [Addr.add] using hn
    | j + 1 => simp at hj
  by_cases hr : l.length + 1 ≤ c
  · obtain ⟨⟨v0, hv0⟩, hfz⟩ := hroom hr
    have hf := run_firstCells_some (P := P) w i.size 1 a 1 1 [Value.int k n] (by simp [hsz]) hnews
    rw [hsz] at hf
    have hst : (storeCells ⟨g, l.length, none⟩ [Value.int k n]).run P w = .ok () (w.setCell ⟨g, l.length, none⟩ (.int k n)) := by
      simp only [storeCells, Sem.run_bind, Sem.run_pure]
      rw [show (⟨g, l.length, none⟩ : Addr).add 0 = ⟨g, l.length, none⟩ from by simp [Addr.add], run_store P w _ _ _ rfl, hv0]
      simp only [hfz]
      rfl
    refine ⟨some ⟨g, 0, none⟩, c, w.setCell ⟨g, l.length, none⟩ (.int k n), ?_, ?_, ?_, fun b o h => by injection h with h; injection h with h; omega⟩
    · simp [Builtin.append_, run_underlying bt.us, sizeOf, typeInfo, hi, Builtin.lenOf, hr, hf, Addr.add_lit, hsz, hst]
    · refine .inr ⟨g, 0, rfl, by simpa [World.setCell] using hlt, fun j hj => ?_⟩
      rw [List.length_append, List.length_cons, List.length_nil] at hj
      by_cases hjl : j = l.length
      · subst hjl
        rw [Nat.zero_add, World.cell?_setCell_same _ _ _ hv0]
        simp
      · rw [World.cell?_setCell_other _ _ _ _ (by intro h; injection h; omega)]
        have hj' : j < l.length := by simp at hj; omega
        have := hl j (.int k (l.getD j 0)) (by simp [List.getElem?_map, List.getElem?_eq_getElem hj', List.getD])
        rw [show (⟨g, 0 + j, none⟩ : Addr) = (⟨g, 0, none⟩ : Addr).add j from by simp [Addr.add], this]
        simp [List.getD, List.getElem?_append_left hj']
    · exact (Below.refl B w).grown (grown_setCells g [.int k n] l.length w w (World.grownBy.refl w _)) (by omega) (fun q hq => by have e' : g = q := Option.some.inj hq; omega)
  · have hgr := run_append_grow (P := P) w s ty e i (.int k 0) bt.us hi hz ⟨g, 0, none⟩ l.length c (l.map (Value.int k)) (by simp [hsz]) hl a 1 1 [Value.int k n] (by simp [hsz]) hnews (by omega) (by omega) (by rw [hby]; exact growslice_fits (by omega) hlen)
    refine ⟨_, _, _, hgr, ?_, ?_, fun b o h => by injection h with h; injection h with h; omega⟩
    · have hz1 := zeroCells_int (k := k) (grownCap w (l.length + 1) c e - (l.length + 1))
      have hsl := Sl.new_ (k := k) w.drew e ((l.map (Value.int k)).toArray ++ #[Value.int k n] ++ Builtin.zeroCells (Value.int k 0).cells (grownCap w (l.length + 1) c e - (l.length + 1))) (l ++ [n] ++ List.replicate (grownCap w (l.length + 1) c e - (l.length + 1)) 0) (by rw [hz1]; simp)
      have := hsl.take (l.length + 1)
      rw [List.take_left' (by simp)] at this
      exact this
    · have h := (Below.refl B w.drew).alloc (show B ≤ w.drew.heap.size from by show B ≤ w.heap.size; omega) (.cells ((l.map (Value.int k)).toArray ++ #[Value.int k n] ++ Builtin.zeroCells (Value.int k 0).cells (grownCap w (l.length + 1) c e - (l.length + 1))) e)
      exact ⟨h.os, h.tape, h.output, h.size, h.block⟩
include bt in
/-- append(x, n), x a row whose cells are known; n's own row was made before. -/
theorem wpl_appm {ops : Array Oper} {rest : List Oper} {o : Oper} {a : Act} {Q : Exit → Act → World → Prop} (w : World) (hgd : o.guard = none) (x y : Operand)
    (ho : o.op = .call { callee := .builtin .append, args := #[x, y], argTypes := #[s, s] }) (B g c : Nat) (l : List Int) (hs : a.eval x = .slice (some ⟨g, 0, none⟩) l.length c)
    (hl : ∀ j v, (l.map (Value.int k))[j]? = some v → w.cell? ((⟨g, 0, none⟩ : Addr).add j) = some v) (hgB : B ≤ g) (hlt : g < w.heap.size)
    (hroom : l.length + 1 ≤ c → (∃ v, w.cell? ⟨g, l.length, none⟩ = some v) ∧ w.frozen? ⟨g, l.length, none⟩ = false)
    (ad : Addr) (n : Int) (hy : a.eval y = .slice (some ad) 1 1) (hn : w.cell? ad = some (.int k n))
    (hlen : (l.length + 1) * by_ ≤ 140737488355328) (hlen' : l.length + 1 ≤ 140737488355328)
    (h : ∀ A' c' w', Sl k w' A' (l ++ [n]) → Below B w w' → (∀ b o, A' = some ⟨b, o, none⟩ → B ≤ b) → wpList P ops Q rest (a.put o.dst (.slice A' (l.length + 1) c')) w') : wpList P ops Q (o :: rest) a w := by
  refine wpList_plain hgd fun K hK => ?_
  obtain ⟨A', c', w', hrun, h2, h3, h4⟩ := appm_run bt w o.type B g c l hl hgB hlt hroom ad n hn hlen hlen'
  unfold Oper.wp execOp
  simp only [ho, resolve, invoke, builtin, Sem.run_bind, Sem.run_pure, Result.andThen_ok, List.map_toArray, List.map_cons, List.map_nil, hs, hy, hrun]
  exact hK _ _ (h A' c' w' h2 h3 h4)
end
/-- A text's bytes. -/
def bytesL (s : ByteArray) : List Int := s.data.toList.map fun b => (b.toNat : Int)
theorem bytesL_len (s : ByteArray) : (bytesL s).length = s.size := by
  unfold bytesL
  rw [List.length_map, Array.length_toList]
  rfl
theorem bw_below (w : World) (e : TypeId) (s : ByteArray) : Below w.heap.size w (Lib.bytesWorld w e s) := by
  have h0 : Below w.heap.size w (w.drew.alloc (.cells (Lib.bytesCells w e s) e)) := by
    have h := (Below.refl w.heap.size w.drew).alloc (show w.heap.size ≤ w.drew.heap.size from Nat.le_refl _) (.cells (Lib.bytesCells w e s) e)
    exact ⟨h.os, h.tape, h.output, h.size, h.block⟩
  refine h0.trans ?_
  unfold Lib.bytesWorld World.freeze
  split
  · exact Below.refl _ _
  · refine ⟨rfl, rfl, rfl, by simp, fun k hk => ?_⟩
    rw [Array.getElem?_modify]
    have : ¬ w.heap.size = k := by omega
    simp [this]
/-- What stands in the new row. -/
theorem bw_cell (w : World) (e : TypeId) (s : ByteArray) (j : Nat) (v : Value) (hj : ((bytesL s).map (Value.int .u8))[j]? = some v) : (Lib.bytesWorld w e s).cell? ((⟨w.heap.size, 0, none⟩ : Addr).add j) = some v := by
  have hjl : j < s.size := by
    have := (List.getElem?_eq_some_iff.1 hj).1
    rw [List.length_map, bytesL_len] at this
    exact this
  rw [show (⟨w.heap.size, 0, none⟩ : Addr).add j = ⟨w.heap.size, j, none⟩ from by rw [add_none, Nat.zero_add], Lib.bytesWorld_cell w e s j hjl]
  have hjl' : j < s.data.toList.length := by rw [Array.length_toList]; exact hjl
  unfold bytesL at hj
  rw [List.map_map, List.getElem?_map, List.getElem?_eq_getElem hjl'] at hj
  simp only [Option.map_some, Function.comp, Option.some.injEq] at hj
  rw [← hj, List.getD_eq_getElem?_getD, List.getElem?_eq_getElem hjl']
  rfl
theorem bw_room (w : World) (e : TypeId) (s : ByteArray) (h : s.size + 1 ≤ grownCap w s.size 0 e) :
    (∃ v, (Lib.bytesWorld w e s).cell? ⟨w.heap.size, s.size, none⟩ = some v) ∧ (Lib.bytesWorld w e s).frozen? ⟨w.heap.size, s.size, none⟩ = false := by
  have hz : (Lib.bytesCells w e s).size = grownCap w s.size 0 e := by
    unfold Lib.bytesCells
    rw [Array.size_append, Array.size_map, Array.size_replicate]
    show s.size + _ = _
    omega
  have hlt : s.size < (Lib.bytesCells w e s).size := by omega
  refine ⟨⟨(Lib.bytesCells w e s)[s.size], ?_⟩, ?_⟩
  · unfold World.cell?
    simp only [Lib.bytesWorld_at_new]
    simp [hlt]
  · unfold World.frozen?
    simp only [Lib.bytesWorld_at_new]
    simp [hz]
    omega
/-- []byte(s). -/
theorem wpl_convb {P : Program} {src dst e : TypeId} {u : TypeDesc} (us : P.underlying src = some u) (ud : P.underlying dst = some (.slice e)) (ue : P.underlying e = some (.int .u8))
    {ops : Array Oper} {rest : List Oper} {o : Oper} {a : Act} {Q : Exit → Act → World → Prop} (w : World) (hgd : o.guard = none) (x : Operand) (ho : o.op = .convert src dst x) (s : ByteArray) (hx : a.eval x = .string s)
    (h : wpList P ops Q rest (a.put o.dst (.slice (some ⟨w.heap.size, 0, none⟩) s.size (grownCap w s.size 0 e))) (Lib.bytesWorld w e s)) : wpList P ops Q (o :: rest) a w := by
  refine wpList_plain hgd fun K hK => ?_
  unfold Oper.wp execOp
  simp only [ho, hx, Sem.run_bind, Sem.run_pure, Lib.run_convert_string_bytes w src dst e s us ud ue, Result.andThen_ok]
  exact hK _ _ h
end Go.Tin
