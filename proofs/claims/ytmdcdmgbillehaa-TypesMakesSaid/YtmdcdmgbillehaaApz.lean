/- append(x, make([]T, m)...), x a row of the call's own that is not empty. No program in sight. -/
import Derived.Test.YtmdcdmgbillehaaByt
import Derived.Maps.AppendAt
import Derived.Laws.AppendOwn
namespace Go.Tin
open Go.RowKit
set_option linter.unusedSimpArgs false
set_option linter.unusedVariables false
section
variable {P : Program} {s e : TypeId} {k : IntKind} {by_ : Nat} (bt : ST P s e k by_)
theorem zeroCells_int (m : Nat) : Builtin.zeroCells (Value.int k 0).cells m = (List.replicate m (Value.int k 0)).toArray := by
  apply Array.ext
  · simp [Builtin.zeroCells, Value.cells]
  · intro i h1 h2
    simp only [Builtin.zeroCells, Value.cells, Array.getElem_map, List.getElem_toArray, List.getElem_replicate]
    have : i % 1 = 0 := Nat.mod_one i
    simp [this]

include bt in
set_option maxRecDepth 100000 in
theorem appz_run {u : TypeId} {ku : IntKind} (hu : P.underlying u = some (.int ku)) (w : World) (ty : TypeId) (B : Nat) (v : Value) (l : List Int) (hown : Own k e w B v l) (h0 : 0 < l.length) (m : Nat)
    (hlen : (l.length + m) * by_ ≤ 140737488355328) (hlen' : l.length + m ≤ 140737488355328) (hmb : m * by_ ≤ 140737488355328) (hB : B ≤ w.heap.size) :
    ∃ v' w', (Builtin.append_ #[s, u] ty #[v, .int .i64 (m : Int)]).run P w = .ok v' w' ∧ Own k e w' B v' (l ++ List.replicate m 0) ∧ w.grownBy w' v.ownBlock ∧ (v'.ownBlock = v.ownBlock ∨ v'.ownBlock = some w.heap.size) := by
  obtain ⟨i, hi, hz, hsz, hby⟩ := bt.info
  have hmap : (List.replicate m (0 : Int)).map (Value.int k) = List.replicate m (Value.int k 0) := List.map_replicate
  have hwm : IntKind.i64.wrap (m : Int) = (m : Int) := by rw [wrap_i64]; omega
  have hm0 : ¬ ((m : Int) < 0) := by omega
  have hmb' : ¬ (281474976710656 < (m : Int) * (by_ : Int)) := by
    have h := Int.ofNat_le.2 hmb
    rw [Int.natCast_mul] at h
    generalize (m : Int) * (by_ : Int) = x at *
    omega
  obtain ⟨hxl, hown2⟩ := hown
  rcases hown2 with ⟨rfl, hn⟩ | ⟨g, cap, cur, rfl, hbg, hg, hnc, hcm, hcs, htake⟩
  · omega
  · by_cases hm : m = 0
    · subst hm
      refine ⟨.slice (some ⟨g, 0, none⟩) l.length cap, w, ?_, by rw [List.replicate_zero, List.append_nil]; exact ⟨hxl, .inr ⟨g, cap, cur, rfl, hbg, hg, hnc, hcm, hcs, htake⟩⟩, World.grownBy.refl w _, .inl rfl⟩
      simp [Builtin.append_, run_underlying bt.us, run_underlying hu, sizeOf, typeInfo, hi, hz, zeroValue, hnc, asInt, asIntOf, wrap_i64, hby, hsz, storeCells]
    have hmp : ¬ ((m : Int) ≤ 0) := by omega
    have hz1 : Builtin.zeroCells (Value.int k 0).cells m = (List.replicate m (Value.int k 0)).toArray := zeroCells_int m
    by_cases hroom : l.length + m ≤ cap
    · have hst := run_storeCells_at P g l.length e (List.replicate m (Value.int k 0)) 0 cur w hg (by simp; omega) (by intro u hu; rw [List.eq_of_mem_replicate hu]; rfl)
      simp only [Nat.add_zero] at hst
      refine ⟨.slice (some ⟨g, 0, none⟩) (l.length + m) cap, w.setRow g (cur.toList.take l.length ++ List.replicate m (Value.int k 0) ++ cur.toList.drop (l.length + m)).toArray, ?_, ?_, ⟨rfl, rfl, rfl, by simp, fun q _ hq => setRow_other w g q _ (fun e => hq (by simp [Value.ownBlock, e]))⟩, .inl rfl⟩
      · simp [Builtin.append_, run_underlying bt.us, run_underlying hu, sizeOf, typeInfo, hi, hz, zeroValue, hroom, asInt, asIntOf, hwm, hm0, hby, hmb', hsz, hmp, hm, Addr.add_lit, zeroCells_int, hst]
      · unfold Own
        rw [List.length_append, List.map_append, List.length_replicate, hmap]
        refine ⟨by simp, .inr ⟨g, cap, _, rfl, hbg, setRow_heap w g cur _ e _ hg, hroom, hcm, ?_, ?_⟩⟩
        · simp only [List.size_toArray, List.length_append, List.length_take, List.length_drop, Array.length_toList, List.length_replicate]
          omega
        · rw [Nat.mul_one] at htake
          rw [htake, Nat.mul_one]
          have : l.length + m = (List.map (Value.int k) l ++ List.replicate m (Value.int k 0)).length := by simp
          simp only [List.append_assoc]
          rw [← List.append_assoc, this]
          exact List.take_left
    · have holds : ∀ j u, (l.map (Value.int k))[j]? = some u → w.cell? ((⟨g, 0, none⟩ : Addr).add j) = some u := (show w.ownsRow B e 1 (.slice (some ⟨g, 0, none⟩) l.length cap) l.length (l.map (Value.int k)) from ⟨hxl, .inr ⟨g, cap, cur, rfl, hbg, hg, hnc, hcm, hcs, htake⟩⟩).cells (g := g) rfl
      have hfo := run_firstCells_some (P := P) w.drew 1 l.length ⟨g, 0, none⟩ l.length cap (l.map (Value.int k)) (by simp) (by simpa using holds)
      have hge := grownCap_ge w (l.length + m) cap e
      have hcm' : grownCap w (l.length + m) cap e ≤ maxLen := grownCap_le_maxLen w (l.length + m) cap e (by unfold maxLen; omega)
      have h63' : ¬ (9223372036854775807 < ((l.length : Int) + (m : Int))) := by omega
      have h48' : ¬ (281474976710656 < Builtin.nextslicecap (l.length + m) cap * by_) := by
        have := growslice_fits (need := l.length + m) (old := cap) (bytes := by_) (by omega) hlen
        omega
      refine ⟨.slice (some ⟨w.heap.size, 0, none⟩) (l.length + m) (grownCap w (l.length + m) cap e), w.drew.alloc (.cells ((l.map (Value.int k)).toArray ++ (List.replicate m (Value.int k 0)).toArray ++ Builtin.zeroCells (Value.int k 0).cells (grownCap w (l.length + m) cap e - (l.length + m))) e), ?_, ?_, ⟨rfl, rfl, rfl, by simp, fun q hq _ => heap_alloc_old w.drew _ hq⟩, .inr rfl⟩
      · simp [Builtin.append_, run_underlying bt.us, run_underlying hu, sizeOf, typeInfo, hi, hz, zeroValue, hroom, asInt, asIntOf, hwm, hm0, hby, hmb', hsz, hmp, hm, h63', h48', Question.forced, hfo, newRow, grownCap, zeroCells_int]
      · unfold Own
        rw [List.length_append, List.map_append, List.length_replicate, hmap]
        refine ⟨by simp, .inr ⟨w.heap.size, _, _, rfl, hB, heap_alloc_new w.drew _, hge, hcm', ?_, ?_⟩⟩
        · simp only [Array.size_append, List.size_toArray, size_zeroCells, Value.cells, List.length_map, List.length_replicate, Nat.mul_one]
          simp
          omega
        · simp only [Array.toList_append, List.append_assoc, Nat.mul_one]
          have : l.length + m = (List.map (Value.int k) l ++ List.replicate m (Value.int k 0)).length := by simp
          rw [← List.append_assoc, this]
          exact List.take_left
include bt in
/-- append(x, make([]T, m)...), x a row of the call's own that is not empty. -/
theorem wpl_appz {u : TypeId} {ku : IntKind} (hu : P.underlying u = some (.int ku)) {ops : Array Oper} {rest : List Oper} {o : Oper} {a : Act} {Q : Exit → Act → World → Prop} (w : World) (hgd : o.guard = none) (x y : Operand)
    (ho : o.op = .call { callee := .builtin .append, args := #[x, y], argTypes := #[s, u] }) (B : Nat) (v : Value) (l : List Int) (hs : a.eval x = v) (hown : Own k e w B v l) (h0 : 0 < l.length)
    (m : Nat) (hx : a.eval y = .int .i64 (m : Int))
    (hlen : (l.length + m) * by_ ≤ 140737488355328) (hlen' : l.length + m ≤ 140737488355328) (hmb : m * by_ ≤ 140737488355328) (hB : B ≤ w.heap.size)
    (h : ∀ v' w', Own k e w' B v' (l ++ List.replicate m 0) → w.grownBy w' v.ownBlock → (v'.ownBlock = v.ownBlock ∨ v'.ownBlock = some w.heap.size) → wpList P ops Q rest (a.put o.dst v') w') : wpList P ops Q (o :: rest) a w := by
  refine wpList_plain hgd fun K hK => ?_
  obtain ⟨v', w', hrun, h2, h3, h4⟩ := appz_run bt hu w o.type B v l hown h0 m hlen hlen' hmb hB
  unfold Oper.wp execOp
  simp only [ho, resolve, invoke, builtin, Sem.run_bind, Sem.run_pure, Result.andThen_ok, List.map_toArray, List.map_cons, List.map_nil, hs, hx, hrun]
  exact hK _ _ (h v' w' h2 h3 h4)
end
end Go.Tin
