/- MarkerReads: the walk. -/
import Derived.Test.YtfohajgljjffgaaMkR
namespace Go.Proofs.Ytfohajgljjffgaa
open Go.RowKit
open Go.Tin
set_option linter.unusedVariables false
set_option linter.unusedSimpArgs false


def oL : Lo → List Sg
  | .err _ _ => []
  | .ok L _ => L
def oA : Lo → Int
  | .err _ _ => 0
  | .ok _ a => a
def oP : Lo → Int
  | .err p _ => p
  | .ok _ _ => 0
def oQ : Lo → Int
  | .err _ q => q
  | .ok _ _ => 0
theorem OfP.uni {w : World} {r : Lo} {e : Ending} {w' : World} (h : OfP w r e w') : ∃ A c xs, e = .returned (.tuple #[.slice A (oL r).length c, .int .i64 (oA r), .int .i64 (oP r), .int .i64 (oQ r)]) ∧ OwnV 36 3 w' w.heap.size (.slice A (oL r).length c) (oL r).length xs ∧ SgV (fun v l => Own .u8 5 w' w.heap.size v l) xs (oL r) ∧ Below w.heap.size w w' := by
  cases r with
  | err p q =>
    obtain ⟨rfl, hb⟩ := h
    exact ⟨none, 0, [], rfl, OwnV.nil_ _ _ _ _, .nil, hb⟩
  | ok L a =>
    obtain ⟨A, c, xs, rfl, h1, h2, h3⟩ := h
    exact ⟨A, c, xs, rfl, h1, h2, h3⟩
theorem oL_by {l : List Int} (hb : Byts l) (hl : l.length ≤ 1000000) : BySg (oL (ofR l)) ∧ (oL (ofR l)).length ≤ l.length := by
  cases hr : ofR l with
  | err p q => exact ⟨fun s hs => (by cases hs), Nat.zero_le _⟩
  | ok L a => exact ⟨(ofR_by hb hl hr).1, (ofR_by hb hl hr).2.1⟩
/-- A row of bytes that may be cleared. -/
def ClrB (w : World) (B : Nat) (v : Value) : Prop := v = .slice none 0 0 ∨ ∃ g n cap cur, v = .slice (some ⟨g, 0, none⟩) n cap ∧ B ≤ g ∧ n ≤ cur.size ∧ w.heap[g]? = some (.cells cur 5 (0, 0))
theorem ClrB.own {w : World} {B : Nat} {v : Value} {d : List Int} (h : Own .u8 5 w B v d) : ClrB w B v := by
  rcases h.2 with ⟨rfl, _⟩ | ⟨g, cap, cur, rfl, hB, hh, hn, _, hs, _⟩
  · exact .inl rfl
  · exact .inr ⟨g, _, cap, cur, rfl, hB, by omega, hh⟩
theorem clr_run {w : World} {B : Nat} {v : Value} (h : ClrB w B v) (hB : B ≤ w.heap.size) (ty : TypeId) : ∃ w', (Builtin.clear_ #[22] ty #[v]).run Try.prog w = .ok (.tuple #[]) w' ∧ (∀ v', ClrB w B v' → ClrB w' B v') ∧ Below B w w' ∧ (∀ (q : Nat) (cs : Array Value) (t : TypeId), w.heap[q]? = some (.cells cs t (0, 0)) → t ≠ 5 → w'.heap[q]? = some (.cells cs t (0, 0))) := by
  have hzv : ∀ w, (zeroValue 5).run Try.prog w = .ok (.int .u8 0) w := fun w => by kernel_rfl
  rcases h with rfl | ⟨g, n, cap, cur, rfl, hBg, hn, hh⟩
  · exact ⟨w, by simp [Builtin.clear_, run_underlying bt5.us], fun _ h => h, Below.refl _ _, fun _ _ _ h _ => h⟩
  · by_cases h0 : n = 0
    · subst h0
      exact ⟨w, by simp [Builtin.clear_, run_underlying bt5.us], fun _ h => h, Below.refl _ _, fun _ _ _ h _ => h⟩
    have hrun := Lib.run_clear_slice (P := Try.prog) w 22 5 ty (.int .u8 0) bt5.us hzv rfl rfl g 0 n cap (by omega) (fun j hj => by rw [Nat.zero_add, cell_of_row w g j cur _ _ hh, Array.getElem?_eq_getElem (by omega)]; rfl) (fun j hj => frozen_of_row w g _ cur _ hh)
    have hg : w.grownBy (w.setCells g 0 (List.replicate n (.int .u8 0))) (some g) := grown_setCells g _ 0 _ _ (World.grownBy.refl w _)
    have hh' := setCells_heap (List.replicate n (Value.int .u8 0)) 0 w cur hh
    refine ⟨_, hrun, fun v' h' => ?_, ⟨hg.os, hg.tape, hg.output, hg.size, fun i hi => hg.block i (by omega) (fun e => by have := Option.some.inj e; omega)⟩, fun q cs t hq ht => ?_⟩
    · rcases h' with rfl | ⟨g', n', cap', cur', rfl, hB', hn', hh2⟩
      · exact .inl rfl
      · by_cases hgg : g' = g
        · subst hgg
          rw [hh] at hh2
          injection hh2 with hh2
          injection hh2 with hc _
          subst hc
          exact .inr ⟨g', n', cap', _, rfl, hB', by rw [over_size]; exact hn', hh'⟩
        · exact .inr ⟨g', n', cap', cur', rfl, hB', hn', (hg.block g' (row_lt hh2) (fun e => hgg (Option.some.inj e))).trans hh2⟩
    · refine (hg.block q (row_lt hq) fun e => ?_).trans hq
      have : q = g := Option.some.inj e
      subst this
      rw [hh] at hq
      injection hq with hq
      injection hq with _ h2
      exact ht h2.symm
theorem wpl_clr {ops : Array Oper} {rest : List Oper} {o : Oper} {a : Act} {Q : Exit → Act → World → Prop} (w : World) (hgd : o.guard = none) (x : Operand)
    (ho : o.op = .call { callee := .builtin .clear, args := #[x], argTypes := #[22] }) (B : Nat) (v : Value) (hs : a.eval x = v) (hc : ClrB w B v) (hB : B ≤ w.heap.size)
    (h : ∀ w', (∀ v', ClrB w B v' → ClrB w' B v') → Below B w w' → (∀ (q : Nat) (cs : Array Value) (t : TypeId), w.heap[q]? = some (.cells cs t (0, 0)) → t ≠ 5 → w'.heap[q]? = some (.cells cs t (0, 0))) → wpList Try.prog ops Q rest (a.put o.dst (.tuple #[])) w') : wpList Try.prog ops Q (o :: rest) a w := by
  refine wpList_plain hgd fun K hK => ?_
  obtain ⟨w', hrun, h1, h2, h3⟩ := clr_run hc hB o.type
  unfold Oper.wp execOp
  simp only [ho, resolve, invoke, builtin, Sem.run_bind, Sem.run_pure, Result.andThen_ok, List.map_toArray, List.map_cons, List.map_nil, hs, hrun]
  exact hK _ _ (h w' h1 h2 h3)
theorem ends_no {l : List Int} {at_ : Int} (h : ¬ (0 ≤ at_ ∧ at_ ≤ l.length)) : endN l at_ = 0 ∧ endB l at_ = false := by
  unfold endN endB
  rw [if_neg h, if_neg h]; exact ⟨rfl, rfl⟩
theorem ends_at {l : List Int} {k : Nat} (h : k ≤ l.length) : endN l (k : Int) = (match ofR (l.drop k) with | .ok _ a => (k : Int) + a | .err _ _ => 0) ∧ endB l (k : Int) = (match ofR (l.drop k) with | .ok _ _ => true | .err _ _ => false) := by
  unfold endN endB
  rw [if_pos ⟨by omega, by omega⟩, if_pos ⟨by omega, by omega⟩, Int.toNat_natCast]; exact ⟨rfl, rfl⟩
end Go.Proofs.Ytfohajgljjffgaa
