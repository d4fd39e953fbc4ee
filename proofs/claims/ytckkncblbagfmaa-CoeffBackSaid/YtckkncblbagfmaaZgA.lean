/- The round of the loop in order: one place more has come. Conditions: the record of the loop as it lies, fewer than 64 places. -/
import Derived.Test.YtckkncblbagfmaaRows
import Derived.Test.YtckkncblbagfmaaByt
import Derived.RangeFuncRecord
import Derived.RangeFuncLeaves
import Derived.TacticsIn
import Derived.BigFrameIn
import Derived.LoopIn
import Derived.WalkKit
import Derived.Lib.Hide
namespace Go.Proofs.Ytckkncblbagfmaa
open Go.RowKit
open Go.Tin
set_option linter.unusedVariables false
set_option linter.unusedSimpArgs false

attribute [local go_sem] Oper.semAt_some

/-- The first loop over a function in a text. -/
def rangeOf : Code → Option (Code × Code)
  | .rangeFunc _ _ a b => some (a, b)
  | .seq x y => (rangeOf x).orElse fun _ => rangeOf y
  | .block _ c => rangeOf c
  | _ => none

/-- The places in the zigzag's order. -/
def zigL : List Int := [0, 1, 8, 16, 9, 2, 3, 10, 17, 24, 32, 25, 18, 11, 4, 5, 12, 19, 26, 33, 40, 48, 41, 34, 27, 20, 13, 6, 7, 14, 21, 28, 35, 42, 49, 56, 57, 50, 43, 36, 29, 22, 15, 23, 30, 37, 44, 51, 58, 59, 52, 45, 38, 31, 39, 46, 53, 60, 61, 54, 47, 55, 62, 63]
def zig (m : Nat) : Int := zigL.getD m 0
/-- The array out, so many of its numbers told. -/
def outA (m : Nat) : Array Value := ((List.range 64).map fun j => Value.int .i64 (if j < m then zig j else 0)).toArray
theorem outA_size (m : Nat) : (outA m).size = 64 := by simp [outA]
theorem outA_get (m j : Nat) (hj : j < 64) : (outA m)[j]? = some (.int .i64 (if j < m then zig j else 0)) := by
  simp [outA, hj]
theorem outA_set (m : Nat) (hm : m < 64) : (outA m).setIfInBounds m (.int .i64 (zig m)) = outA (m + 1) := by
  apply Array.ext_getElem?
  intro j
  by_cases hj : j < 64
  · rw [outA_get _ _ hj, Array.getElem?_setIfInBounds]
    by_cases h : m = j
    · subst h; simp [outA_size, hm]
    · rw [if_neg h, outA_get _ _ hj]
      congr 2
      by_cases h1 : j < m
      · rw [if_pos h1, if_pos (by omega)]
      · rw [if_neg h1, if_neg (by omega)]
  · rw [Array.getElem?_eq_none (by rw [Array.size_setIfInBounds, outA_size]; omega), Array.getElem?_eq_none (by rw [outA_size]; omega)]

/-- The record of order's loop. -/
def ordRec (asg bd : Code) (fn : FuncId) (B C D : Nat) (st : LoopState) (pend : Option Code) : Loop :=
  { state := st, pending := pend, fn, tmps := #[.pointer (some ⟨B, 0, none⟩), .pointer (some ⟨C, 0, none⟩), undef, .func (.func 34) #[] #[], undef, undef, undef, undef, undef, undef, undef], params := #[4], assign := asg, body := bd, defers := D }

/-- Between two rounds: m places have come. -/
structure Mid (asg bd : Code) (fn : FuncId) (B C l D m : Nat) (w0 W : World) : Prop where
  o : W.heap[B]? = some (.cells (outA m) 32 (0, 0))
  c : W.heap[C]? = some (.cells #[.int .i64 m] 3 (0, 0))
  L : W.heap[l]? = some (.loop (ordRec asg bd fn B C D .ready none))
  K : W.heap[D]? = some (.deferred (some []))
  b : Below w0.heap.size w0 W

set_option maxHeartbeats 1000000 in
theorem ordRound (asg bd : Code) (hab : Try.f31.body.bind rangeOf = some (asg, bd)) (F : Fence) (n : Nat) (fn : FuncId) (hfn : F.fn fn) (B C l D m : Nat) (w0 W : World) (hB : w0.heap.size ≤ B) (hC : C = B + 1) (hD : D = B + 2) (hl : l = B + 3) (hm : m < 64) (h : Mid asg bd fn B C l D m w0 W) :
    RoundIn F n Try.prog l fn #[.pointer (some ⟨B, 0, none⟩), .pointer (some ⟨C, 0, none⟩), undef, .func (.func 34) #[] #[], .int .i64 (zig m), undef, undef, undef, undef, undef, undef] asg bd W
      fun e W' => e = .returned (.bool true) ∧ Mid asg bd fn B C l D (m + 1) w0 W' := by
  obtain ⟨ho, hc, hL, hK, hb⟩ := h
  refine roundIn_of_wpIn hfn ?_
  have hlt : l < W.heap.size := (Array.getElem?_eq_some_iff.1 hL).1
  have hbr := run_beginRound (P := Try.prog) hL rfl
  obtain ⟨W2, hW2⟩ : ∃ W2, W.putObj l (.loop { (ordRec asg bd fn B C D .ready none) with state := .busy }) = W2 := ⟨_, rfl⟩
  rw [hW2] at hbr
  have ho2 : W2.heap[B]? = some (.cells (outA m) 32 (0, 0)) := by rw [← hW2]; exact (World.putObj_heap_other (by omega)).trans ho
  have hc2 : W2.heap[C]? = some (.cells #[.int .i64 m] 3 (0, 0)) := by rw [← hW2]; exact (World.putObj_heap_other (by omega)).trans hc
  have hK2 : W2.heap[D]? = some (.deferred (some [])) := by rw [← hW2]; exact (World.putObj_heap_other (by omega)).trans hK
  have hb2 : Below w0.heap.size w0 W2 := by
    rw [← hW2]
    exact ⟨hb.os, hb.tape, hb.output, by simpa [World.putObj] using hb.size, fun k hk => (World.putObj_heap_other (by omega)).trans (hb.block k hk)⟩
  have hL2 : W2.heap[l]? = some (.loop { (ordRec asg bd fn B C D .ready none) with state := .busy }) := by rw [← hW2]; exact World.putObj_heap_same hlt
  clear hW2
  have HL2 := Lib.hid hL2
  have Hbr := hbr
  clear hL hL2 hK hb hc ho hlt
  have f1 : W2.cell? ⟨C, 0, none⟩ = some (.int .i64 m) := cell_of_row W2 C 0 _ _ _ hc2
  have f2 : W2.frozen? ⟨C, 0, none⟩ = false := frozen_of_row W2 C 0 _ _ hc2
  have f3 : W2.cell? ⟨B, m, none⟩ = some (.int .i64 0) := by rw [cell_of_row W2 B m _ _ _ ho2, outA_get m m hm, if_neg (by omega)]
  have f4 : W2.frozen? ⟨B, m, none⟩ = false := frozen_of_row W2 B m _ _ ho2
  have Ho2 := Lib.hid ho2
  have Hc2 := Lib.hid hc2
  have HK2 := Lib.hid hK2
  clear ho2 hc2 hK2
  have hm0 : (0 : Int) ≤ (m : Int) := by omega
  have hm1 : (m : Int) < 64 := by omega
  simp only [Try.f31, rangeOf, Option.bind_some, Option.orElse_eq_or, Option.none_or, Option.or_none, Option.some_or, Option.some.injEq, Prod.mk.injEq] at hab
  obtain ⟨rfl, rfl⟩ := hab
  subst hC hD hl
  gi_wp2
  obtain ⟨W3, hW3⟩ : ∃ W3, (W2.setCell ⟨B, m, none⟩ (.int .i64 (zig m))).setCell ⟨B + 1, 0, none⟩ (.int .i64 ((m : Int) + 1)) = W3 := ⟨_, rfl⟩
  rw [hW3]
  have o3 : W3.heap[B]? = some (.cells (outA (m + 1)) 32 (0, 0)) := by
    rw [← hW3, heap_setCell_other _ _ _ _ (by show B ≠ B + 1; omega), heap_setCell_same _ _ _ _ _ _ Ho2.out, outA_set m hm]
  have c3 : W3.heap[B + 1]? = some (.cells #[.int .i64 ((m + 1 : Nat) : Int)] 3 (0, 0)) := by
    rw [← hW3]
    refine heap_setCell_same _ _ _ #[.int .i64 m] _ _ ?_
    rw [heap_setCell_other _ _ _ _ (by show B + 1 ≠ B; omega)]
    exact Hc2.out
  have K3 : W3.heap[B + 2]? = some (.deferred (some [])) := by
    rw [← hW3, heap_setCell_other _ _ _ _ (by show B + 2 ≠ B + 1; omega), heap_setCell_other _ _ _ _ (by show B + 2 ≠ B; omega)]
    exact HK2.out
  have L3 := HL2.out
  rw [← heap_setCell_other W2 ⟨B, m, none⟩ (B + 3) (.int .i64 (zig m)) (by show B + 3 ≠ B; omega), ← heap_setCell_other _ ⟨B + 1, 0, none⟩ (B + 3) (.int .i64 ((m : Int) + 1)) (by show B + 3 ≠ B + 1; omega), hW3] at L3
  have b3 : Below w0.heap.size w0 W3 := by rw [← hW3]; exact (hb2.setCell hB _).setCell (by show w0.heap.size ≤ B + 1; omega) _
  clear hW3
  have hl3 : B + 3 < W3.heap.size := (Array.getElem?_eq_some_iff.1 L3).1
  exact ⟨_, _, run_endRound none L3, rfl,
    (World.putObj_heap_other (by omega)).trans o3, (World.putObj_heap_other (by omega)).trans c3, World.putObj_heap_same hl3, (World.putObj_heap_other (by omega)).trans K3,
    ⟨b3.os, b3.tape, b3.output, by simpa [World.putObj] using b3.size, fun k hk => (World.putObj_heap_other (by omega)).trans (b3.block k hk)⟩⟩
end Go.Proofs.Ytckkncblbagfmaa
