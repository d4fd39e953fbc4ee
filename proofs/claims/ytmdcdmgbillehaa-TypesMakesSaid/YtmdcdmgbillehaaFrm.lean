/- What a call leaves alone that writes into one block and its row; the block of a row. No program in sight. -/
import Derived.Test.YtmdcdmgbillehaaOws
import Derived.Test.YtmdcdmgbillehaaOwv
import Derived.Lib.Hide
namespace Go.Tin
open Go.RowKit
set_option linter.unusedSimpArgs false
set_option linter.unusedVariables false
theorem row_push {w w4 : World} {g : Nat} {o q : Obj} {x : Option Nat} (hr : w.heap[g]? = some o) (hlt : g < w.heap.size) (hg : (w.alloc q).drew.grownBy w4 x) (hne : x ≠ some g) : w4.heap[g]? = some o :=
  (hg.block g (by show g < (w.alloc q).heap.size; simp; omega) (fun e => hne e.symm)).trans ((Below.heap_alloc w q g hlt).trans hr)
/-- All blocks but one, and a row, are as they were. -/
structure Fr (w w' : World) (g : Nat) (r : Option Nat) : Prop where
  os : w'.os = w.os
  tape : w'.tape = w.tape
  output : w'.output = w.output
  size : w.heap.size ≤ w'.heap.size
  block : ∀ k, k < w.heap.size → k ≠ g → some k ≠ r → w'.heap[k]? = w.heap[k]?
theorem Fr.start {w w' : World} {g : Nat} {r : Option Nat} (h : w.grownBy w' (some g)) : Fr w w' g r :=
  ⟨h.os, h.tape, h.output, h.size, fun k hk hg _ => h.block k hk (fun e => hg (by injection e))⟩
theorem Fr.grow {w w1 w2 : World} {g : Nat} {r x : Option Nat} (h : Fr w w1 g r) (h2 : w1.grownBy w2 x) (hx : x = some g ∨ x = none ∨ x = r ∨ ∃ q, x = some q ∧ w.heap.size ≤ q) : Fr w w2 g r :=
  ⟨h2.os.trans h.os, h2.tape.trans h.tape, h2.output.trans h.output, Nat.le_trans h.size h2.size, fun k hk hg hr => by
    refine (h2.block k (Nat.lt_of_lt_of_le hk h.size) ?_).trans (h.block k hk hg hr)
    rintro e
    rcases hx with hx | hx | hx | ⟨q, hx, hq⟩
    · rw [hx] at e; injection e with e; exact hg e
    · rw [hx] at e; cases e
    · rw [hx] at e; exact hr e
    · rw [hx] at e; injection e with e; omega⟩
/-- The block of a row. -/
def ob (A : Option Addr) : Option Nat := (Value.slice A 0 0).ownBlock
theorem ob_eq (A : Option Addr) (n c : Nat) : (Value.slice A n c).ownBlock = ob A := by cases A <;> rfl
theorem ob_some (g o : Nat) : ob (some ⟨g, o, none⟩) = some g := rfl
/-- The row is the elder one, or a new one. -/
def How (w : World) (A A' : Option Addr) : Prop := ob A' = ob A ∨ ∃ q, ob A' = some q ∧ w.heap.size ≤ q
theorem How.or {w : World} {A A' : Option Addr} {g : Nat} (h : How w A A') : ob A' = some g ∨ ob A' = none ∨ ob A' = ob A ∨ ∃ q, ob A' = some q ∧ w.heap.size ≤ q := by
  rcases h with h | h
  · exact .inr (.inr (.inl h))
  · exact .inr (.inr (.inr h))
theorem Fr.below {w0 w w' : World} {B g : Nat} {r : Option Nat} (h : Fr w w' g r) (hb : Below B w0 w) (hg : B ≤ g) (hr : ∀ q, r = some q → B ≤ q) (hB : B ≤ w.heap.size) : Below B w0 w' :=
  ⟨h.os.trans hb.os, h.tape.trans hb.tape, h.output.trans hb.output, Nat.le_trans hb.size h.size, fun k hk => (h.block k (by omega) (by omega) (fun e => by have := hr k e.symm; omega)).trans (hb.block k hk)⟩
theorem Fr.refl (w : World) (g : Nat) (r : Option Nat) : Fr w w g r := ⟨rfl, rfl, rfl, Nat.le_refl _, fun _ _ _ _ => rfl⟩
theorem Fr.bel {w w1 w2 : World} {g : Nat} {r : Option Nat} (h : Fr w w1 g r) (hb : Below w1.heap.size w1 w2) : Fr w w2 g r :=
  h.grow (x := none) ⟨hb.os, hb.tape, hb.output, hb.size, fun k hk _ => hb.block k hk⟩ (.inr (.inl rfl))
theorem Fr.cell {w w' : World} {g b o : Nat} {r : Option Nat} (h : Fr w w' g r) (hb : b < w.heap.size) (h1 : b ≠ g) (h2 : some b ≠ r) : w'.cell? ⟨b, o, none⟩ = w.cell? ⟨b, o, none⟩ := by
  unfold World.cell?
  rw [show w'.heap[(⟨b, o, none⟩ : Addr).block]? = w.heap[(⟨b, o, none⟩ : Addr).block]? from h.block b hb h1 h2]
theorem Sl.fr_lt {k : IntKind} {w0 w w' : World} {A : Option Addr} {l : List Int} {g : Nat} (h : Sl k w0 A l) (hb : Below w0.heap.size w0 w) (hlt : w0.heap.size ≤ g) (hf : Fr w w' g none) : Sl k w' A l := by
  rcases h with h | ⟨b, off, hA, hbl, hc⟩
  · exact .inl h
  · have hz := hb.size
    have hz2 := hf.size
    exact .inr ⟨b, off, hA, by omega, fun i hi => (hf.cell (by omega) (by omega) (by simp)).trans ((hb.cell (p := ⟨b, off + i, none⟩) hbl).trans (hc i hi))⟩
theorem Sl.frN {k : IntKind} {w w' : World} {A : Option Addr} {l : List Int} {g : Nat} (h : Sl k w A l) (hn : ∀ a, A = some a → a.block ≠ g) (hf : w.grownBy w' (some g)) : Sl k w' A l := by
  rcases h with h | ⟨b, off, hA, hbl, hc⟩
  · exact .inl h
  · refine .inr ⟨b, off, hA, Nat.lt_of_lt_of_le hbl hf.size, fun i hi => ?_⟩
    rw [← hc i hi]
    unfold World.cell?
    rw [show w'.heap[(⟨b, off + i, none⟩ : Addr).block]? = w.heap[(⟨b, off + i, none⟩ : Addr).block]? from hf.block b hbl (fun e => hn _ hA (by injection e))]
theorem Sl.cellsI {k : IntKind} {w : World} {A : Option Addr} {l : List Int} (h : Sl k w A l) (h0 : 0 < l.length) : ∃ b off, A = some ⟨b, off, none⟩ ∧ RowKit.Hid (∀ W : World, (∀ o, W.cell? ⟨b, o, none⟩ = w.cell? ⟨b, o, none⟩) → ∀ i, i < l.length → W.cell? ⟨b, off + i, none⟩ = some (.int k (nth l i))) := by
  obtain ⟨b, off, rfl, hlt, hc⟩ := h.at_ h0
  exact ⟨b, off, rfl, Lib.hid fun W hW i hi => (hW _).trans (hc i hi)⟩

theorem Sl.frcells {k : IntKind} {w0 w : World} {A : Option Addr} {l : List Int} {g : Nat} (h : Sl k w0 A l) (hb : Below w0.heap.size w0 w) (hlt : w0.heap.size ≤ g) (h0 : 0 < l.length) :
    ∃ b off, A = some ⟨b, off, none⟩ ∧ RowKit.Hid (∀ W : World, Fr w W g none → ∀ i, i < l.length → W.cell? ⟨b, off + i, none⟩ = some (.int k (nth l i))) := by
  obtain ⟨b, off, rfl, hbl, hc⟩ := h.at_ h0
  have hz := hb.size
  exact ⟨b, off, rfl, Lib.hid fun W hf i hi => (hf.cell (by omega) (by omega) (by simp)).trans ((hb.cell (p := ⟨b, off + i, none⟩) hbl).trans (hc i hi))⟩
theorem block_add (a : Addr) (n : Nat) : (a.add n).block = a.block := by unfold Addr.add; split <;> rfl
theorem ud {B : Nat} {w x : World} (h : Below B w.drew x) : Below B w x := ⟨h.os, h.tape, h.output, h.size, h.block⟩
theorem ownsRow_keepFr {e : TypeId} {sz n : Nat} {w w' : World} {B g : Nat} {r : Option Nat} {v : Value} {xs : List Value} (h : w.ownsRow B e sz v n xs) (hf : Fr w w' g r) (h1 : v.ownBlock ≠ some g) (h2 : v.ownBlock = none ∨ v.ownBlock ≠ r) : w'.ownsRow B e sz v n xs := by
  obtain ⟨h3, h4⟩ := h
  refine ⟨h3, ?_⟩
  rcases h4 with h4 | ⟨q, cap, cur, hv, hBg, hh, hr⟩
  · exact .inl h4
  · refine .inr ⟨q, cap, cur, hv, hBg, ?_, hr⟩
    subst hv
    have hlt : q < w.heap.size := by
      rcases Nat.lt_or_ge q w.heap.size with h | h
      · exact h
      · rw [Array.getElem?_eq_none h] at hh; cases hh
    rw [hf.block q hlt (fun e => h1 (by simp [Value.ownBlock, e])) (fun e => by
      rcases h2 with h2 | h2
      · simp [Value.ownBlock] at h2
      · exact h2 (by simpa [Value.ownBlock] using e))]
    exact hh
theorem ownsRow_low {e : TypeId} {sz n : Nat} {w : World} {B m c : Nat} {A : Option Addr} {xs : List Value} (h : w.ownsRow B e sz (.slice A m c) n xs) : ∀ q, ob A = some q → B ≤ q ∧ q < w.heap.size := by
  intro q hq
  rw [← ob_eq A m c] at hq
  obtain ⟨h1, h2⟩ := World.ownsRow.lt h q hq
  exact ⟨by omega, by omega⟩
theorem row_lt {w : World} {g : Nat} {o : Obj} (h : w.heap[g]? = some o) : g < w.heap.size := by
  rcases Nat.lt_or_ge g w.heap.size with h1 | h1
  · exact h1
  · rw [Array.getElem?_eq_none h1] at h; cases h
theorem Fr.comp {w w1 w2 : World} {g : Nat} {r r' : Option Nat} (h : Fr w w1 g r) (h2 : Fr w1 w2 g r') (hr : r' = r ∨ ∃ q, r' = some q ∧ w.heap.size ≤ q) : Fr w w2 g r :=
  ⟨h2.os.trans h.os, h2.tape.trans h.tape, h2.output.trans h.output, Nat.le_trans h.size h2.size, fun k hk hg hne => by
    refine (h2.block k (Nat.lt_of_lt_of_le hk h.size) hg ?_).trans (h.block k hk hg hne)
    intro e
    rcases hr with hr | ⟨q, hr, hq⟩
    · rw [hr] at e; exact hne e
    · rw [hr] at e; injection e with e; omega⟩
theorem How.comp {w w1 : World} {A A' A'' : Option Addr} (h : How w A A') (h2 : How w1 A' A'') (hs : w.heap.size ≤ w1.heap.size) : How w A A'' := by
  rcases h2 with e | ⟨q, e, hq⟩
  · rcases h with e1 | ⟨q, e1, hq⟩
    · exact .inl (e.trans e1)
    · exact .inr ⟨q, e.trans e1, hq⟩
  · exact .inr ⟨q, e, by omega⟩
theorem set_other {w : World} {g i X : Nat} {v : Value} (h : X ≠ g) : (w.setCell ⟨g, i, none⟩ v).heap[X]? = w.heap[X]? := heap_setCell_other _ _ _ _ h
theorem below_drew {B : Nat} {w0 w : World} (h : Below B w0 w) : Below B w0 w.drew := ⟨h.os, h.tape, h.output, h.size, h.block⟩
theorem bdn' {B : Nat} {w0 w : World} (hb : Below B w0 w) (n : Nat) : Below B w0 (w.drewN n) := ⟨hb.os, hb.tape, hb.output, hb.size, hb.block⟩
theorem wraps_u32' (n : Int) (h₀ : 0 ≤ n) (h₁ : n < 2 ^ 32) : IntKind.u32.wrap n = n := by rw [IntKind.wrap_u32]; omega
end Go.Tin
