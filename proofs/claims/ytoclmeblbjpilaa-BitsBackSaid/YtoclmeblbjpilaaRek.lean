/- The laws of ..Reg for a class of worlds that keep a set of blocks: where a row of the call's own, older than what is read, is written. No program in sight. -/
import Derived.Test.YtoclmeblbjpilaaReg
import Derived.Laws.AppendOwn
namespace Go.Tin
open Go.RowKit
set_option linter.unusedSimpArgs false
set_option linter.unusedVariables false

/-- The streams are as they were, no block has gone, and those of K are as they were. -/
structure Kept (K : Nat → Prop) (w w' : World) : Prop where
  os : w'.os = w.os
  tape : w'.tape = w.tape
  output : w'.output = w.output
  size : w.heap.size ≤ w'.heap.size
  block : ∀ i, i < w.heap.size → K i → w'.heap[i]? = w.heap[i]?
theorem Kept.refl (K : Nat → Prop) (w : World) : Kept K w w := ⟨rfl, rfl, rfl, Nat.le_refl _, fun _ _ _ => rfl⟩
theorem Kept.trans {K K' : Nat → Prop} {a b c : World} (h : Kept K a b) (k : Kept K' b c) (hK : ∀ i, i < a.heap.size → K i → K' i) : Kept K a c :=
  ⟨k.os.trans h.os, k.tape.trans h.tape, k.output.trans h.output, Nat.le_trans h.size k.size, fun i hi hk => (k.block i (Nat.lt_of_lt_of_le hi h.size) (hK i hi hk)).trans (h.block i hi hk)⟩
theorem Kept.cell {K : Nat → Prop} {w w' : World} (h : Kept K w w') {b o : Nat} (hb : b < w.heap.size) (hk : K b) : w'.cell? ⟨b, o, none⟩ = w.cell? ⟨b, o, none⟩ :=
  World.cell?_of_block (a := ⟨b, o, none⟩) (h.block b hb hk)
theorem Kept.frozen {K : Nat → Prop} {w w' : World} (h : Kept K w w') {b o : Nat} (hb : b < w.heap.size) (hk : K b) : w'.frozen? ⟨b, o, none⟩ = w.frozen? ⟨b, o, none⟩ :=
  World.frozen?_of_block (a := ⟨b, o, none⟩) (h.block b hb hk)
theorem Kept.of_grown {K : Nat → Prop} {w w' : World} {r : Option Nat} (h : w.grownBy w' r) (hK : ∀ i, K i → some i ≠ r) : Kept K w w' :=
  ⟨h.os, h.tape, h.output, h.size, fun i hi hk => h.block i hi (hK i hk)⟩
theorem Kept.of_below {K : Nat → Prop} {w w' : World} (h : Below w.heap.size w w') : Kept K w w' := ⟨h.os, h.tape, h.output, h.size, fun i hi _ => h.block i hi⟩
theorem Kept.of_below' {B : Nat} {w w' : World} (h : Below B w w') : Kept (· < B) w w' := ⟨h.os, h.tape, h.output, h.size, fun i _ hi => h.block i hi⟩
theorem Kept.drew_l {K : Nat → Prop} {w w' : World} (h : Kept K w.drew w') : Kept K w w' := ⟨h.os, h.tape, h.output, h.size, h.block⟩

structure Kel (K : Nat → Prop) (w : World) where
  w' : World
  h : Kept K w w'
instance (K : Nat → Prop) (w : World) : Inhabited (Kel K w) := ⟨⟨w, Kept.refl _ _⟩⟩
def InKel (K : Nat → Prop) (w w' : World) : Prop := ∃ p : Kel K w, w' = p.w'
theorem inKel_iff {K : Nat → Prop} {w w' : World} : InKel K w w' ↔ Kept K w w' := ⟨fun ⟨p, hp⟩ => hp ▸ p.h, fun h => ⟨⟨w', h⟩, rfl⟩⟩
theorem inKel_refl (K : Nat → Prop) (w : World) : InKel K w w := inKel_iff.2 (Kept.refl _ _)

section
variable {P : Program} {ops : Array Oper} {Q : Exit → Act → World → Prop} {md : Region.Mode}
/-- Some operations that only read, in the order given. -/
theorem keg_quiets {K : Nat → Prop} {w : World} {a : Act} {listed : Array Bool} {n : Nat} (is : List Nat) (l : List Oper) (fuel : Nat) (hn : fuel + is.length = n) (hl : pick ops is = l)
    (hs : Region.noSelect ops = true) (hb : quietsB md ops is listed = true)
    (h : wpQuiet P ops (fun w' => ∃ p : Kel K w, w' = p.w') (fun a' => wpAnyH P md ops (NoPanic Q) (InKel K w) fuel (listAll is listed) a' w) l a) : wpAnyH P md ops (NoPanic Q) (InKel K w) n listed a w := by
  subst hn; subst hl
  exact held_quiets_aux hs (fun _ _ _ _ _ h => h) (inKel_refl K w) fuel is listed a hb h
/-- What is asked behind an operation that is carried out. -/
def KNext (P : Program) (md : Region.Mode) (ops : Array Oper) (Q : Exit → Act → World → Prop) (K : Nat → Prop) (w : World) (fuel : Nat) (listed : Array Bool) : Exit → Act → World → Prop
  | .normal, a', w' => ∃ K', Kept K w w' ∧ (∀ i, i < w.heap.size → K i → K' i) ∧ wpAnyH P md ops Q (InKel K' w') fuel listed a' w'
  | e, a', w' => Q e a' w'
/-- The one operation that may come up. -/
theorem keg_one {K : Nat → Prop} {w : World} {a : Act} {listed : Array Bool} {n : Nat} (i : Nat) (o : Oper) (hi : ops[i]? = some o) (hr : Region.ready md ops listed = [i])
    (h : wpList P ops (KNext P md ops Q K w n (listed.setIfInBounds i true)) [o] a w) : wpAnyH P md ops Q (InKel K w) (n + 1) listed a w := by
  refine wpAnyH_all hr (by simp) fun j hj => ?_
  obtain rfl : j = i := by simpa using hj
  refine wpOp_of_list (Q' := KNext P md ops Q K w n _) hi (fun a' w' hN => ?_) (fun _ _ _ h => h) (fun _ _ h => h) h
  obtain ⟨K', hb, hK, hH⟩ := hN
  exact ⟨inKel_iff.2 hb, held_mono (fun w2 h2 => inKel_iff.2 (hb.trans (inKel_iff.1 h2) hK)) _ _ _ _ hH⟩
/-- The beginning. -/
theorem keg_begin {id : Nat} {a : Act} {w : World} {l : List Oper} (K : Nat → Prop) (n : Nat) (hn : l.length = n) (hm : P.follows .mixedOrders = true)
    (h : wpAnyH P .any l.toArray (NoPanic Q) (InKel K w.drew) n (Array.replicate n false) a w.drew) : (Code.region id l.toArray true).wp P Q a w := by
  subst hn
  refine wp_region_noPanic (wp_region_any hm (wpAny_of_held (S := InKel K w.drew) _ _ _ _ ?_))
  simpa using h
end
end Go.Tin
