/- A region that draws, in a round of a loop over a function. -/
import Derived.Test.YtkepbobnjplpoaaLzJ
import Derived.Test.YtkepbobnjplpoaaLzL
import Derived.OrdersIn
namespace Go.Proofs.Ytkepbobnjplpoaa
open Go.RowKit
open Go.Tin
set_option linter.unusedVariables false
set_option linter.unusedSimpArgs false

attribute [local go_sem] Oper.semAt_some

def noDefer (o : Oper) : Bool := match o.op with
  | .defer _ => false
  | _ => true
theorem noDefer_of {o : Oper} (h : noDefer o = true) : ∀ c, o.op ≠ .defer c := fun c e => by unfold noDefer at h; rw [e] at h; cases h
section
variable {P : Program} {r n : Nat} {ops : Array Oper} {Q : Exit → Act → World → Prop}
theorem op_in {o : Oper} {a : Act} {w : World} {K K' : Act → World → Prop} (hd : noDefer o = true) (hq : ¬ LetsOut Q) (hK : ∀ a w, K a w → K' a w) (h : o.wp P a w K Q ∨ (o.asks P a w ∧ LetsOut Q)) : o.wpIn (Fence.wide.inRound r) n P a w K' Q := by
  rcases h with h | ⟨_, h⟩
  case inr => exact (hq h).elim
  refine ⟨fun _ _ => trivial, ?_⟩
  rw [Oper.semAt_eq _ _ _ (noDefer_of hd)]
  unfold Oper.wp at h
  generalize (execOp a.eval o).run P w = res at *
  cases res with
  | ok nx w' =>
    cases nx with
    | value v => exact hK _ _ h
    | skip => exact hK _ _ h
    | defer d => exact hK _ _ h
    | enter f args =>
      refine ⟨fun h => (by cases h), ?_⟩
      refine (show CallsIn (Fence.wide.inRound r) (n - 1) P f args w' _ from callsIn_wide.2 h).mono ?_
      intro e w2 he
      cases e with
      | returned v => exact hK _ _ he
      | panicked ch => exact he
      | outgrown => exact he
    | row row args =>
      exact ⟨fun h => (by cases h), fun c cs _ => by
        obtain ⟨v, w2, h1, h2⟩ := h c cs
        exact ⟨v, w2, hK _ _ h1, stepsIn_wide.2 h2⟩⟩
    | _ => exact h.elim
  | halt hh w' =>
    cases hh <;> first | exact h | exact h.elim
theorem opi_in (hd : ∀ o ∈ ops.toList, noDefer o = true) (hq : ¬ LetsOut Q) {i : Nat} {a : Act} {w : World} {K K' : Act → World → Prop} (hK : ∀ a w, K a w → K' a w) (h : wpOp P ops Q i K a w) : wpOpIn (Fence.wide.inRound r) n P ops Q i K' a w := by
  unfold wpOp at h
  unfold wpOpIn
  cases ho : ops[i]? with
  | none => rw [ho] at h; exact hK _ _ h
  | some o =>
    rw [ho] at h
    dsimp only at h ⊢
    split
    · rename_i hw
      rw [if_pos hw] at h
      exact op_in (hd o (by rw [Array.mem_toList_iff]; exact Array.mem_of_getElem? ho)) hq hK h
    · rename_i hw
      rw [if_neg hw] at h
      exact ⟨fun _ _ => trivial, hK _ _ h⟩
theorem any_in {md : Region.Mode} (hd : ∀ o ∈ ops.toList, noDefer o = true) (hq : ¬ LetsOut Q) : ∀ (fuel : Nat) (listed : Array Bool) (a : Act) (w : World), wpAny P md ops Q fuel listed a w → wpAnyIn (Fence.wide.inRound r) n P md ops Q fuel listed a w
  | 0, _, _, _, h => h
  | fuel + 1, listed, a, w, h => ⟨h.1, fun i hi => opi_in hd hq (fun a w h => any_in hd hq fuel _ a w h) (h.2 i hi)⟩
end
theorem reg_begin_in {P : Program} {r m : Nat} {Q : Exit → Act → World → Prop} {id : Nat} {a : Act} {w : World} {l : List Oper} (B n : Nat) (hn : l.length = n) (hm : P.follows .mixedOrders = true) (hd : l.all noDefer = true) (hq2 : ¬ LetsOut (NoPanic Q))
    (h : wpAnyH P .any l.toArray (NoPanic Q) (InBel B w.drew) n (Array.replicate n false) a w.drew) : (Code.region id l.toArray true).wpIn (Fence.wide.inRound r) m P Q a w := by
  subst hn
  refine wpIn_mono (wpIn_region_any hm (any_in (Q := NoPanic Q) (fun o ho => List.all_eq_true.1 hd o (by simpa using ho)) hq2 _ _ _ _ (wpAny_of_held (S := InBel B w.drew) _ _ _ _ (by simpa using h)))) NoPanic.imp
end Go.Proofs.Ytkepbobnjplpoaa
