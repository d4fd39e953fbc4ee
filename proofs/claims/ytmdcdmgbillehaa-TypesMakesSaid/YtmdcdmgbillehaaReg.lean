/- A law for a region that asks for its order and holds calls or makes memory: the operations that only read are taken as soon as they are ready, the others in the order that is forced; behind each of the others a new class of worlds begins. No program in sight. -/
import Derived.OrdersHeld
import Derived.Deep.RegionHeld3
import Derived.Deep.QuietTactic
import Derived.BigQuiet
import Derived.Below
namespace Go.Tin
open Go.RowKit
set_option linter.unusedSimpArgs false
set_option linter.unusedVariables false

/-- Worlds that are as w below block B. -/
structure Bel (B : Nat) (w : World) where
  w' : World
  h : Below B w w'
instance (B : Nat) (w : World) : Inhabited (Bel B w) := ⟨⟨w, Below.refl _ _⟩⟩
/-- The class of these worlds. -/
def InBel (B : Nat) (w w' : World) : Prop := ∃ p : Bel B w, w' = p.w'
theorem inBel_iff {B : Nat} {w w' : World} : InBel B w w' ↔ Below B w w' := ⟨fun ⟨p, hp⟩ => hp ▸ p.h, fun h => ⟨⟨w', h⟩, rfl⟩⟩
theorem inBel_refl (B : Nat) (w : World) : InBel B w w := inBel_iff.2 (Below.refl _ _)
theorem inBel_trans {B : Nat} {w w1 w2 : World} (h : Below B w w1) (h' : InBel B w1 w2) : InBel B w w2 := inBel_iff.2 (h.trans (inBel_iff.1 h'))

theorem dl {B : Nat} {w x : World} (h : Below B w x) : Below B w.drew x := ⟨h.os, h.tape, h.output, h.size, h.block⟩

section
variable {P : Program}
theorem value_of {P : Program} (s : Sem Value) (w : World) (n : Next) (w' : World) (h : (do pure (Next.value (← s)) : Sem Next).run P w = .ok n w') : ∃ u, n = .value u := by
  rw [Sem.run_bind] at h
  generalize s.run P w = r at h
  cases r with
  | ok u w1 =>
    simp only [Result.andThen_ok, Sem.run_pure, Result.ok.injEq] at h
    exact ⟨u, h.1.symm⟩
  | halt x w1 => simp [Result.andThen] at h

/-- Operations that yield a value or panic: no call of a Go function, no store. -/
def valued (o : Oper) : Bool :=
  match o.op with
  | .move _ | .assign _ | .build .. | .load .. | .binOp .. | .unOp .. | .convert .. | .makeFunc .. | .makeInterface .. | .slice .. | .fieldAddr .. | .field .. | .indexAddr .. | .index .. | .extract .. | .pick .. => true
  | .call c => match c.callee with
    | .builtin b => match b with
      | .len | .cap | .max | .min => true
      | _ => false
    | _ => false
  | _ => false

theorem valued_run {ρ : Operand → Value} {o : Oper} {w w' : World} {n : Next} (ho : valued o = true) (h : (execOp ρ o).run P w = .ok n w') : ∃ u, n = .value u := by
  obtain ⟨dst, op, ty, pos, after, guard⟩ := o
  cases op <;> simp only [valued, Bool.false_eq_true] at ho <;> simp only [execOp] at h <;> first
    | exact value_of _ _ _ _ h
    | (simp only [Sem.run_pure, Result.ok.injEq] at h; exact ⟨_, h.1.symm⟩)
    | skip
  case pick c x y =>
    rw [Sem.run_bind] at h
    generalize (asBool (ρ c)).run P w = r at h
    cases r with
    | ok u w1 =>
      simp only [Result.andThen_ok, Sem.run_pure, Result.ok.injEq] at h
      exact ⟨_, h.1.symm⟩
    | halt x w1 => simp [Result.andThen] at h
  case call c =>
    obtain ⟨callee, args, argTypes⟩ := c
    cases callee <;> simp only [Bool.false_eq_true] at ho
    case builtin b =>
      simp only [resolve, Sem.run_bind, Sem.run_pure, Result.andThen_ok, invoke] at h
      cases b <;> simp only [Bool.false_eq_true] at ho <;> simp only [builtin] at h <;> exact value_of _ _ _ _ h

variable {ops : Array Oper} {Q : Exit → Act → World → Prop} {md : Region.Mode}

/-- What a quiet step of such an operation says. -/
theorem yields_of_quiet {S : World → Prop} {o : Oper} {a : Act} {v : Value} (ho : valued o = true) (hw : Region.wanted o (yielded ops a.tmps) = true) (h : ∀ w, S w → o.quietAt P a S w v) : YieldsIf P ops S o v a := by
  refine .inl ⟨hw, fun w hS => ?_⟩
  have h1 := h w hS
  unfold Oper.quietAt at h1
  generalize hr : (execOp a.eval o).run P w = r at h1
  cases r with
  | ok n w' =>
    obtain ⟨u, rfl⟩ := valued_run ho hr
    simp only [Oper.quietUpon] at h1
    rw [h1.1, h1.2]
  | halt x w' => simp only [Oper.quietUpon] at h1

theorem held_mono {S S' : World → Prop} (hS : ∀ w, S w → S' w) : ∀ (fuel : Nat) (listed : Array Bool) (a : Act) (w : World), wpAnyH P md ops Q S fuel listed a w → wpAnyH P md ops Q S' fuel listed a w
  | 0, _, _, _, h => h
  | fuel + 1, _, _, _, h => ⟨h.1, fun i hi => wpOp_mono (fun a' w' h' => ⟨hS _ h'.1, held_mono hS fuel _ a' w' h'.2⟩) (h.2 i hi)⟩

/-- These have come up. -/
def listAll : List Nat → Array Bool → Array Bool
  | [], l => l
  | i :: is, l => listAll is (l.setIfInBounds i true)
/-- Each of these, in this order, is ready and free when its turn comes, and yields a value. -/
def quietsB (md : Region.Mode) (ops : Array Oper) : List Nat → Array Bool → Bool
  | [], _ => true
  | i :: is, l => (Region.ready md ops l).contains i && Region.free md ops l i && ((ops[i]?).map valued).getD false && quietsB md ops is (l.setIfInBounds i true)
/-- The operations of these numbers. -/
def pick (ops : Array Oper) (is : List Nat) : List Oper := is.map fun i => ops.getD i default

theorem held_quiets_aux {S : World → Prop} (hs : Region.noSelect ops = true) (hQ : ∀ c a d v w, Q (.panic c) (a.put d v) w → Q (.panic c) a w) {w : World} (hS : S w) (fuel : Nat) :
    ∀ (is : List Nat) (listed : Array Bool) (a : Act), quietsB md ops is listed = true →
      wpQuiet P ops S (fun a' => wpAnyH P md ops Q S fuel (listAll is listed) a' w) (pick ops is) a → wpAnyH P md ops Q S (fuel + is.length) listed a w
  | [], _, _, _, h => h
  | i :: is, listed, a, hb, h => by
    simp only [quietsB, Bool.and_eq_true] at hb
    obtain ⟨⟨⟨hr, hf⟩, hv⟩, hb'⟩ := hb
    obtain ⟨o, ho⟩ : ∃ o, ops[i]? = some o := by
      cases h0 : ops[i]? with
      | none => rw [h0] at hv; simp at hv
      | some o => exact ⟨o, rfl⟩
    rw [ho] at hv
    simp only [Option.map_some, Option.getD_some] at hv
    have hd : ops.getD i default = o := by
      rw [Array.getD_eq_getD_getElem?, ho]; rfl
    simp only [pick, List.map_cons, hd, wpQuiet] at h
    show wpAnyH P md ops Q S (fuel + is.length + 1) listed a w
    split at h
    · rename_i hw
      obtain ⟨v, h1, h2⟩ := h
      exact wpAnyH_take ho hs hf hr (fun c a w => hQ c a o.dst v w) (yields_of_quiet hv hw h1) hS (held_quiets_aux hs hQ hS fuel is _ _ hb' h2)
    · rename_i hw
      exact wpAnyH_take ho hs hf hr (fun c a w => hQ c a o.dst undef w) (.inr ⟨by simpa using hw, rfl⟩) hS (held_quiets_aux hs hQ hS fuel is _ _ hb' h)

/-- **Some operations that only read, in the order given.** 'l': these, written out. -/
theorem reg_quiets {B : Nat} {w : World} {a : Act} {listed : Array Bool} {n : Nat} (is : List Nat) (l : List Oper) (fuel : Nat) (hn : fuel + is.length = n) (hl : pick ops is = l)
    (hs : Region.noSelect ops = true) (hb : quietsB md ops is listed = true)
    (h : wpQuiet P ops (fun w' => ∃ p : Bel B w, w' = p.w') (fun a' => wpAnyH P md ops (NoPanic Q) (InBel B w) fuel (listAll is listed) a' w) l a) : wpAnyH P md ops (NoPanic Q) (InBel B w) n listed a w := by
  subst hn; subst hl
  exact held_quiets_aux hs (fun _ _ _ _ _ h => h) (inBel_refl B w) fuel is listed a hb h

/-- What is asked behind an operation that is carried out: below B nothing has turned, and the rest goes on in the new class. -/
def Next1 (P : Program) (md : Region.Mode) (ops : Array Oper) (Q : Exit → Act → World → Prop) (B : Nat) (w : World) (fuel : Nat) (listed : Array Bool) : Exit → Act → World → Prop
  | .normal, a', w' => ∃ B', Below B w w' ∧ B ≤ B' ∧ wpAnyH P md ops Q (InBel B' w') fuel listed a' w'
  | e, a', w' => Q e a' w'

theorem wpOp_of_list {i : Nat} {o : Oper} (ho : ops[i]? = some o) {K : Act → World → Prop} {Q' : Exit → Act → World → Prop} {a : Act} {w : World}
    (hK : ∀ a w, Q' .normal a w → K a w) (hp : ∀ c a w, Q' (.panic c) a w → Q (.panic c) a w) (hg : ∀ a w, Q' .outgrown a w → Q .outgrown a w)
    (h : wpList P ops Q' [o] a w) : wpOp P ops Q i K a w := by
  unfold wpOp
  simp only [ho]
  unfold wpList at h
  split
  · rename_i hw
    simp only [hw, if_true] at h
    rcases h with h | ⟨h1, a', w', h2⟩
    · refine .inl ?_
      unfold Oper.wp at *
      generalize (execOp a.eval o).run P w = r at *
      cases r with
      | ok n w' =>
        cases n <;> simp only [Oper.upon] at h ⊢
        case value u => exact hK _ _ h
        case skip => exact hK _ _ h
        case defer d => exact hK _ _ h
        case enter f args =>
          refine Calls.mono h fun e w'' he => ?_
          cases e with
          | returned u => exact hK _ _ he
          | panicked c => exact hp _ _ _ he
          | outgrown => obtain ⟨a1, w1, h1⟩ := he; exact ⟨a1, w1, hg _ _ h1⟩
        case row row args => exact Rows.mono h fun u w'' he => hK _ _ he
      | halt x w' =>
        cases x <;> simp only [Oper.upon] at h ⊢
        case panic u => exact hp _ _ _ h
    · exact .inr ⟨h1, a', w', hg _ _ h2⟩
  · rename_i hw
    simp only [hw] at h
    exact hK _ _ h

/-- **The one operation that may come up.** 'o': it, written out. -/
theorem reg_one {B : Nat} {w : World} {a : Act} {listed : Array Bool} {n : Nat} (i : Nat) (o : Oper) (hi : ops[i]? = some o) (hr : Region.ready md ops listed = [i])
    (h : wpList P ops (Next1 P md ops Q B w n (listed.setIfInBounds i true)) [o] a w) : wpAnyH P md ops Q (InBel B w) (n + 1) listed a w := by
  refine wpAnyH_all hr (by simp) fun j hj => ?_
  obtain rfl : j = i := by simpa using hj
  refine wpOp_of_list (Q' := Next1 P md ops Q B w n _) hi (fun a' w' hN => ?_) (fun _ _ _ h => h) (fun _ _ h => h) h
  obtain ⟨B', hb, hB, hH⟩ := hN
  exact ⟨inBel_iff.2 hb, held_mono (fun w2 h2 => inBel_trans hb (inBel_iff.2 ((inBel_iff.1 h2).mono hB))) _ _ _ _ hH⟩

/-- **Two operations that may come up**: each of them first. -/
theorem reg_two {B : Nat} {w : World} {a : Act} {listed : Array Bool} {n : Nat} (i j : Nat) (o u : Oper) (hi : ops[i]? = some o) (hj : ops[j]? = some u) (hr : Region.ready md ops listed = [i, j])
    (h : wpList P ops (Next1 P md ops Q B w n (listed.setIfInBounds i true)) [o] a w) (h' : wpList P ops (Next1 P md ops Q B w n (listed.setIfInBounds j true)) [u] a w) : wpAnyH P md ops Q (InBel B w) (n + 1) listed a w := by
  refine wpAnyH_all hr (by simp) fun k hk => ?_
  have hk' : k = i ∨ k = j := by simpa using hk
  rcases hk' with rfl | rfl
  · refine wpOp_of_list (Q' := Next1 P md ops Q B w n _) hi (fun a' w' hN => ?_) (fun _ _ _ h => h) (fun _ _ h => h) h
    obtain ⟨B', hb, hB, hH⟩ := hN
    exact ⟨inBel_iff.2 hb, held_mono (fun w2 h2 => inBel_trans hb (inBel_iff.2 ((inBel_iff.1 h2).mono hB))) _ _ _ _ hH⟩
  · refine wpOp_of_list (Q' := Next1 P md ops Q B w n _) hj (fun a' w' hN => ?_) (fun _ _ _ h => h) (fun _ _ h => h) h'
    obtain ⟨B', hb, hB, hH⟩ := hN
    exact ⟨inBel_iff.2 hb, held_mono (fun w2 h2 => inBel_trans hb (inBel_iff.2 ((inBel_iff.1 h2).mono hB))) _ _ _ _ hH⟩

/-- **The end**: all have come up. -/
theorem reg_done {S : World → Prop} {w : World} {a : Act} {listed : Array Bool} {n : Nat} (hr : Region.ready md ops listed = []) (h : Q .normal a w) : wpAnyH P md ops (NoPanic Q) S n listed a w := wpAnyH_done hr (NoPanic.normal h) n

/-- **The beginning.** -/
theorem reg_begin {id : Nat} {a : Act} {w : World} {l : List Oper} (B n : Nat) (hn : l.length = n) (hm : P.follows .mixedOrders = true)
    (h : wpAnyH P .any l.toArray (NoPanic Q) (InBel B w.drew) n (Array.replicate n false) a w.drew) : (Code.region id l.toArray true).wp P Q a w := by
  subst hn
  refine wp_region_noPanic (wp_region_any hm (wpAny_of_held (S := InBel B w.drew) _ _ _ _ ?_))
  simpa using h
end
end Go.Tin
