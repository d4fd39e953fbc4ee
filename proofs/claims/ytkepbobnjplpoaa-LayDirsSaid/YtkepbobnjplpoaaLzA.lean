/- A loop over an iterator whose own state lies in cells. -/
import Derived.Test.YtkepbobnjplpoaaLyH
import Derived.Test.YtkepbobnjplpoaaLzP
import Derived.RangeFuncRecord
import Derived.RangeFuncSeq
import Derived.RangeFuncLeaves
import Derived.TacticsIn
import Derived.BigFrameIn
import Derived.LoopIn
import Derived.WalkKit
import Derived.Lib.Hide
namespace Go.Proofs.Ytkepbobnjplpoaa
open Go.RowKit
open Go.Tin
set_option linter.unusedVariables false
set_option linter.unusedSimpArgs false

attribute [local go_sem] Oper.semAt_some

theorem put_below {B l : Nat} {W : World} (o : Obj) (h : B ≤ l) : Below B W (W.putObj l o) :=
  ⟨rfl, rfl, rfl, by simp [World.putObj], fun k hk => World.putObj_heap_other (by omega)⟩
theorem put_kp {p : Nat → Prop} {l : Nat} {W : World} (o : Obj) (h : ¬ p l) : Kp p W (W.putObj l o) :=
  ⟨by simp [World.putObj], fun k hk _ => World.putObj_heap_other (fun e => h (e ▸ hk))⟩
theorem row_rng {W : World} {g : Nat} {ty : TypeId} {cs : Array Value} (hg : W.heap[g]? = some (.cells cs ty (0, 0))) : W.rangeAt g 0 cs.toList := fun j v hj => by
  rw [Nat.zero_add]
  exact row_cell hg j (by simpa using hj)
section
variable {F : Fence} {m : Nat} {P : Program} {t : TypeId} {n : Nat} (rt : RT P t n)
include rt
/-- A part of many cells that is read, in a round or elsewhere. -/
theorem wpli_loadv (hF : ∀ f, F.fn f) {ops : Array Oper} {rest : List Oper} {o : Oper} {a : Act} {w : World} {Q : Exit → Act → World → Prop} (hgd : Region.wanted o (yielded ops a.tmps) = true) (x : Operand) (ho : o.op = .load t x)
    (b q : Nat) (hx : a.eval x = .pointer (some ⟨b, q, none⟩)) (cs : List Value) (hn : cs.length = n) (hc : w.rangeAt b q cs)
    (h : wpListIn F m P ops Q rest (a.put o.dst (.agg cs.toArray)) w) : wpListIn F m P ops Q (o :: rest) a w := by
  refine wpListIn_step fun K hK => ?_
  rw [if_pos hgd]
  refine ⟨fun f _ => hF f, ?_⟩
  rw [Oper.semAt_eq _ _ _ (fun c hc' => by rw [ho] at hc'; cases hc')]
  unfold execOp
  simp only [ho, hx, Sem.run_bind, loadv_run rt w b q cs hn hc, Result.andThen_ok, Sem.run_pure]
  exact hK _ _ h
end

/-- How a round's body may be left. -/
def bPost (p : Nat → Prop) (I : Nat → World → Prop) (Ix : Code → Nat → World → Prop) (i : Nat) (W2 : World) : Exit → Act → World → Prop
  | .normal, _, W3 => Kp p W2 W3 ∧ I (i + 1) W3
  | .ret, _, W3 => Kp p W2 W3 ∧ Ix .ret (i + 1) W3
  | .exit id, _, W3 => Kp p W2 W3 ∧ Ix (.exit id) (i + 1) W3
  | _, _, _ => False
/-- An iterator that hands out N things, each as told by X; it changes blocks of its own alone. -/
def SeqD {α : Type} (P : Program) (gf : Nat) (lb : Array Value) (encs : α → Array Value) (N n0 : Nat) (X : Nat → α → World → Prop) (w : World) : Prop :=
  ∀ (l : Nat) (J Jx : Nat → World → Prop) (W : World), Below w.heap.size w W →
    (∀ i A B, J i A → Below W.heap.size A B → J i B) →
    (∀ i x W1 m, J i W1 → i < N → X i x W1 → YieldAt Fence.wide m P l (encs x) W1 fun e W' =>
      (e = .returned (.bool true) ∧ J (i + 1) W' ∧ Kp (fun b => b < n0 ∨ W.heap.size ≤ b) W1 W') ∨ (e = .returned (.bool false) ∧ Jx (i + 1) W')) →
    J 0 W →
    Calls P gf (#[.func (.yield l) #[] #[]] ++ lb) W fun e W' => (∃ v, e = .returned v) ∧ (J N W' ∨ ∃ j, 0 < j ∧ j ≤ N ∧ Jx j W')
theorem range_law {P : Program} {n : Nat} {g : Operand} {ps : Array Tmp} {asg bd : Code} {Q : Exit → Act → World → Prop} {a : Act} {w : World} {gf : Nat} {lb : Array Value}
    (hg : a.eval g = .func (.func gf) #[] lb) (eg : ∀ args w, (callFunc gf args).run P w = .ok (.enter gf args) w)
    {α : Type} (encs : α → Array Value) (hps : ∀ x, (encs x).size = ps.size) (N n0 : Nat) (hn0 : n0 ≤ w.heap.size) (X : Nat → α → World → Prop) (hseq : SeqD P gf lb encs N n0 X w)
    (I : Nat → World → Prop) (Ix : Code → Nat → World → Prop) (hI : ∀ i A B, I i A → Below w.heap.size A B → I i B) (hIx : ∀ c i A B, Ix c i A → Below w.heap.size A B → Ix c i B) (h0 : I 0 w)
    (hround : ∀ l i x W m, w.heap.size < l → l < W.heap.size → I i W → i < N → X i x W →
      asg.wpIn (Fence.wide.inRound l) m P (Exit.then (fun a1 W1 => Below W.heap.size W W1 ∧ ∀ o, bd.wpIn (Fence.wide.inRound l) m P (bPost (fun b => b < n0 ∨ w.heap.size ≤ b) I Ix i (W1.putObj l o)) a1 (W1.putObj l o)) (fun _ _ _ => False))
        { tmps := (ps.zip (encs x)).foldl (fun t (p, v) => t.setIfInBounds p v) a.tmps, defers := [] } W)
    (hdone : ∀ D W, w.heap.size ≤ D → I N W → W.heap[D]? = some (.deferred (some [])) → Q .normal { a with defers := { target := .collected D, args := #[] } :: a.defers } W)
    (hstop : ∀ D c j W, w.heap.size ≤ D → 0 < j → j ≤ N → Ix c j W → W.heap[D]? = some (.deferred (some [])) → c.wpIn Fence.wide n P Q { a with defers := { target := .collected D, args := #[] } :: a.defers } W) :
    (Code.rangeFunc g ps asg bd).wpIn Fence.wide n P Q a w := by
  refine wpIn_rangeFunc fun fn hfn => ?_
  obtain ⟨R, hR⟩ : ∃ R : LoopState → Option Code → Loop, R = fun st pe => { state := st, pending := pe, fn, tmps := a.tmps, params := ps, assign := asg, body := bd, defers := w.heap.size } := ⟨_, rfl⟩
  obtain ⟨D, hD⟩ : ∃ D, D = w.heap.size := ⟨_, rfl⟩
  obtain ⟨W0, hW0⟩ : ∃ W0, W0 = (w.alloc (.deferred (some []))).alloc (.loop (R .ready none)) := ⟨_, rfl⟩
  have hs0 : W0.heap.size = D + 2 := by rw [hW0, hD]; simp
  have hL0 : W0.heap[D + 1]? = some (.loop (R .ready none)) := by
    have := World.alloc_heap_new (w.alloc (.deferred (some []))) (.loop (R .ready none))
    rw [World.size_alloc] at this
    rw [hW0, hD]; exact this
  have hK0 : W0.heap[D]? = some (.deferred (some [])) := by
    rw [hW0, hD]; exact (Below.heap_alloc _ _ _ (by simp)).trans (World.alloc_heap_new w _)
  have hb0 : Below w.heap.size w W0 := by rw [hW0]; exact ba (ba (brefl w) _) _
  refine ⟨D + 1, [{ target := .collected D, args := #[] }], W0, { target := .fn (.func gf) lb, args := #[.func (.yield (D + 1)) #[] #[]] }, W0, gf, #[.func (.yield (D + 1)) #[] #[]] ++ lb, W0, ?_, ?_, fun _ _ => trivial, ?_, fun h => (by cases h), ?_⟩
  · rw [hW0, hR, hD]; exact run_enterLoop_outer _ _ _ _ _
  · simp only [resolve, hg]
    simp [go_sem]
  · simp [invoke, go_sem, eg]
  refine callsIn_wide.2 ((hseq (D + 1) (fun i W => I i W ∧ W.heap[D + 1]? = some (.loop (R .ready none)) ∧ W.heap[D]? = some (.deferred (some [])))
    (fun j W => ∃ c, Ix c j W ∧ W.heap[D + 1]? = some (.loop (R .done (some c))) ∧ W.heap[D]? = some (.deferred (some []))) W0 hb0 ?_ ?_ ⟨hI _ _ _ h0 hb0, hL0, hK0⟩).mono ?_)
  · rintro i A B ⟨h1, h2, h3⟩ hb
    exact ⟨hI _ _ _ h1 (hb.mono (by omega)), (hb.block _ (by omega)).trans h2, (hb.block _ (by omega)).trans h3⟩
  · rintro i x W m ⟨hi, hl, hk⟩ hiN hx
    have hlt := row_lt hl
    have hy := run_yield (P := P) (args := encs x) hl (by rw [hR]; exact hps x)
    refine ⟨_, _, _, _, hy, ?_⟩
    have hfn' : (R .ready none).fn = fn := by rw [hR]
    have hta : (R .ready none).tmps = a.tmps ∧ (R .ready none).params = ps ∧ (R .ready none).assign = asg ∧ (R .ready none).body = bd := by rw [hR]; exact ⟨rfl, rfl, rfl, rfl⟩
    obtain ⟨e1, e2, e3, e4⟩ := hta
    rw [e1, e2, e3, e4]
    refine roundIn_of_wpIn trivial (wpIn_mono (hround (D + 1) i x W m (by omega) hlt hi hiN hx) ?_)
    rintro e a1 W1 hp
    cases e with
    | normal =>
      obtain ⟨hb1, hbd⟩ := hp
      have hl1 := (hb1.block _ hlt).trans hl
      have hk1 := (hb1.block _ (row_lt hk)).trans hk
      refine ⟨_, run_beginRound hl1 (by rw [hR]), wpIn_mono (hbd _) ?_⟩
      generalize ho2 : Obj.loop { R .ready none with state := .busy } = o2
      have hl2 : (W1.putObj (D + 1) o2).heap[D + 1]? = some o2 := World.putObj_heap_same (row_lt hl1)
      have hk2 : (W1.putObj (D + 1) o2).heap[D]? = some (.deferred (some [])) := (World.putObj_heap_other (by omega)).trans hk1
      have hkp : Kp (fun b => b < n0 ∨ W0.heap.size ≤ b) W (W1.putObj (D + 1) o2) := (Kp.mono (Kp.all hb1) (fun _ _ h => h)).trans (put_kp _ (by rw [hs0]; omega))
      have fin : ∀ (jump : Option Code) (W3 : World), Kp (fun b => b < n0 ∨ w.heap.size ≤ b) (W1.putObj (D + 1) o2) W3 → ∃ W4, (Instr.endRound (D + 1) jump).run P W3 = .ok (.bool jump.isNone) W4 ∧ W4.heap[D + 1]? = some (.loop (R (if jump.isNone then .ready else .done) jump)) ∧ W4.heap[D]? = some (.deferred (some [])) ∧ Kp (fun b => b < n0 ∨ W0.heap.size ≤ b) W W4 ∧ Below w.heap.size W3 W4 := fun jump W3 hk3 => by
        have hl3 := (hk3.block (D + 1) (.inr (by omega)) (row_lt hl2)).trans hl2
        have hd3 := (hk3.block D (.inr (by omega)) (row_lt hk2)).trans hk2
        rw [← ho2] at hl3
        have he := run_endRound (P := P) jump hl3
        refine ⟨_, he, ?_, (World.putObj_heap_other (by omega)).trans hd3, (hkp.trans (hk3.mono fun k _ h => h.imp id (fun h => by omega))).trans (put_kp _ (by rw [hs0]; omega)), put_below _ (by omega)⟩
        rw [World.putObj_heap_same (row_lt hl3), hR]
      rintro e a3 W3 hp
      cases e with
      | normal =>
        obtain ⟨hk3, hi3⟩ := hp
        obtain ⟨W4, h1, h2, h3, h4, h5⟩ := fin none W3 hk3
        exact ⟨_, W4, h1, .inl ⟨rfl, ⟨hI _ _ _ hi3 h5, h2, h3⟩, h4⟩⟩
      | ret =>
        obtain ⟨hk3, hi3⟩ := hp
        obtain ⟨W4, h1, h2, h3, h4, h5⟩ := fin (some .ret) W3 hk3
        exact ⟨_, W4, h1, .inr ⟨rfl, _, hIx _ _ _ _ hi3 h5, h2, h3⟩⟩
      | exit id =>
        obtain ⟨hk3, hi3⟩ := hp
        obtain ⟨W4, h1, h2, h3, h4, h5⟩ := fin (some (.exit id)) W3 hk3
        exact ⟨_, W4, h1, .inr ⟨rfl, _, hIx _ _ _ _ hi3 h5, h2, h3⟩⟩
      | goto t => exact hp.elim
      | panic ch => exact hp.elim
      | outgrown => exact hp.elim
    | ret => exact hp.elim
    | exit id => exact hp.elim
    | goto t => exact hp.elim
    | panic ch => exact hp.elim
    | outgrown => exact hp.elim
  · rintro e W2 ⟨⟨v, rfl⟩, (⟨hi, hl, hk⟩ | ⟨j, j0, j1, c, hi, hl, hk⟩)⟩
    · have he := run_endLoop (P := P) hl (by rw [hR]; simp)
      refine ⟨none, _, by rw [he, hR], ?_⟩
      exact hdone D _ (by omega) (hI _ _ _ hi (put_below _ (by omega))) ((World.putObj_heap_other (by omega)).trans hk)
    · have he := run_endLoop (P := P) hl (by rw [hR]; simp)
      refine ⟨some c, _, by rw [he, hR], ?_⟩
      exact hstop D c j _ (by omega) j0 j1 (hIx _ _ _ _ hi (put_below _ (by omega))) ((World.putObj_heap_other (by omega)).trans hk)
end Go.Proofs.Ytkepbobnjplpoaa
