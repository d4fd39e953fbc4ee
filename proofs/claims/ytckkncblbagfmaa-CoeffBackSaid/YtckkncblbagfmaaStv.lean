/- The word of Owv (push) for a region that draws its order (go_region_law). No program in sight. -/
import Derived.Test.YtckkncblbagfmaaOwv
import Derived.Deep.AppendLies
namespace Go.Tin
open Go.RowKit
set_option linter.unusedSimpArgs false
set_option linter.unusedVariables false
section
variable {P : Program} {s e : TypeId} {sz by_ : Nat} (bt : SV P s e sz by_)
include bt
/-- out = append(out, x), in a region that draws: the element's own row lies in w. Give the values outright. -/
theorem step_pushv {ops : Array Oper} {o : Oper} {a : Act} {K : Act → World → Prop} {Q : Exit → Act → World → Prop} {E : Prop} (w : World) (hgd : o.guard = none) (x y : Operand)
    (ho : o.op = .call { callee := .builtin .append, args := #[x, y], argTypes := #[s, s] }) (B : Nat) (A : Option Addr) (m c : Nat) (xs cs : List Value) (hs : a.eval x = .slice A m c) (hown : OwnV e sz w B (.slice A m c) m xs)
    (b : Nat) (hy : a.eval y = .slice (some ⟨b, 0, none⟩) 1 1) (hb : w.rangeAt b 0 cs) (hcs : cs.length = sz) (h1 : ∀ u ∈ cs, u.oneCell' = true) (hB : B ≤ w.heap.size)
    (hlen : (m + 1) * by_ ≤ 140737488355328) (hlen' : m + 1 ≤ 140737488355328)
    (h : ∀ g cap w', OwnV e sz w' B (.slice (some ⟨g, 0, none⟩) (m + 1) cap) (m + 1) (xs ++ cs) → w.grownBy w' (Value.slice A m c).ownBlock → ((Value.slice A m c).ownBlock = some g ∨ g = w.heap.size) → g < w'.heap.size → K (a.put o.dst (.slice (some ⟨g, 0, none⟩) (m + 1) cap)) w') :
    if Region.wanted o (yielded ops a.tmps) = true then Oper.wp P o a w K Q else E := by
  obtain ⟨i, z, hi, hz, hzs, hsz, hby⟩ := bt.info
  refine step_append_lies w hgd x y s ho B e i z sz by_ bt.us hi hz hsz hby hzs bt.pos (.slice A m c) m xs hs hown ⟨b, 0, none⟩ 1 1 cs hy (by simpa using hcs) ?_ h1 (by decide) (by unfold maxLen; omega) hlen hB w.heap.size rfl h
  intro j u hj
  have := hb j u hj
  simpa [add_none] using this
end
theorem rng_alloc {w : World} {e : TypeId} (cs : List Value) : (w.alloc (.cells cs.toArray e)).rangeAt w.heap.size 0 cs := by
  intro j v hj
  rw [Nat.zero_add, World.cell?_alloc_new]
  simpa using hj
theorem rng_drew {w : World} {b o : Nat} {cs : List Value} (h : w.rangeAt b o cs) : w.drew.rangeAt b o cs := h
end Go.Tin
