/- The word of Psh for a region that draws its order (go_region_law). No program in sight. -/
import Derived.Test.YtoclmeblbjpilaaPsh
import Derived.Deep.AppendLies
namespace Go.Tin
open Go.RowKit
set_option linter.unusedSimpArgs false
set_option linter.unusedVariables false

section
variable {P : Program} {s e : TypeId} {k : IntKind} {by_ : Nat} (bt : ST P s e k by_)
include bt
/-- out = append(out, n), in a region that draws: the element's own row lies in w. -/
theorem step_push {ops : Array Oper} {o : Oper} {a : Act} {K : Act → World → Prop} {Q : Exit → Act → World → Prop} {E : Prop} (w : World) (hgd : o.guard = none) (x y : Operand)
    (ho : o.op = .call { callee := .builtin .append, args := #[x, y], argTypes := #[s, s] }) (B : Nat) (A : Option Addr) (m c : Nat) (l : List Int) (n : Int) (hs : a.eval x = .slice A m c) (hown : Own k e w B (.slice A m c) l)
    (b : Nat) (hy : a.eval y = .slice (some ⟨b, 0, none⟩) 1 1) (hb : w.cell? ⟨b, 0, none⟩ = some (.int k n)) (hB : B ≤ w.heap.size)
    (hlen : (m + 1) * by_ ≤ 140737488355328) (hlen' : m + 1 ≤ 140737488355328)
    (h : ∀ g cap w', Own k e w' B (.slice (some ⟨g, 0, none⟩) (m + 1) cap) (l ++ [n]) → w.grownBy w' (Value.slice A m c).ownBlock → ((Value.slice A m c).ownBlock = some g ∨ g = w.heap.size) → g < w'.heap.size → K (a.put o.dst (.slice (some ⟨g, 0, none⟩) (m + 1) cap)) w') :
    if Region.wanted o (yielded ops a.tmps) = true then Oper.wp P o a w K Q else E := by
  obtain ⟨i, hi, hz, hsz, hby⟩ := bt.info
  have hm : m = l.length := hown.sl'.1
  subst hm
  refine step_append_lies w hgd x y s ho B e i (.int k 0) 1 by_ bt.us hi hz hsz hby rfl (by decide) (.slice A l.length c) l.length (l.map (Value.int k)) hs hown ⟨b, 0, none⟩ 1 1 [.int k n] hy rfl ?_ (by simp [Value.oneCell']) (by decide) (by unfold maxLen; omega) hlen hB w.heap.size rfl ?_
  · intro j u hj
    cases j with
    | zero => simp at hj; subst hj; simpa [add_none] using hb
    | succ j => simp at hj
  · intro g cap w' h1 h2 h3 h4
    refine h g cap w' ?_ h2 h3 h4
    unfold Own
    rw [List.length_append, List.map_append]
    exact h1
end
end Go.Tin
