/- Words for one element put behind a row of the call's own. No program in sight. -/
import Derived.Test.YtmdcdmgbillehaaOws
namespace Go.Tin
open Go.RowKit
set_option linter.unusedSimpArgs false
set_option linter.unusedVariables false

section
variable {P : Program} {s e : TypeId} {k : IntKind} {by_ : Nat} (bt : ST P s e k by_)
include bt
/-- out = append(out, n): the element's own row was made one step ahead. -/
theorem wpl_push {ops : Array Oper} {rest : List Oper} {o : Oper} {a : Act} {Q : Exit → Act → World → Prop} (w0 w : World) (n : Int) (hgd : o.guard = none) (x y : Operand)
    (ho : o.op = .call { callee := .builtin .append, args := #[x, y], argTypes := #[s, s] }) (B : Nat) (A : Option Addr) (m c : Nat) (l : List Int) (hs : a.eval x = .slice A m c) (hown : Own k e w B (.slice A m c) l)
    (hb : Below B w0 w) (hB : B ≤ w.heap.size) (hy : a.eval y = .slice (some ⟨w.heap.size, 0, none⟩) 1 1)
    (hlen : (l.length + 1) * by_ ≤ 140737488355328) (hlen' : l.length + 1 ≤ 140737488355328)
    (h : ∀ A' c' w', Own k e w' B (.slice A' (m + 1) c') (l ++ [n]) → Below B w0 w' → B ≤ w'.heap.size → w.grownBy w' (Value.slice A m c).ownBlock → ((Value.slice A' (m + 1) c').ownBlock = (Value.slice A m c).ownBlock ∨ ∃ g, (Value.slice A' (m + 1) c').ownBlock = some g ∧ w.heap.size ≤ g) → wpList P ops Q rest (a.put o.dst (.slice A' (m + 1) c')) w') :
    wpList P ops Q (o :: rest) a (w.alloc (.cells #[.int k n] e)) := by
  have hm : m = l.length := hown.sl'.1
  subst hm
  have hg0 : w.grownBy (w.alloc (.cells #[.int k n] e)) (Value.slice A l.length c).ownBlock := World.grownBy_alloc w _ _
  refine wpl_app bt _ hgd x y ho B _ l hs (hown.alloc _) (some ⟨w.heap.size, 0, none⟩) 1 1 [n] hy (Sl.new_ w _ _ _ rfl) rfl hlen hlen' (by simp; omega) fun v' w' h1 h2 h3 => ?_
  obtain ⟨A', c', rfl⟩ := own_form h1
  have e1 : (l ++ [n]).length = l.length + 1 := by simp
  rw [e1] at h1 h3 ⊢
  have hg : w.grownBy w' (Value.slice A l.length c).ownBlock := hg0.trans h2
  refine h A' c' w' h1 (hown.grown hb hB hg) (Nat.le_trans hB hg.size) hg ?_
  rcases h3 with h3 | h3
  · exact .inl h3
  · exact .inr ⟨_, h3, by simp⟩
end
end Go.Tin
