/- The contract of Done. -/
import Derived.Test.YtoclmeblbjpilaaBiS
import Derived.ArgAppend
namespace Go.Proofs.Ytoclmeblbjpilaa
open Go.RowKit
open Go.Tin
set_option linter.unusedVariables false
set_option linter.unusedSimpArgs false


/-- append(x, y...), x without room: a new row. -/
theorem full_run {P : Program} {s e : TypeId} {k : IntKind} {by_ : Nat} (bt : ST P s e k by_) (w : World) (ty : TypeId) (A : Option Addr) (l : List Int) (hs : Sl k w A l) (b : Addr) (c : Nat) (x : Int) (hb : w.cell? b = some (.int k x)) (hA : A = none → l = [])
    (hlen : (l.length + 1) * by_ ≤ 140737488355328) (hlen' : l.length + 1 ≤ 140737488355328) :
    ∃ g cap w', (Builtin.append_ #[s, s] ty #[.slice A l.length (if A = none then 0 else l.length), .slice (some b) 1 c]).run P w = .ok (.slice (some ⟨g, 0, none⟩) (l.length + 1) cap) w' ∧ Own k e w' w.heap.size (.slice (some ⟨g, 0, none⟩) (l.length + 1) cap) (l ++ [x]) ∧ w.grownBy w' none := by
  obtain ⟨i, hi, hz, hsz, hby⟩ := bt.info
  have form : ∀ (v' : Value) (w' : World), w'.ownsRow w.heap.size e 1 v' (l.length + 1) (l.map (Value.int k) ++ [.int k x]) → ∃ g cap, v' = Value.slice (some ⟨g, 0, none⟩) (l.length + 1) cap := by
    rintro v' w' ⟨_, h⟩
    rcases h with ⟨_, h⟩ | ⟨g, cap, _, h, _⟩
    · omega
    · exact ⟨g, cap, h⟩
  have hnews : ∀ j u, [Value.int k x][j]? = some u → w.cell? (b.add j) = some u := by
    intro j u hj
    cases j with
    | zero => simp at hj; subst hj; simpa [Addr.add] using hb
    | succ j => simp at hj
  rcases A with _ | ad
  · have hn := hA rfl
    subst hn
    obtain ⟨v', w', h1, h2, h3, -, -⟩ := run_append_own_at (P := P) w w.heap.size s ty e i (.int k 0) 1 by_ bt.us hi hz hsz hby rfl (by decide) (.slice none 0 0) 0 [] ⟨rfl, .inl ⟨rfl, rfl⟩⟩ b 1 c [.int k x] rfl hnews (by simp [Value.oneCell']) (by decide) (by simpa using hlen) (Nat.le_refl _)
    obtain ⟨g, cap, rfl⟩ := form v' w' (by simpa using h2)
    exact ⟨g, cap, w', by simpa using h1, by unfold Own; simpa using h2, h3⟩
  · have hcells : ∀ j u, (l.map (Value.int k))[j]? = some u → w.cell? (ad.add j) = some u := by
      intro j u hj
      rcases hs with h | ⟨b', off, h, _, hc⟩
      · subst h; simp at hj
      · injection h with h
        subst h
        rw [List.getElem?_map] at hj
        obtain ⟨z, hz', rfl⟩ := Option.map_eq_some_iff.1 hj
        have hjl : j < l.length := (List.getElem?_eq_some_iff.1 hz').1
        rw [add_none, hc j hjl, List.getD_eq_getElem?_getD, hz']
        rfl
    obtain ⟨v', w', h1, h2, h3⟩ := run_append_arg_grows (P := P) w s ty e i (.int k 0) 1 by_ bt.us hi hz hsz hby rfl (by decide) ad l.length l.length (l.map (Value.int k)) (by simp) hcells b 1 c [.int k x] rfl hnews (by omega) (by unfold maxLen; omega) hlen
    obtain ⟨g, cap, rfl⟩ := form v' w' h2
    refine ⟨g, cap, w', by simpa using h1, ?_, h3⟩
    unfold Own
    rw [List.length_append, List.map_append]
    exact h2
theorem step_full {P : Program} {s e : TypeId} {k : IntKind} {by_ : Nat} (bt : ST P s e k by_) {ops : Array Oper} {o : Oper} {a : Act} {K : Act → World → Prop} {Q : Exit → Act → World → Prop} {E : Prop} (w : World) (hgd : o.guard = none) (x y : Operand)
    (ho : o.op = .call { callee := .builtin .append, args := #[x, y], argTypes := #[s, s] }) (A : Option Addr) (m cc : Nat) (l : List Int) (n : Int) (hx : a.eval x = .slice A m cc) (hm : m = l.length) (hcc : cc = if A = none then 0 else l.length) (hs : Sl k w A l) (hA : A = none → l = [])
    (b : Nat) (hy : a.eval y = .slice (some ⟨b, 0, none⟩) 1 1) (hb : w.cell? ⟨b, 0, none⟩ = some (.int k n))
    (hlen : (m + 1) * by_ ≤ 140737488355328) (hlen' : m + 1 ≤ 140737488355328) (B : Nat) (hB : B ≤ w.heap.size)
    (h : ∀ g cap w', Own k e w' B (.slice (some ⟨g, 0, none⟩) (m + 1) cap) (l ++ [n]) → w.grownBy w' none → K (a.put o.dst (.slice (some ⟨g, 0, none⟩) (m + 1) cap)) w') :
    if Region.wanted o (yielded ops a.tmps) = true then Oper.wp P o a w K Q else E := by
  subst hm; subst hcc
  have hw : Region.wanted o (yielded ops a.tmps) = true := by simp [Region.wanted, hgd]
  rw [if_pos hw]
  obtain ⟨g, cap, w', h1, h2, h3⟩ := full_run bt w o.type A l hs ⟨b, 0, none⟩ 1 n hb hA hlen hlen'
  unfold Oper.wp execOp
  simp only [ho, resolve, invoke, builtin, Sem.run_bind, Sem.run_pure, Result.andThen_ok, List.map_toArray, List.map_cons, List.map_nil, hx, hy, h1]
  exact h g cap w' (h2.mono hB) h3

theorem clip_any (A : Option Addr) (n c : Nat) (w : World) (hc : n ≤ c) (hm : c ≤ maxLen) (hA : A = none → c = 0) :
    Calls Try.prog 25 #[.slice A n c] w fun e w' => e = .returned (.slice A n (if A = none then 0 else n)) ∧ w = w' := by
  rcases A with _ | ad
  · have hc0 := hA rfl
    subst hc0
    obtain rfl : n = 0 := by omega
    clear hA hc hm
    go_enter Try.func25, Try.ntmps25
    go_wp2_with fail
    go_ret
    exact ⟨rfl, rfl⟩
  · have i1 : (n : Int) ≤ (c : Int) := by omega
    unfold maxLen at hm
    clear hA
    go_enter Try.func25, Try.ntmps25
    go_wp2_with fail
    go_ret
    exact ⟨rfl, rfl⟩
end Go.Proofs.Ytoclmeblbjpilaa
