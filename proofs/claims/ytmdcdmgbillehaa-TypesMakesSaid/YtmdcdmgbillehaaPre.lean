/- Laws on the model that serve all seats: equality of two arrays of integers; what is kept below a block. No program in sight. -/
import Derived.WalkKit
import Derived.WalkLawsBesides
import Derived.Below
namespace Go.Tin
open Go.RowKit
set_option linter.unusedSimpArgs false
set_option linter.unusedVariables false

theorem bcell {W w1 : World} (hb : Below W.heap.size W w1) : (∀ b o, b < W.heap.size → w1.cell? ⟨b, o, none⟩ = W.cell? ⟨b, o, none⟩) ∧ (∀ b o, b < W.heap.size → w1.frozen? ⟨b, o, none⟩ = W.frozen? ⟨b, o, none⟩) :=
  ⟨fun b o h => hb.cell (p := ⟨b, o, none⟩) h, fun b o h => hb.frozen (p := ⟨b, o, none⟩) h⟩

/-- The number at a place (a word of its own: simp does not look behind it). -/
def nth (l : List Int) (j : Nat) : Int := l.getD j 0
theorem ret_int {k : IntKind} {a b : Int} (h : a = b) : Ending.returned (.int k a) = .returned (.int k b) := by rw [h]
theorem ret_bool {a b : Bool} (h : a = b) : Ending.returned (.bool a) = .returned (.bool b) := by rw [h]

theorem bt {w w1 w2 : World} (h1 : Below w.heap.size w w1) (h2 : Below w1.heap.size w1 w2) : Below w.heap.size w w2 := h1.trans (h2.mono h1.size)
theorem ba {w w1 : World} (h : Below w.heap.size w w1) (o : Obj) : Below w.heap.size w (w1.alloc o) := h.alloc h.size o
theorem brefl (w : World) : Below w.heap.size w w := Below.refl _ _

/-- What the walk is told of a slice of integers that came in: it is nil; or it leads to a row of 'cap' cells, the numbers 'zs' (the first 'len' are its elements, the rest its spare room), each fitting its kind. -/
def IsRow (k : IntKind) (w : World) (a : Option Addr) (len cap : Nat) (zs : List Int) : Prop :=
  (a = none ∧ len = 0 ∧ cap = 0 ∧ zs = []) ∨
  ∃ x, a = some x ∧ len ≤ cap ∧ cap ≤ maxLen ∧ zs.length = cap ∧ (∀ i, i < zs.length → w.cell? (x.add i) = some (.int k (zs.getD i 0))) ∧ ∀ n ∈ zs, (Lit.int k n).wf = true

section
variable {P : Program} (w : World)
theorem run_part_ints (e : TypeId) (k : IntKind) (he : P.underlying e = some (.int k)) (xs : List Int) (i : Nat) (hi : i < xs.length) :
    (part e (xs.map (Value.int k)).toArray i).run P w = .ok (.int k xs[i]) w := by
  simp [part, isAgg, run_underlying he, hi]

theorem run_forIn_eq (f : Nat → Option Bool × PUnit → Sem (ForInStep (Option Bool × PUnit))) (xs ys : List Int) :
    ∀ (m i : Nat), i + m ≤ xs.length → i + m ≤ ys.length →
    (∀ j (hx : j < xs.length) (hy : j < ys.length), (f j (none, PUnit.unit)).run P w = .ok (if xs[j] = ys[j] then .yield (none, PUnit.unit) else .done (some false, PUnit.unit)) w) →
    (forIn (List.range' i m) (none, PUnit.unit) f).run P w = .ok (if (xs.drop i).take m = (ys.drop i).take m then (none, PUnit.unit) else (some false, PUnit.unit)) w := by
  intro m
  induction m with
  | zero => intro i _ _ _; simp [Sem.run_pure]
  | succ m ih =>
    intro i hx hy hf
    have hxi : i < xs.length := by omega
    have hyi : i < ys.length := by omega
    rw [List.range'_succ, List.forIn_cons, Sem.run_bind, hf i hxi hyi]
    rw [List.drop_eq_getElem_cons hxi, List.drop_eq_getElem_cons hyi, List.take_succ_cons, List.take_succ_cons]
    by_cases h : xs[i] = ys[i]
    · rw [if_pos h]
      simp only [Result.andThen_ok]
      rw [ih (i + 1) (by omega) (by omega) hf]
      simp [h]
    · rw [if_neg h, if_neg (by simp [h])]
      simp [Sem.run_pure]

theorem run_eql_ints (d : Nat) (t e : TypeId) (i : TypeInfo) (k : IntKind) (n : Nat) (ht : P.underlying t = some (.array n e)) (he : P.underlying e = some (.int k)) (hi : P.info? e = some i) (hsz : i.size = 1)
    (xs ys : List Int) (hx : xs.length = n) (hy : ys.length = n) :
    (Op.equalIn (d + 2) t (.agg (xs.map (Value.int k)).toArray) (.agg (ys.map (Value.int k)).toArray)).run P w = .ok (decide (xs = ys)) w := by
  unfold Op.equalIn
  simp only [Sem.run_bind, run_underlying ht, Result.andThen_ok]
  have hs : (sizeOf e).run P w = .ok 1 w := by simp [sizeOf, typeInfo, hi, hsz]
  rw [hs]
  simp only [Result.andThen_ok, Nat.mul_one, Std.Legacy.Range.forIn_eq_forIn_range', Std.Legacy.Range.size, Nat.sub_zero, Nat.div_one, Nat.add_one_sub_one]
  rw [run_forIn_eq (P := P) w _ xs ys n 0 (by omega) (by omega) ?_]
  · subst hx
    have e1 : List.take xs.length (List.drop 0 xs) = xs := by simp
    have e2 : List.take xs.length (List.drop 0 ys) = ys := by rw [List.drop_zero, ← hy, List.take_length]
    rw [e1, e2]
    by_cases h : xs = ys
    · subst h; simp [Sem.run_pure]
    · simp [h, Sem.run_pure]
  · intro j hxj hyj
    simp only [Sem.run_bind, run_part_ints w e k he xs j hxj, run_part_ints w e k he ys j hyj, Result.andThen_ok, run_equalIn_int w d e k k _ _ he, Sem.run_ite, Sem.run_pure]
    by_cases h : xs[j] = ys[j]
    · simp [h]
    · simp [h]
end
theorem min64 : IntKind.i64.min = -9223372036854775808 := by kernel_rfl
theorem max64 : IntKind.i64.max = 9223372036854775807 := by kernel_rfl
theorem wf64 {n : Int} (wf : (Lit.int .i64 n).wf = true) : -9223372036854775808 ≤ n ∧ n ≤ 9223372036854775807 := by
  change (decide (IntKind.i64.min ≤ n) && decide (n ≤ IntKind.i64.max)) = true at wf
  rw [min64, max64, Bool.and_eq_true] at wf
  exact ⟨of_decide_eq_true wf.1, of_decide_eq_true wf.2⟩
theorem wrap_i64 (n : Int) : IntKind.i64.wrap n = if n % 18446744073709551616 ≥ 9223372036854775808 then n % 18446744073709551616 - 18446744073709551616 else n % 18446744073709551616 := by
  show (if (true && decide (n % 18446744073709551616 ≥ 9223372036854775808)) = true then _ else _) = _
  simp only [Bool.true_and, decide_eq_true_eq]
  rfl
end Go.Tin
