/- Texts put together: Pre, Byt, Reg, Arr, Arq, Opn, Res, Rek, Ost, Ows, Rwq, Psh, Stp, Shp, Flt, Eqs, Owv, Frm, Stv, Apz, Apm, Cut, Shz. -/
import Derived.WalkKit
import Derived.WalkLawsBesides
import Derived.Below
import Derived.Maps.AppendAt
import Derived.WalkSpells
import Derived.OwnWalk
import Derived.Lib.SliceRun
import Derived.OrdersHeld
import Derived.Deep.RegionHeld3
import Derived.Deep.QuietTactic
import Derived.BigQuiet
import Derived.Deep.MidRow
import Derived.OpenShut
import Derived.WideShapes
import Derived.Laws.AppendOwn
import Derived.ChangeSlices
import Derived.Laws.CopyOwn
import Derived.Laws.OwnMore
import Derived.Deep.AppendLies
import Derived.Deep.Slices
import Derived.Lib.Hide
import Derived.Laws.Append
import Derived.Lib.ConvBytes
import Derived.SizedLaws
/- Laws on the model that serve all seats: equality of two arrays of integers; what is kept below a block. No program in sight. -/
namespace Go.Tin
open Go.RowKit
set_option linter.unusedSimpArgs false
set_option linter.unusedVariables false

theorem bcell {W w1 : World} (hb : Below W.heap.size W w1) : (∀ b o, b < W.heap.size → w1.cell? ⟨b, o, none⟩ = W.cell? ⟨b, o, none⟩) ∧ (∀ b o, b < W.heap.size → w1.frozen? ⟨b, o, none⟩ = W.frozen? ⟨b, o, none⟩) :=
  ⟨fun b o h => hb.cell (p := ⟨b, o, none⟩) h, fun b o h => hb.frozen (p := ⟨b, o, none⟩) h⟩

/-- The number at a place (a word of its own: simp does not look behind it). -/
def nth (l : List Int) (j : Nat) : Int := l.getD j 0
theorem ret_int {k : IntKind} {a b : Int} (h : a = b) : Ending.returned (.int k a) = .returned (.int k b) := by rw [h]
theorem ret_bool {a b : Bool} (h : a = b) : Ending.returned (.bool a) = .returned (.bool b) := by rw [h]

theorem bt {w w1 w2 : World} (h1 : Below w.heap.size w w1) (h2 : Below w1.heap.size w1 w2) : Below w.heap.size w w2 := h1.trans (h2.mono h1.size)
theorem ba {w w1 : World} (h : Below w.heap.size w w1) (o : Obj) : Below w.heap.size w (w1.alloc o) := h.alloc h.size o
theorem brefl (w : World) : Below w.heap.size w w := Below.refl _ _

/-- What the walk is told of a slice of integers that came in: it is nil; or it leads to a row of 'cap' cells, the numbers 'zs' (the first 'len' are its elements, the rest its spare room), each fitting its kind. -/
def IsRow (k : IntKind) (w : World) (a : Option Addr) (len cap : Nat) (zs : List Int) : Prop :=
  (a = none ∧ len = 0 ∧ cap = 0 ∧ zs = []) ∨
  ∃ x, a = some x ∧ len ≤ cap ∧ cap ≤ maxLen ∧ zs.length = cap ∧ (∀ i, i < zs.length → w.cell? (x.add i) = some (.int k (zs.getD i 0))) ∧ ∀ n ∈ zs, (Lit.int k n).wf = true

section
variable {P : Program} (w : World)
theorem run_part_ints (e : TypeId) (k : IntKind) (he : P.underlying e = some (.int k)) (xs : List Int) (i : Nat) (hi : i < xs.length) :
    (part e (xs.map (Value.int k)).toArray i).run P w = .ok (.int k xs[i]) w := by
  simp [part, isAgg, run_underlying he, hi]

theorem run_forIn_eq (f : Nat → Option Bool × PUnit → Sem (ForInStep (Option Bool × PUnit))) (xs ys : List Int) :
    ∀ (m i : Nat), i + m ≤ xs.length → i + m ≤ ys.length →
    (∀ j (hx : j < xs.length) (hy : j < ys.length), (f j (none, PUnit.unit)).run P w = .ok (if xs[j] = ys[j] then .yield (none, PUnit.unit) else .done (some false, PUnit.unit)) w) →
    (forIn (List.range' i m) (none, PUnit.unit) f).run P w = .ok (if (xs.drop i).take m = (ys.drop i).take m then (none, PUnit.unit) else (some false, PUnit.unit)) w := by
  intro m
  induction m with
  | zero => intro i _ _ _; simp [Sem.run_pure]
  | succ m ih =>
    intro i hx hy hf
    have hxi : i < xs.length := by omega
    have hyi : i < ys.length := by omega
    rw [List.range'_succ, List.forIn_cons, Sem.run_bind, hf i hxi hyi]
    rw [List.drop_eq_getElem_cons hxi, List.drop_eq_getElem_cons hyi, List.take_succ_cons, List.take_succ_cons]
    by_cases h : xs[i] = ys[i]
    · rw [if_pos h]
      simp only [Result.andThen_ok]
      rw [ih (i + 1) (by omega) (by omega) hf]
      simp [h]
    · rw [if_neg h, if_neg (by simp [h])]
      simp [Sem.run_pure]

theorem run_eql_ints (d : Nat) (t e : TypeId) (i : TypeInfo) (k : IntKind) (n : Nat) (ht : P.underlying t = some (.array n e)) (he : P.underlying e = some (.int k)) (hi : P.info? e = some i) (hsz : i.size = 1)
    (xs ys : List Int) (hx : xs.length = n) (hy : ys.length = n) :
    (Op.equalIn (d + 2) t (.agg (xs.map (Value.int k)).toArray) (.agg (ys.map (Value.int k)).toArray)).run P w = .ok (decide (xs = ys)) w := by
  unfold Op.equalIn
  simp only [Sem.run_bind, run_underlying ht, Result.andThen_ok]
  have hs : (sizeOf e).run P w = .ok 1 w := by simp [sizeOf, typeInfo, hi, hsz]
  rw [hs]
  simp only [Result.andThen_ok, Nat.mul_one, Std.Legacy.Range.forIn_eq_forIn_range', Std.Legacy.Range.size, Nat.sub_zero, Nat.div_one, Nat.add_one_sub_one]
  rw [run_forIn_eq (P := P) w _ xs ys n 0 (by omega) (by omega) ?_]
  · subst hx
    have e1 : List.take xs.length (List.drop 0 xs) = xs := by simp
    have e2 : List.take xs.length (List.drop 0 ys) = ys := by rw [List.drop_zero, ← hy, List.take_length]
    rw [e1, e2]
    by_cases h : xs = ys
    · subst h; simp [Sem.run_pure]
    · simp [h, Sem.run_pure]
  · intro j hxj hyj
    simp only [Sem.run_bind, run_part_ints w e k he xs j hxj, run_part_ints w e k he ys j hyj, Result.andThen_ok, run_equalIn_int w d e k k _ _ he, Sem.run_ite, Sem.run_pure]
    by_cases h : xs[j] = ys[j]
    · simp [h]
    · simp [h]
end
theorem min64 : IntKind.i64.min = -9223372036854775808 := by kernel_rfl
theorem max64 : IntKind.i64.max = 9223372036854775807 := by kernel_rfl
theorem wf64 {n : Int} (wf : (Lit.int .i64 n).wf = true) : -9223372036854775808 ≤ n ∧ n ≤ 9223372036854775807 := by
  change (decide (IntKind.i64.min ≤ n) && decide (n ≤ IntKind.i64.max)) = true at wf
  rw [min64, max64, Bool.and_eq_true] at wf
  exact ⟨of_decide_eq_true wf.1, of_decide_eq_true wf.2⟩
theorem wrap_i64 (n : Int) : IntKind.i64.wrap n = if n % 18446744073709551616 ≥ 9223372036854775808 then n % 18446744073709551616 - 18446744073709551616 else n % 18446744073709551616 := by
  show (if (true && decide (n % 18446744073709551616 ≥ 9223372036854775808)) = true then _ else _) = _
  simp only [Bool.true_and, decide_eq_true_eq]
  rfl
end Go.Tin
/- Words for slices of integers: what a slice reads as, a row of the call's own, append, the text of bytes. No program in sight. -/
namespace Go.Tin
open Go.RowKit
set_option linter.unusedSimpArgs false
set_option linter.unusedVariables false

/-- Slice type s, of elements of type e, which are integers of kind k, so many bytes each. -/
structure ST (P : Program) (s e : TypeId) (k : IntKind) (by_ : Nat) : Prop where
  us : P.underlying s = some (.slice e)
  ue : P.underlying e = some (.int k)
  info : ∃ i, P.info? e = some i ∧ i.zero = some (.int k 0) ∧ i.size = 1 ∧ i.bytes = by_

theorem ST.of {P : Program} {s e : TypeId} {k : IntKind} {b : Nat} (us : P.underlying s = some (.slice e)) (ue : P.underlying e = some (.int k))
    (h : (P.info? e).map (fun i => (i.zero, i.size, i.bytes)) = some (some (.int k 0), 1, b)) : ST P s e k b := by
  obtain ⟨i, hi, h⟩ := Option.map_eq_some_iff.1 h
  simp only [Prod.mk.injEq] at h
  exact ⟨us, ue, i, hi, h.1, h.2.1, h.2.2⟩

/-- The slice at A reads as l. -/
def Sl (k : IntKind) (w : World) (A : Option Addr) (l : List Int) : Prop :=
  l = [] ∨ ∃ b off, A = some ⟨b, off, none⟩ ∧ b < w.heap.size ∧ ∀ i, i < l.length → w.cell? ⟨b, off + i, none⟩ = some (.int k (l.getD i 0))

section
variable {k : IntKind} {w w' : World} {A : Option Addr} {l : List Int} {B : Nat}
theorem Sl.nil_ : Sl k w A [] := .inl rfl
theorem Sl.keep (h : Sl k w A l) (hb : Below w.heap.size w w') : Sl k w' A l := by
  rcases h with h | ⟨b, off, hA, hlt, hc⟩
  · exact .inl h
  · exact .inr ⟨b, off, hA, Nat.lt_of_lt_of_le hlt hb.size, fun i hi => (hb.cell (p := ⟨b, off + i, none⟩) hlt).trans (hc i hi)⟩
theorem Sl.at_ (h : Sl k w A l) (hl : 0 < l.length) : ∃ b off, A = some ⟨b, off, none⟩ ∧ b < w.heap.size ∧ ∀ i, i < l.length → w.cell? ⟨b, off + i, none⟩ = some (.int k (l.getD i 0)) := by
  rcases h with h | h
  · subst h; simp at hl
  · exact h
theorem add_none (b off j : Nat) : (⟨b, off, none⟩ : Addr).add j = ⟨b, off + j, none⟩ := by
  unfold Addr.add; split <;> simp_all
theorem Sl.cut (h : Sl k w A l) (j : Nat) : Sl k w (A.map (·.add j)) (l.drop j) := by
  rcases h with h | ⟨b, off, hA, hlt, hc⟩
  · subst h; exact .inl (by simp)
  · subst hA
    refine .inr ⟨b, off + j, by simp [add_none], hlt, fun i hi => ?_⟩
    rw [List.length_drop] at hi
    rw [Nat.add_assoc, hc (j + i) (by omega)]
    simp [List.getD_eq_getElem?_getD]
theorem Sl.cut' (h : Sl k w A l) {c j : Nat} (hl : l.length ≤ c) : Sl k w (if c = j then A else A.map (·.add j)) (l.drop j) := by
  split
  · rename_i hj
    subst hj
    rw [List.drop_eq_nil_of_le hl]
    exact .inl rfl
  · exact h.cut j
theorem Sl.take (h : Sl k w A l) (j : Nat) : Sl k w A (l.take j) := by
  rcases h with h | ⟨b, off, hA, hlt, hc⟩
  · subst h; exact .inl (by simp)
  · refine .inr ⟨b, off, hA, hlt, fun i hi => ?_⟩
    rw [List.length_take] at hi
    rw [hc i (by omega)]
    simp [List.getD_eq_getElem?_getD, show i < j by omega]
theorem Sl.of_row {len cap : Nat} {zs : List Int} {a : Option Addr} (h : IsRow k w a len cap zs) :
    Sl k w a (zs.take len) ∧ (zs.take len).length = len ∧ len ≤ cap ∧ cap ≤ maxLen ∧ ∀ n ∈ zs.take len, (Lit.int k n).wf = true := by
  rcases h with ⟨rfl, rfl, rfl, rfl⟩ | ⟨x, rfl, hl, hm, hz, hcell, hwz⟩
  · exact ⟨.inl (by simp), by simp, Nat.le_refl _, by decide, by simp⟩
  · refine ⟨?_, by rw [List.length_take]; omega, hl, hm, fun n hn => hwz n (List.mem_of_mem_take hn)⟩
    by_cases h0 : cap = 0
    · subst h0
      exact .inl (by rw [List.eq_nil_of_length_eq_zero hz]; simp)
    · have hspot : x.spot = none := by
        have hc := hcell 0 (by omega)
        have := World.cell?_spot hc
        simpa [Addr.add] using this
      obtain ⟨b, off, spot⟩ := x
      have hs : spot = none := hspot
      subst hs
      have hlt : b < w.heap.size := by
        have hc := hcell 0 (by omega)
        have := World.block_lt_of_cell? w _ hc
        simpa [Addr.add] using this
      refine .inr ⟨b, off, rfl, hlt, fun i hi => ?_⟩
      rw [List.length_take] at hi
      have hc := hcell i (by omega)
      rw [add_none] at hc
      rw [hc]
      simp [List.getD_eq_getElem?_getD, show i < len by omega]

/-- v is a slice over a row of the call's own, in a block from B on, which reads as l. -/
def Own (k : IntKind) (e : TypeId) (w : World) (B : Nat) (v : Value) (l : List Int) : Prop := w.ownsRow B e 1 v l.length (l.map (Value.int k))

variable {e : TypeId} {v : Value}
theorem Own.sl (h : Own k e w B v l) : ∃ A c, v = .slice A l.length c ∧ Sl k w A l ∧ l.length ≤ c ∧ c ≤ maxLen ∧ ((A = none ∧ c = 0) ∨ ∃ g, A = some ⟨g, 0, none⟩ ∧ B ≤ g ∧ g < w.heap.size) := by
  obtain ⟨h1, h2⟩ := h
  rcases h2 with ⟨rfl, hn⟩ | ⟨g, cap, cur, rfl, hBg, hh, hnc, hcm, hcs, hx⟩
  · have : l = [] := List.eq_nil_of_length_eq_zero hn
    subst this
    exact ⟨none, 0, rfl, .inl rfl, Nat.le_refl _, by decide, .inl ⟨rfl, rfl⟩⟩
  · have hlt : g < w.heap.size := by
      rcases Nat.lt_or_ge g w.heap.size with h | h
      · exact h
      · rw [Array.getElem?_eq_none h] at hh; cases hh
    refine ⟨some ⟨g, 0, none⟩, cap, rfl, .inr ⟨g, 0, rfl, hlt, fun i hi => ?_⟩, hnc, hcm, .inr ⟨g, rfl, hBg, hlt⟩⟩
    have h3 := World.ownsRow.cells (w := w) (base := B) (e := e) (size := 1) (v := .slice (some ⟨g, 0, none⟩) l.length cap) (n := l.length) (xs := l.map (Value.int k)) ⟨h1, .inr ⟨g, cap, cur, rfl, hBg, hh, hnc, hcm, hcs, hx⟩⟩ (g := g) rfl i (.int k (l.getD i 0))
      (by rw [List.getElem?_map, List.getElem?_eq_getElem hi]; simp [List.getD_eq_getElem?_getD, hi])
    rw [add_none] at h3
    exact h3
theorem Own.sl' {n c : Nat} (h : Own k e w B (.slice A n c) l) : n = l.length ∧ Sl k w A l := by
  obtain ⟨A', c', he, hs, _⟩ := h.sl
  injection he with hA hn _
  subst hA
  exact ⟨hn, hs⟩
theorem Own.keep (h : Own k e w B v l) (hb : Below w.heap.size w w') : Own k e w' B v l := by
  obtain ⟨h1, h2⟩ := h
  refine ⟨h1, ?_⟩
  rcases h2 with h2 | ⟨g, cap, cur, hv, hBg, hh, r⟩
  · exact .inl h2
  · refine .inr ⟨g, cap, cur, hv, hBg, ?_, r⟩
    have hlt : g < w.heap.size := by
      rcases Nat.lt_or_ge g w.heap.size with h | h
      · exact h
      · rw [Array.getElem?_eq_none h] at hh; cases hh
    rw [hb.block g hlt]; exact hh
theorem Own.nil_ (k : IntKind) (e : TypeId) (w : World) (B : Nat) : Own k e w B (.slice none 0 0) [] := ⟨rfl, .inl ⟨rfl, rfl⟩⟩
theorem Own.new0 (w : World) : Own k e (w.alloc (.cells #[] e)) w.heap.size (.slice (some ⟨w.heap.size, 0, none⟩) 0 0) [] :=
  ⟨rfl, .inr ⟨w.heap.size, 0, #[], rfl, Nat.le_refl _, heap_alloc_new w _, Nat.le_refl _, by decide, rfl, rfl⟩⟩
theorem Own.mono {B' : Nat} (h : Own k e w B v l) (hB : B' ≤ B) : Own k e w B' v l := by
  obtain ⟨h1, h2⟩ := h
  refine ⟨h1, ?_⟩
  rcases h2 with h2 | ⟨g, cap, cur, hv, hBg, r⟩
  · exact .inl h2
  · exact .inr ⟨g, cap, cur, hv, Nat.le_trans hB hBg, r⟩
theorem Own.grown {w0 : World} (h : Own k e w B v l) (hb : Below B w0 w) (hB : B ≤ w.heap.size) (hg : w.grownBy w' v.ownBlock) : Below B w0 w' :=
  hb.grown hg hB fun g hg => (World.ownsRow.lt h g hg).1
theorem Sl.new_ (w : World) (t : TypeId) (cs : Array Value) (news : List Int) (h : cs.toList = news.map (Value.int k)) : Sl k (w.alloc (.cells cs t)) (some ⟨w.heap.size, 0, none⟩) news := by
  refine .inr ⟨w.heap.size, 0, rfl, by simp, fun i hi => ?_⟩
  rw [World.cell?_alloc_new, ← Array.getElem?_toList, h]
  simp [List.getD_eq_getElem?_getD, hi]
theorem Own.alloc (h : Own k e w B v l) (o : Obj) : Own k e (w.alloc o) B v l := h.keep ((Below.refl _ _).alloc (Nat.le_refl _) o)
theorem Own.drew (h : Own k e w B v l) : Own k e w.drew B v l := h
theorem Own.drewN (h : Own k e w B v l) (n : Nat) : Own k e (w.drewN n) B v l := h
end

theorem grown_setCells (b : Nat) : ∀ (vs : List Value) (o : Nat) (w0 w : World), w0.grownBy w (some b) → w0.grownBy (w.setCells b o vs) (some b)
  | [], _, _, _, h => h
  | v :: vs, o, w0, w, h => grown_setCells b vs (o + 1) w0 (w.setCell ⟨b, o, none⟩ v)
      ⟨h.os, h.tape, h.output, by simpa [World.setCell] using h.size, fun i hi hne => (Below.heap_setCell w ⟨b, o, none⟩ v i (fun e => hne (by rw [e]))).trans (h.block i hi hne)⟩
theorem Own.kept {k : IntKind} {e : TypeId} {w w' : World} {B : Nat} {v : Value} {l : List Int} {row : Option Nat} (h : Own k e w B v l) (hg : w.grownBy w' row) (hne : v.ownBlock = none ∨ v.ownBlock ≠ row) : Own k e w' B v l :=
  World.ownsRow.kept h hg hne

/-- Two rows, the second one made behind the first: they lie apart. -/
theorem Own.apart {k k' : IntKind} {e e' : TypeId} {w w' : World} {B B' : Nat} {v v' : Value} {l l' : List Int} (h : Own k e w B v l) (h' : Own k' e' w' B' v' l') (hB : w.heap.size ≤ B') : v'.ownBlock = none ∨ v'.ownBlock ≠ v.ownBlock := by
  cases hv' : v'.ownBlock with
  | none => exact .inl rfl
  | some g' =>
    refine .inr fun he => ?_
    have h1 := (World.ownsRow.lt h g' he.symm).2
    have h2 := (World.ownsRow.lt h' g' hv').1
    omega
theorem Own.apart' {k k' : IntKind} {e e' : TypeId} {w w' : World} {B B' : Nat} {v v' : Value} {l l' : List Int} (h : Own k e w B v l) (h' : Own k' e' w' B' v' l') (hB : w.heap.size ≤ B') : v.ownBlock = none ∨ v.ownBlock ≠ v'.ownBlock := by
  cases hv : v.ownBlock with
  | none => exact .inl rfl
  | some g =>
    refine .inr fun he => ?_
    have h1 := (World.ownsRow.lt h g hv).2
    have h2 := (World.ownsRow.lt h' g he.symm).1
    omega

section
variable {P : Program} {s e : TypeId} {k : IntKind} {by_ : Nat} (bt : ST P s e k by_)
include bt

theorem app_run (w : World) (ty : TypeId) (B : Nat) (v : Value) (l : List Int) (hown : Own k e w B v l) (A : Option Addr) (c : Nat) (news : List Int) (hr : Sl k w A news) (m : Nat) (hm : m = news.length)
    (hlen : (l.length + news.length) * by_ ≤ 140737488355328) (hlen' : l.length + news.length ≤ 140737488355328) (hB : B ≤ w.heap.size) :
    ∃ v' w', (Builtin.append_ #[s, s] ty #[v, .slice A m c]).run P w = .ok v' w' ∧ Own k e w' B v' (l ++ news) ∧ w.grownBy w' v.ownBlock ∧ (v'.ownBlock = v.ownBlock ∨ v'.ownBlock = some w.heap.size) := by
  subst hm
  obtain ⟨i, hi, hz, hsz, hby⟩ := bt.info
  have fin : ∀ ad : Addr, A = some ad → (∀ j u, (news.map (Value.int k))[j]? = some u → w.cell? (ad.add j) = some u) →
      ∃ v' w', (Builtin.append_ #[s, s] ty #[v, .slice A news.length c]).run P w = .ok v' w' ∧ Own k e w' B v' (l ++ news) ∧ w.grownBy w' v.ownBlock ∧ (v'.ownBlock = v.ownBlock ∨ v'.ownBlock = some w.heap.size) := by
    rintro ad rfl hnews
    obtain ⟨v', w', h1, h2, h3, _, h5⟩ := run_append_own_at (P := P) w B s ty e i (.int k 0) 1 by_ bt.us hi hz hsz hby rfl (by decide) v l.length (l.map (Value.int k)) hown ad news.length c (news.map (Value.int k)) (by simp)
      hnews (by simp [Value.oneCell']) (by unfold maxLen; omega) hlen hB
    refine ⟨v', w', h1, ?_, h3, h5⟩
    unfold Own
    rw [List.length_append, List.map_append]
    exact h2
  rcases A with _ | ad
  · have hn : news = [] := by
      rcases hr with h | ⟨b, off, h, _⟩
      · exact h
      · cases h
    subst hn
    refine ⟨v, w, ?_, by simpa using hown, World.grownBy.refl w _, .inl rfl⟩
    rcases hown.2 with ⟨rfl, h0⟩ | ⟨g, cap, cur, rfl, _, _, hnc, _⟩
    · have hl : l = [] := List.eq_nil_of_length_eq_zero h0
      subst hl
      simp [Builtin.append_, run_underlying bt.us, sizeOf, typeInfo, hi, Builtin.lenOf, Builtin.firstCells]
    · simp [Builtin.append_, run_underlying bt.us, sizeOf, typeInfo, hi, Builtin.lenOf, Builtin.firstCells, hnc, storeCells]
  · refine fin ad rfl fun j u hj => ?_
    rcases hr with h | ⟨b, off, h, _, hc⟩
    · subst h; simp at hj
    · injection h with h
      subst h
      rw [List.getElem?_map] at hj
      obtain ⟨x, hx, rfl⟩ := Option.map_eq_some_iff.1 hj
      have hjl : j < news.length := (List.getElem?_eq_some_iff.1 hx).1
      rw [add_none, hc j hjl, List.getD_eq_getElem?_getD, hx]
      rfl

/-- append(x, y...), x a row of the call's own. -/
theorem wpl_app {ops : Array Oper} {rest : List Oper} {o : Oper} {a : Act} {Q : Exit → Act → World → Prop} (w : World) (hgd : o.guard = none) (x y : Operand)
    (ho : o.op = .call { callee := .builtin .append, args := #[x, y], argTypes := #[s, s] }) (B : Nat) (v : Value) (l : List Int) (hs : a.eval x = v) (hown : Own k e w B v l)
    (A : Option Addr) (m c : Nat) (news : List Int) (hx : a.eval y = .slice A m c) (hr : Sl k w A news) (hm : m = news.length)
    (hlen : (l.length + news.length) * by_ ≤ 140737488355328) (hlen' : l.length + news.length ≤ 140737488355328) (hB : B ≤ w.heap.size)
    (h : ∀ v' w', Own k e w' B v' (l ++ news) → w.grownBy w' v.ownBlock → (v'.ownBlock = v.ownBlock ∨ v'.ownBlock = some w.heap.size) → wpList P ops Q rest (a.put o.dst v') w') : wpList P ops Q (o :: rest) a w := by
  refine wpList_plain hgd fun K hK => ?_
  obtain ⟨v', w', hrun, h2, h3, h4⟩ := app_run bt w o.type B v l hown A c news hr m hm hlen hlen' hB
  unfold Oper.wp execOp
  simp only [ho, resolve, invoke, builtin, Sem.run_bind, Sem.run_pure, Result.andThen_ok, List.map_toArray, List.map_cons, List.map_nil, hs, hx, hrun]
  exact hK _ _ (h v' w' h2 h3 h4)
theorem clear_run (hzv : ∀ w, (zeroValue e).run P w = .ok (.int k 0) w) (w : World) (ty : TypeId) (B : Nat) (v : Value) (l : List Int) (hown : Own k e w B v l) :
    ∃ w', (Builtin.clear_ #[s] ty #[v]).run P w = .ok (.tuple #[]) w' ∧ w.grownBy w' v.ownBlock := by
  obtain ⟨A, c, rfl, hsl, hc, hm, hA⟩ := hown.sl
  by_cases h0 : l.length = 0
  · refine ⟨w, ?_, World.grownBy.refl w _⟩
    rw [h0]
    cases A <;> simp [Builtin.clear_, run_underlying bt.us]
  · obtain ⟨b, off, rfl, hlt, hcell⟩ := hsl.at_ (by omega)
    rcases hA with ⟨h, _⟩ | ⟨g, h, hBg, hg⟩
    · cases h
    · simp only [Option.some.injEq, Addr.mk.injEq, and_true] at h
      obtain ⟨rfl, rfl⟩ := h
      refine ⟨_, Lib.run_clear_slice w s e ty (.int k 0) bt.us hzv rfl rfl b 0 l.length c (by omega) (fun j hj => by rw [hcell j hj]; rfl) (fun j hj => ?_), grown_setCells b _ _ _ _ (World.grownBy.refl w _)⟩
      exact World.ownsRow.frozenAt hown _

/-- clear(x), x a row of the call's own. -/
theorem wpl_clear (hzv : ∀ w, (zeroValue e).run P w = .ok (.int k 0) w) {ops : Array Oper} {rest : List Oper} {o : Oper} {a : Act} {Q : Exit → Act → World → Prop} (w : World) (hgd : o.guard = none) (x : Operand)
    (ho : o.op = .call { callee := .builtin .clear, args := #[x], argTypes := #[s] }) (B : Nat) (v : Value) (l : List Int) (hs : a.eval x = v) (hown : Own k e w B v l)
    (h : ∀ w', w.grownBy w' v.ownBlock → wpList P ops Q rest (a.put o.dst (.tuple #[])) w') : wpList P ops Q (o :: rest) a w := by
  refine wpList_plain hgd fun K hK => ?_
  obtain ⟨w', hrun, hb⟩ := clear_run bt hzv w o.type B v l hown
  unfold Oper.wp execOp
  simp only [ho, resolve, invoke, builtin, Sem.run_bind, Sem.run_pure, Result.andThen_ok, List.map_toArray, List.map_cons, List.map_nil, hs, hrun]
  exact hK _ _ (h w' hb)

/-- make([]T, 0, n). -/
theorem wpl_make0 {ops : Array Oper} {rest : List Oper} {o : Oper} {a : Act} {Q : Exit → Act → World → Prop} (w : World) (hgd : o.guard = none) (x y : Operand)
    (ho : o.op = Op.makeSlice s x y) (B : Nat) (kl kc : IntKind) (C : Int) (n : Nat) (hx : a.eval x = .int kl 0) (hy : a.eval y = .int kc C) (hC : C = (n : Int))
    (hb : by_ * n ≤ 281474976710656) (hn : n ≤ maxLen) (hB : B ≤ w.heap.size)
    (h : ∀ v' w', Own k e w' B v' [] → w.grownBy w' none → wpList P ops Q rest (a.put o.dst v') w') : wpList P ops Q (o :: rest) a w := by
  obtain ⟨i, hi, hz, hsz, hby⟩ := bt.info
  exact wpList_make_own w hgd x y s ho B e i (.int k 0) 1 bt.us hi hz hsz kl kc C n hx hy hC (by rw [hby]; exact hb) hn hB fun w' h1 h2 => h _ w' h1 h2
end

/-- The text of bytes. -/
def strOf (l : List Int) : ByteArray := l.foldl (fun r n => r.push (UInt8.ofNat n.toNat)) ByteArray.empty
theorem str_run {P : Program} {s e st : TypeId} (us : P.underlying s = some (.slice e)) (ue : P.underlying e = some (.int .u8)) (ust : P.underlying st = some .string) {w : World} {A : Option Addr} {l : List Int} (h : Sl .u8 w A l) (n c : Nat) (hn : n = l.length) :
    (convert s st (.slice A n c)).run P w = .ok (.string (strOf l)) w := by
  subst hn
  rw [run_convert_bytes_string w s st e A l.length c us ue ust]
  rcases A with _ | ad
  · have hn : l = [] := by
      rcases h with h | ⟨b, off, h, _⟩
      · exact h
      · cases h
    subst hn
    simp [Conv.bytesToString, strOf, Sem.run_pure]
  · refine run_bytesToString w ad l.length c l ?_
    have hl : l.length = (l.map (Value.int .u8)).length := by simp
    rw [hl]
    refine run_loadCells_list w ad _ fun j u hj => ?_
    rcases h with h | ⟨b, off, h, _, hc⟩
    · subst h; simp at hj
    · injection h with h
      subst h
      rw [List.getElem?_map] at hj
      obtain ⟨x, hx, rfl⟩ := Option.map_eq_some_iff.1 hj
      have hjl : j < l.length := (List.getElem?_eq_some_iff.1 hx).1
      rw [add_none, hc j hjl, List.getD_eq_getElem?_getD, hx]
      rfl
theorem str_bel {P : Program} {s e st : TypeId} (us : P.underlying s = some (.slice e)) (ue : P.underlying e = some (.int .u8)) (ust : P.underlying st = some .string) {w w' : World} {A : Option Addr} {l : List Int} (h : Sl .u8 w A l) (hb : Below w.heap.size w w') (n c : Nat) (hn : n = l.length) :
    (convert s st (.slice A n c)).run P w' = .ok (.string (strOf l)) w' := str_run us ue ust (h.keep hb) n c hn
end Go.Tin
/- A law for a region that asks for its order and holds calls or makes memory: the operations that only read are taken as soon as they are ready, the others in the order that is forced; behind each of the others a new class of worlds begins. No program in sight. -/
namespace Go.Tin
open Go.RowKit
set_option linter.unusedSimpArgs false
set_option linter.unusedVariables false

/-- Worlds that are as w below block B. -/
structure Bel (B : Nat) (w : World) where
  w' : World
  h : Below B w w'
instance (B : Nat) (w : World) : Inhabited (Bel B w) := ⟨⟨w, Below.refl _ _⟩⟩
/-- The class of these worlds. -/
def InBel (B : Nat) (w w' : World) : Prop := ∃ p : Bel B w, w' = p.w'
theorem inBel_iff {B : Nat} {w w' : World} : InBel B w w' ↔ Below B w w' := ⟨fun ⟨p, hp⟩ => hp ▸ p.h, fun h => ⟨⟨w', h⟩, rfl⟩⟩
theorem inBel_refl (B : Nat) (w : World) : InBel B w w := inBel_iff.2 (Below.refl _ _)
theorem inBel_trans {B : Nat} {w w1 w2 : World} (h : Below B w w1) (h' : InBel B w1 w2) : InBel B w w2 := inBel_iff.2 (h.trans (inBel_iff.1 h'))

theorem dl {B : Nat} {w x : World} (h : Below B w x) : Below B w.drew x := ⟨h.os, h.tape, h.output, h.size, h.block⟩

section
variable {P : Program}
theorem value_of {P : Program} (s : Sem Value) (w : World) (n : Next) (w' : World) (h : (do pure (Next.value (← s)) : Sem Next).run P w = .ok n w') : ∃ u, n = .value u := by
  rw [Sem.run_bind] at h
  generalize s.run P w = r at h
  cases r with
  | ok u w1 =>
    simp only [Result.andThen_ok, Sem.run_pure, Result.ok.injEq] at h
    exact ⟨u, h.1.symm⟩
  | halt x w1 => simp [Result.andThen] at h

/-- Operations that yield a value or panic: no call of a Go function, no store. -/
def valued (o : Oper) : Bool :=
  match o.op with
  | .nilCheck _ | .move _ | .assign _ | .build .. | .load .. | .binOp .. | .unOp .. | .convert .. | .makeFunc .. | .makeInterface .. | .slice .. | .fieldAddr .. | .field .. | .indexAddr .. | .index .. | .extract .. | .pick .. => true
  | .call c => match c.callee with
    | .builtin b => match b with
      | .len | .cap | .max | .min => true
      | _ => false
    | _ => false
  | _ => false

theorem valued_run {ρ : Operand → Value} {o : Oper} {w w' : World} {n : Next} (ho : valued o = true) (h : (execOp ρ o).run P w = .ok n w') : ∃ u, n = .value u := by
  obtain ⟨dst, op, ty, pos, after, guard⟩ := o
  cases op <;> simp only [valued, Bool.false_eq_true] at ho <;> simp only [execOp] at h <;> first
    | exact value_of _ _ _ _ h
    | (simp only [Sem.run_pure, Result.ok.injEq] at h; exact ⟨_, h.1.symm⟩)
    | skip
  case nilCheck x =>
    split at h
    · simp [go_sem] at h
    · simp [go_sem] at h
    · simp [go_sem] at h
    · split at h
      · simp [go_sem] at h
      · rw [Sem.run_bind] at h
        generalize (program : Sem Program).run P w = r at h
        cases r with
        | halt x w1 => simp [Result.andThen] at h
        | ok p w1 =>
          simp only [Result.andThen_ok] at h
          rw [Sem.run_bind] at h
          generalize Sem.run P (nilAhead _ _ _ _) w1 = r2 at h
          cases r2 with
          | halt x w2 => simp [Result.andThen] at h
          | ok q w2 =>
            simp only [Result.andThen_ok] at h
            split at h
            · rw [Sem.run_bind] at h
              generalize hu : Sem.run P (unsupported _) w2 = r3 at h
              cases r3 with
              | halt x w3 => simp [Result.andThen] at h
              | ok q w3 => simp only [Result.andThen_ok, Sem.run_pure, Result.ok.injEq] at h; exact ⟨_, h.1.symm⟩
            · simp only [Sem.run_pure, Result.ok.injEq] at h
              exact ⟨_, h.1.symm⟩
      · simp only [Sem.run_pure, Result.ok.injEq] at h
        exact ⟨_, h.1.symm⟩
    · simp only [Sem.run_pure, Result.ok.injEq] at h
      exact ⟨_, h.1.symm⟩
  case pick c x y =>
    rw [Sem.run_bind] at h
    generalize (asBool (ρ c)).run P w = r at h
    cases r with
    | ok u w1 =>
      simp only [Result.andThen_ok, Sem.run_pure, Result.ok.injEq] at h
      exact ⟨_, h.1.symm⟩
    | halt x w1 => simp [Result.andThen] at h
  case call c =>
    obtain ⟨callee, args, argTypes⟩ := c
    cases callee <;> simp only [Bool.false_eq_true] at ho
    case builtin b =>
      simp only [resolve, Sem.run_bind, Sem.run_pure, Result.andThen_ok, invoke] at h
      cases b <;> simp only [Bool.false_eq_true] at ho <;> simp only [builtin] at h <;> exact value_of _ _ _ _ h

variable {ops : Array Oper} {Q : Exit → Act → World → Prop} {md : Region.Mode}

/-- What a quiet step of such an operation says. -/
theorem yields_of_quiet {S : World → Prop} {o : Oper} {a : Act} {v : Value} (ho : valued o = true) (hw : Region.wanted o (yielded ops a.tmps) = true) (h : ∀ w, S w → o.quietAt P a S w v) : YieldsIf P ops S o v a := by
  refine .inl ⟨hw, fun w hS => ?_⟩
  have h1 := h w hS
  unfold Oper.quietAt at h1
  generalize hr : (execOp a.eval o).run P w = r at h1
  cases r with
  | ok n w' =>
    obtain ⟨u, rfl⟩ := valued_run ho hr
    simp only [Oper.quietUpon] at h1
    rw [h1.1, h1.2]
  | halt x w' => simp only [Oper.quietUpon] at h1

theorem held_mono {S S' : World → Prop} (hS : ∀ w, S w → S' w) : ∀ (fuel : Nat) (listed : Array Bool) (a : Act) (w : World), wpAnyH P md ops Q S fuel listed a w → wpAnyH P md ops Q S' fuel listed a w
  | 0, _, _, _, h => h
  | fuel + 1, _, _, _, h => ⟨h.1, fun i hi => wpOp_mono (fun a' w' h' => ⟨hS _ h'.1, held_mono hS fuel _ a' w' h'.2⟩) (h.2 i hi)⟩

/-- These have come up. -/
def listAll : List Nat → Array Bool → Array Bool
  | [], l => l
  | i :: is, l => listAll is (l.setIfInBounds i true)
/-- Each of these, in this order, is ready and free when its turn comes, and yields a value. -/
def quietsB (md : Region.Mode) (ops : Array Oper) : List Nat → Array Bool → Bool
  | [], _ => true
  | i :: is, l => (Region.ready md ops l).contains i && Region.free md ops l i && ((ops[i]?).map valued).getD false && quietsB md ops is (l.setIfInBounds i true)
/-- The operations of these numbers. -/
def pick (ops : Array Oper) (is : List Nat) : List Oper := is.map fun i => ops.getD i default

theorem held_quiets_aux {S : World → Prop} (hs : Region.noSelect ops = true) (hQ : ∀ c a d v w, Q (.panic c) (a.put d v) w → Q (.panic c) a w) {w : World} (hS : S w) (fuel : Nat) :
    ∀ (is : List Nat) (listed : Array Bool) (a : Act), quietsB md ops is listed = true →
      wpQuiet P ops S (fun a' => wpAnyH P md ops Q S fuel (listAll is listed) a' w) (pick ops is) a → wpAnyH P md ops Q S (fuel + is.length) listed a w
  | [], _, _, _, h => h
  | i :: is, listed, a, hb, h => by
    simp only [quietsB, Bool.and_eq_true] at hb
    obtain ⟨⟨⟨hr, hf⟩, hv⟩, hb'⟩ := hb
    obtain ⟨o, ho⟩ : ∃ o, ops[i]? = some o := by
      cases h0 : ops[i]? with
      | none => rw [h0] at hv; simp at hv
      | some o => exact ⟨o, rfl⟩
    rw [ho] at hv
    simp only [Option.map_some, Option.getD_some] at hv
    have hd : ops.getD i default = o := by
      rw [Array.getD_eq_getD_getElem?, ho]; rfl
    simp only [pick, List.map_cons, hd, wpQuiet] at h
    show wpAnyH P md ops Q S (fuel + is.length + 1) listed a w
    split at h
    · rename_i hw
      obtain ⟨v, h1, h2⟩ := h
      exact wpAnyH_take ho hs hf hr (fun c a w => hQ c a o.dst v w) (yields_of_quiet hv hw h1) hS (held_quiets_aux hs hQ hS fuel is _ _ hb' h2)
    · rename_i hw
      exact wpAnyH_take ho hs hf hr (fun c a w => hQ c a o.dst undef w) (.inr ⟨by simpa using hw, rfl⟩) hS (held_quiets_aux hs hQ hS fuel is _ _ hb' h)

/-- **Some operations that only read, in the order given.** 'l': these, written out. -/
theorem reg_quiets {B : Nat} {w : World} {a : Act} {listed : Array Bool} {n : Nat} (is : List Nat) (l : List Oper) (fuel : Nat) (hn : fuel + is.length = n) (hl : pick ops is = l)
    (hs : Region.noSelect ops = true) (hb : quietsB md ops is listed = true)
    (h : wpQuiet P ops (fun w' => ∃ p : Bel B w, w' = p.w') (fun a' => wpAnyH P md ops (NoPanic Q) (InBel B w) fuel (listAll is listed) a' w) l a) : wpAnyH P md ops (NoPanic Q) (InBel B w) n listed a w := by
  subst hn; subst hl
  exact held_quiets_aux hs (fun _ _ _ _ _ h => h) (inBel_refl B w) fuel is listed a hb h

/-- Where an operation puts its value: none of the places that are kept. -/
def dstOk (keep : Nat → Bool) (o : Oper) : Bool := match o.dst with
  | none => true
  | some d => !keep d
theorem held_quiets0_aux {S : World → Prop} (keep : Nat → Bool) (hs : Region.noSelect ops = true) (hQ : ∀ c a d v w, keep d = false → Q (.panic c) (a.put (some d) v) w → Q (.panic c) a w) {w : World} (hS : S w) (fuel : Nat) :
    ∀ (is : List Nat) (listed : Array Bool) (a : Act), (pick ops is).all (dstOk keep) = true → quietsB md ops is listed = true →
      wpQuiet P ops S (fun a' => wpAnyH P md ops Q S fuel (listAll is listed) a' w) (pick ops is) a → wpAnyH P md ops Q S (fuel + is.length) listed a w
  | [], _, _, _, _, h => h
  | i :: is, listed, a, hd', hb, h => by
    simp only [quietsB, Bool.and_eq_true] at hb
    obtain ⟨⟨⟨hr, hf⟩, hv⟩, hb'⟩ := hb
    obtain ⟨o, ho⟩ : ∃ o, ops[i]? = some o := by
      cases h0 : ops[i]? with
      | none => rw [h0] at hv; simp at hv
      | some o => exact ⟨o, rfl⟩
    rw [ho] at hv
    simp only [Option.map_some, Option.getD_some] at hv
    have hd : ops.getD i default = o := by
      rw [Array.getD_eq_getD_getElem?, ho]; rfl
    simp only [pick, List.map_cons, hd, wpQuiet] at h
    simp only [pick, List.map_cons, hd, List.all_cons, Bool.and_eq_true] at hd'
    obtain ⟨hdo, hdr⟩ := hd'
    have hQo : ∀ u c a w, Q (.panic c) (a.put o.dst u) w → Q (.panic c) a w := by
      intro u c a w hq
      unfold dstOk at hdo
      cases hdd : o.dst with
      | none => rw [hdd] at hq; exact hq
      | some d => rw [hdd] at hq hdo; exact hQ c a d u w (by simpa using hdo) hq
    show wpAnyH P md ops Q S (fuel + is.length + 1) listed a w
    split at h
    · rename_i hw
      obtain ⟨v, h1, h2⟩ := h
      exact wpAnyH_take ho hs hf hr (fun c a w => hQo v c a w) (yields_of_quiet hv hw h1) hS (held_quiets0_aux keep hs hQ hS fuel is _ _ hdr hb' h2)
    · rename_i hw
      exact wpAnyH_take ho hs hf hr (fun c a w => hQo undef c a w) (.inr ⟨by simpa using hw, rfl⟩) hS (held_quiets0_aux keep hs hQ hS fuel is _ _ hdr hb' h)
/-- **Some operations that only read**, where a panic is looked at: it does not ask for what they yield. -/
theorem reg_quiets0 {B : Nat} {w : World} {a : Act} {listed : Array Bool} {n : Nat} (keep : Nat → Bool) (is : List Nat) (l : List Oper) (fuel : Nat) (hn : fuel + is.length = n) (hl : pick ops is = l)
    (hs : Region.noSelect ops = true) (hb : quietsB md ops is listed = true) (hk : l.all (dstOk keep) = true) (hQ : ∀ c a d v w, keep d = false → Q (.panic c) (a.put (some d) v) w → Q (.panic c) a w)
    (h : wpQuiet P ops (fun w' => ∃ p : Bel B w, w' = p.w') (fun a' => wpAnyH P md ops Q (InBel B w) fuel (listAll is listed) a' w) l a) : wpAnyH P md ops Q (InBel B w) n listed a w := by
  subst hn; subst hl
  exact held_quiets0_aux keep hs hQ (inBel_refl B w) fuel is listed a hk hb h
/-- What is asked behind an operation that is carried out: below B nothing has turned, and the rest goes on in the new class. -/
def Next1 (P : Program) (md : Region.Mode) (ops : Array Oper) (Q : Exit → Act → World → Prop) (B : Nat) (w : World) (fuel : Nat) (listed : Array Bool) : Exit → Act → World → Prop
  | .normal, a', w' => ∃ B', Below B w w' ∧ B ≤ B' ∧ wpAnyH P md ops Q (InBel B' w') fuel listed a' w'
  | e, a', w' => Q e a' w'

theorem wpOp_of_list {i : Nat} {o : Oper} (ho : ops[i]? = some o) {K : Act → World → Prop} {Q' : Exit → Act → World → Prop} {a : Act} {w : World}
    (hK : ∀ a w, Q' .normal a w → K a w) (hp : ∀ c a w, Q' (.panic c) a w → Q (.panic c) a w) (hg : ∀ a w, Q' .outgrown a w → Q .outgrown a w)
    (h : wpList P ops Q' [o] a w) : wpOp P ops Q i K a w := by
  unfold wpOp
  simp only [ho]
  unfold wpList at h
  split
  · rename_i hw
    simp only [hw, if_true] at h
    rcases h with h | ⟨h1, a', w', h2⟩
    · refine .inl ?_
      unfold Oper.wp at *
      generalize (execOp a.eval o).run P w = r at *
      cases r with
      | ok n w' =>
        cases n <;> simp only [Oper.upon] at h ⊢
        case value u => exact hK _ _ h
        case skip => exact hK _ _ h
        case defer d => exact hK _ _ h
        case enter f args =>
          refine Calls.mono h fun e w'' he => ?_
          cases e with
          | returned u => exact hK _ _ he
          | panicked c => exact hp _ _ _ he
          | outgrown => obtain ⟨a1, w1, h1⟩ := he; exact ⟨a1, w1, hg _ _ h1⟩
        case row row args => exact Rows.mono h fun u w'' he => hK _ _ he
      | halt x w' =>
        cases x <;> simp only [Oper.upon] at h ⊢
        case panic u => exact hp _ _ _ h
    · exact .inr ⟨h1, a', w', hg _ _ h2⟩
  · rename_i hw
    simp only [hw] at h
    exact hK _ _ h

/-- **The one operation that may come up.** 'o': it, written out. -/
theorem reg_one {B : Nat} {w : World} {a : Act} {listed : Array Bool} {n : Nat} (i : Nat) (o : Oper) (hi : ops[i]? = some o) (hr : Region.ready md ops listed = [i])
    (h : wpList P ops (Next1 P md ops Q B w n (listed.setIfInBounds i true)) [o] a w) : wpAnyH P md ops Q (InBel B w) (n + 1) listed a w := by
  refine wpAnyH_all hr (by simp) fun j hj => ?_
  obtain rfl : j = i := by simpa using hj
  refine wpOp_of_list (Q' := Next1 P md ops Q B w n _) hi (fun a' w' hN => ?_) (fun _ _ _ h => h) (fun _ _ h => h) h
  obtain ⟨B', hb, hB, hH⟩ := hN
  exact ⟨inBel_iff.2 hb, held_mono (fun w2 h2 => inBel_trans hb (inBel_iff.2 ((inBel_iff.1 h2).mono hB))) _ _ _ _ hH⟩

/-- **Two operations that may come up**: each of them first. -/
theorem reg_two {B : Nat} {w : World} {a : Act} {listed : Array Bool} {n : Nat} (i j : Nat) (o u : Oper) (hi : ops[i]? = some o) (hj : ops[j]? = some u) (hr : Region.ready md ops listed = [i, j])
    (h : wpList P ops (Next1 P md ops Q B w n (listed.setIfInBounds i true)) [o] a w) (h' : wpList P ops (Next1 P md ops Q B w n (listed.setIfInBounds j true)) [u] a w) : wpAnyH P md ops Q (InBel B w) (n + 1) listed a w := by
  refine wpAnyH_all hr (by simp) fun k hk => ?_
  have hk' : k = i ∨ k = j := by simpa using hk
  rcases hk' with rfl | rfl
  · refine wpOp_of_list (Q' := Next1 P md ops Q B w n _) hi (fun a' w' hN => ?_) (fun _ _ _ h => h) (fun _ _ h => h) h
    obtain ⟨B', hb, hB, hH⟩ := hN
    exact ⟨inBel_iff.2 hb, held_mono (fun w2 h2 => inBel_trans hb (inBel_iff.2 ((inBel_iff.1 h2).mono hB))) _ _ _ _ hH⟩
  · refine wpOp_of_list (Q' := Next1 P md ops Q B w n _) hj (fun a' w' hN => ?_) (fun _ _ _ h => h) (fun _ _ h => h) h'
    obtain ⟨B', hb, hB, hH⟩ := hN
    exact ⟨inBel_iff.2 hb, held_mono (fun w2 h2 => inBel_trans hb (inBel_iff.2 ((inBel_iff.1 h2).mono hB))) _ _ _ _ hH⟩

/-- **The end**: all have come up. -/
theorem reg_done {S : World → Prop} {w : World} {a : Act} {listed : Array Bool} {n : Nat} (hr : Region.ready md ops listed = []) (h : Q .normal a w) : wpAnyH P md ops (NoPanic Q) S n listed a w := wpAnyH_done hr (NoPanic.normal h) n

/-- **Three operations that may come up**: each of them first. -/
theorem reg_three {B : Nat} {w : World} {a : Act} {listed : Array Bool} {n : Nat} (i j k : Nat) (o u v : Oper) (hi : ops[i]? = some o) (hj : ops[j]? = some u) (hk : ops[k]? = some v) (hr : Region.ready md ops listed = [i, j, k])
    (h : wpList P ops (Next1 P md ops Q B w n (listed.setIfInBounds i true)) [o] a w) (h' : wpList P ops (Next1 P md ops Q B w n (listed.setIfInBounds j true)) [u] a w) (h'' : wpList P ops (Next1 P md ops Q B w n (listed.setIfInBounds k true)) [v] a w) : wpAnyH P md ops Q (InBel B w) (n + 1) listed a w := by
  have one : ∀ (m : Nat) (x : Oper), ops[m]? = some x → wpList P ops (Next1 P md ops Q B w n (listed.setIfInBounds m true)) [x] a w → wpOp P ops Q m (fun a' w' => InBel B w w' ∧ wpAnyH P md ops Q (InBel B w) n (listed.setIfInBounds m true) a' w') a w := by
    intro m x hm hx
    refine wpOp_of_list (Q' := Next1 P md ops Q B w n _) hm (fun a' w' hN => ?_) (fun _ _ _ h => h) (fun _ _ h => h) hx
    obtain ⟨B', hb, hB, hH⟩ := hN
    exact ⟨inBel_iff.2 hb, held_mono (fun w2 h2 => inBel_trans hb (inBel_iff.2 ((inBel_iff.1 h2).mono hB))) _ _ _ _ hH⟩
  refine wpAnyH_all hr (by simp) fun m hm => ?_
  have hm' : m = i ∨ m = j ∨ m = k := by simpa using hm
  rcases hm' with rfl | rfl | rfl
  · exact one _ _ hi h
  · exact one _ _ hj h'
  · exact one _ _ hk h''
/-- **The end**, where a panic is looked at. -/
theorem reg_done0 {S : World → Prop} {w : World} {a : Act} {listed : Array Bool} {n : Nat} (hr : Region.ready md ops listed = []) (h : Q .normal a w) : wpAnyH P md ops Q S n listed a w := wpAnyH_done hr h n
/-- **The beginning**, where a panic is looked at. -/
theorem reg_begin0 {id : Nat} {a : Act} {w : World} {l : List Oper} (B n : Nat) (hn : l.length = n) (hm : P.follows .mixedOrders = true)
    (h : wpAnyH P .any l.toArray Q (InBel B w.drew) n (Array.replicate n false) a w.drew) : (Code.region id l.toArray true).wp P Q a w := by
  subst hn
  refine wp_region_any hm (wpAny_of_held (S := InBel B w.drew) _ _ _ _ ?_)
  simpa using h
/-- **The beginning.** -/
theorem reg_begin {id : Nat} {a : Act} {w : World} {l : List Oper} (B n : Nat) (hn : l.length = n) (hm : P.follows .mixedOrders = true)
    (h : wpAnyH P .any l.toArray (NoPanic Q) (InBel B w.drew) n (Array.replicate n false) a w.drew) : (Code.region id l.toArray true).wp P Q a w := by
  subst hn
  refine wp_region_noPanic (wp_region_any hm (wpAny_of_held (S := InBel B w.drew) _ _ _ _ ?_))
  simpa using h
end
end Go.Tin
/- Words for a block that is known whole: an array in a variable. No program in sight. -/
namespace Go.Tin
open Go.RowKit
set_option linter.unusedSimpArgs false
set_option linter.unusedVariables false

section
variable {P : Program} {w : World} {g : Nat} {t : TypeId}
theorem setCells_heap_other (b k : Nat) (h : k ≠ b) : ∀ (vs : List Value) (o : Nat) (w : World), (w.setCells b o vs).heap[k]? = w.heap[k]?
  | [], _, _ => rfl
  | v :: vs, o, w => (setCells_heap_other b k h vs (o + 1) (w.setCell ⟨b, o, none⟩ v)).trans (heap_setCell_other _ _ _ _ h)
/-- The first cells of a row, written one behind the other. -/
def over (cur : Array Value) : Nat → List Value → Array Value
  | _, [] => cur
  | o, v :: vs => over (cur.setIfInBounds o v) (o + 1) vs
theorem over_get : ∀ (vs : List Value) (o : Nat) (cur : Array Value) (j : Nat), o + vs.length ≤ cur.size → (over cur o vs)[j]? = if o ≤ j ∧ j < o + vs.length then vs[j - o]? else cur[j]?
  | [], o, cur, j, _ => by
    rw [if_neg (by intro h; simp at h; omega)]
    rfl
  | v :: vs, o, cur, j, h => by
    simp only [List.length_cons] at h
    show (over (cur.setIfInBounds o v) (o + 1) vs)[j]? = _
    rw [over_get vs (o + 1) _ j (by simp; omega)]
    simp only [List.length_cons]
    by_cases h1 : o + 1 ≤ j ∧ j < o + 1 + vs.length
    · rw [if_pos h1, if_pos (by omega)]
      obtain ⟨m, rfl⟩ : ∃ m, j = o + 1 + m := ⟨j - (o + 1), by omega⟩
      rw [show o + 1 + m - (o + 1) = m by omega, show o + 1 + m - o = m + 1 by omega, List.getElem?_cons_succ]
    · rw [if_neg h1, Array.getElem?_setIfInBounds]
      by_cases h2 : o = j
      · subst h2
        rw [if_pos rfl, if_pos (by omega), if_pos (by omega)]
        simp
      · rw [if_neg h2, if_neg (by omega)]
theorem over_size : ∀ (vs : List Value) (o : Nat) (cur : Array Value), (over cur o vs).size = cur.size
  | [], _, _ => rfl
  | v :: vs, o, cur => by show (over (cur.setIfInBounds o v) (o + 1) vs).size = _; rw [over_size vs]; simp
theorem over_all (vs : List Value) (cur : Array Value) (h : vs.length = cur.size) : over cur 0 vs = vs.toArray := by
  apply Array.ext_getElem?
  intro j
  rw [over_get vs 0 cur j (by omega)]
  by_cases hj : j < vs.length
  · rw [if_pos (by omega)]; simp
  · rw [if_neg (by omega), Array.getElem?_eq_none (by omega), Array.getElem?_eq_none (by simp; omega)]
theorem setCells_heap : ∀ (vs : List Value) (o : Nat) (w : World) (cur : Array Value), w.heap[g]? = some (.cells cur t (0, 0)) → (w.setCells g o vs).heap[g]? = some (.cells (over cur o vs) t (0, 0))
  | [], _, _, _, h => h
  | v :: vs, o, w, cur, h => setCells_heap vs (o + 1) (w.setCell ⟨g, o, none⟩ v) (cur.setIfInBounds o v) (heap_setCell_same _ _ _ _ _ _ h)
theorem setCells_size : ∀ (vs : List Value) (o b : Nat) (w : World), (w.setCells b o vs).heap.size = w.heap.size
  | [], _, _, _ => rfl
  | v :: vs, o, b, w => by show ((w.setCell ⟨b, o, none⟩ v).setCells b (o + 1) vs).heap.size = _; rw [setCells_size vs]; simp [World.setCell]

/-- A whole row written. -/
theorem run_store_row (cur : Array Value) (hg : w.heap[g]? = some (.cells cur t (0, 0))) (vs : List Value) (hn : vs.length = cur.size) (h1 : ∀ v ∈ vs, v.oneCell' = true) :
    ∃ w', (storeCells ⟨g, 0, none⟩ vs).run P w = .ok () w' ∧ w'.heap[g]? = some (.cells vs.toArray t (0, 0)) ∧ w.grownBy w' (some g) ∧ w'.heap.size = w.heap.size := by
  have h := run_storeCells_cells (P := P) g 0 vs 0 w (fun j hj => by rw [show 0 + 0 + j = j by omega, cell_of_row w g _ cur t _ hg, Array.getElem?_eq_getElem (by omega)]; rfl) (fun j hj => frozen_of_row w g _ cur t hg) h1
  refine ⟨_, h, ?_, grown_setCells g _ _ _ _ (World.grownBy.refl w _), setCells_size _ _ _ _⟩
  rw [setCells_heap _ _ _ _ hg]
  rw [Nat.add_zero, over_all vs cur hn]
end

/-- A value built of constants: what it is, is shown once. -/
theorem wpl_build {P : Program} {ops : Array Oper} {rest : List Oper} {o : Oper} {a : Act} {w : World} {Q : Exit → Act → World → Prop} (hgd : o.guard = none) (t : TypeId) (parts : Array (Nat × Operand)) (ho : o.op = .build t parts)
    (v : Value) (hrun : (Instr.build t (parts.map fun (i, x) => (i, a.eval x))).run P w = .ok v w) (h : wpList P ops Q rest (a.put o.dst v) w) : wpList P ops Q (o :: rest) a w := by
  refine wpList_plain hgd fun K hK => ?_
  unfold Oper.wp execOp
  simp only [ho, Sem.run_bind, Sem.run_pure, Result.andThen_ok, hrun]
  exact hK _ _ h
/-- The same under a guard that is met. -/
theorem wpl_build_g {P : Program} {ops : Array Oper} {rest : List Oper} {o : Oper} {a : Act} {w : World} {Q : Exit → Act → World → Prop} (hgd : Region.wanted o (yielded ops a.tmps) = true) (t : TypeId) (parts : Array (Nat × Operand)) (ho : o.op = .build t parts)
    (v : Value) (hrun : (Instr.build t (parts.map fun (i, x) => (i, a.eval x))).run P w = .ok v w) (h : wpList P ops Q rest (a.put o.dst v) w) : wpList P ops Q (o :: rest) a w := by
  refine wpList_step fun K hK => ?_
  rw [if_pos hgd]
  unfold Oper.wp execOp
  simp only [ho, Sem.run_bind, Sem.run_pure, Result.andThen_ok, hrun]
  exact hK _ _ h
/-- An array of integers. -/
def arr (k : IntKind) (l : List Int) : Array Value := (l.map (Value.int k)).toArray
/-- An array of n numbers of which m are told. -/
def tell (n : Nat) (f : Nat → Int) (m : Nat) : List Int := (List.range n).map fun j => if j < m then f j else 0
def full (n : Nat) (f : Nat → Int) : List Int := (List.range n).map f
@[simp] theorem tell_len (n : Nat) (f : Nat → Int) (m : Nat) : (tell n f m).length = n := by simp [tell]
@[simp] theorem full_len (n : Nat) (f : Nat → Int) : (full n f).length = n := by simp [full]
theorem tell_set (n : Nat) (f : Nat → Int) (m : Nat) (_hm : m < n) : (tell n f m).set m (f m) = tell n f (m + 1) := by
  apply List.ext_getElem?
  intro j
  rw [List.getElem?_set]
  by_cases hj : j < n
  · by_cases h : m = j
    · subst h; simp [tell, hj]
    · rw [if_neg h]
      simp only [tell, List.getElem?_map, List.getElem?_range hj, Option.map_some]
      congr 1
      by_cases h1 : j < m
      · rw [if_pos h1, if_pos (by omega)]
      · rw [if_neg h1, if_neg (by omega)]
  · rw [List.getElem?_eq_none (by simp [tell]; omega), List.getElem?_eq_none (by simp [tell]; omega)]
    split <;> simp [tell]
    omega
theorem tell_all (n : Nat) (f : Nat → Int) : tell n f n = full n f := by
  unfold tell full
  refine List.map_congr_left fun j hj => ?_
  rw [if_pos (by simpa using hj)]
theorem tell_zero (n : Nat) (f : Nat → Int) : tell n f 0 = List.replicate n 0 := by
  unfold tell
  apply List.ext_getElem <;> simp
theorem nth_full (n : Nat) (f : Nat → Int) (j : Nat) (hj : j < n) : nth (full n f) j = f j := by
  simp [nth, full, List.getD_eq_getElem?_getD, hj]
theorem nth_tell (n : Nat) (f : Nat → Int) (m j : Nat) (hj : j < n) : nth (tell n f m) j = if j < m then f j else 0 := by
  simp [nth, tell, List.getD_eq_getElem?_getD, hj]
/-- A list is told by its numbers. -/
theorem full_nth (l : List Int) (n : Nat) (h : l.length = n) : full n (nth l) = l := by
  subst h
  apply List.ext_getElem
  · simp
  · intro j h1 h2
    simp [full, nth, List.getD_eq_getElem?_getD, h2]
theorem full_congr (n : Nat) (f g : Nat → Int) (h : ∀ j, j < n → f j = g j) : full n f = full n g :=
  List.map_congr_left fun j hj => h j (by simpa using hj)
theorem arr_zero (k : IntKind) (n : Nat) (f : Nat → Int) : (Array.replicate n (Value.int k 0)) = arr k (tell n f 0) := by
  rw [tell_zero]; simp [arr]
theorem arr_rep (k : IntKind) (n : Nat) : arr k (List.replicate n 0) = Array.replicate n (Value.int k 0) := by simp [arr]
/-- Array type t, of n elements of type e, which are integers of kind k. -/
structure AT (P : Program) (t e : TypeId) (k : IntKind) (n : Nat) : Prop where
  ua : P.underlying t = some (.array n e)
  ue : P.underlying e = some (.int k)
  ie : (P.info? e).map (·.size) = some 1
  it : (P.info? t).map (·.size) = some n

section
variable {k : IntKind} {l : List Int}
@[simp] theorem arr_size : (arr k l).size = l.length := by simp [arr]
theorem arr_get (j : Nat) (hj : j < l.length) : (arr k l)[j]? = some (.int k (nth l j)) := by
  simp [nth, arr, List.getD_eq_getElem?_getD, hj]
theorem arr_set (j : Nat) (v : Int) : (arr k l).setIfInBounds j (.int k v) = arr k (l.set j v) := by
  simp [arr, List.map_set]
theorem arr_one : (arr k l).all (·.oneCell') = true := by simp [arr, Value.oneCell']
theorem arr_toList : (arr k l).toList = l.map (Value.int k) := by simp [arr]
variable {P : Program} {t e : TypeId} {n : Nat} (at_ : AT P t e k n)
include at_
theorem idx_run (hn : l.length = n) (kk : IntKind) (j : Nat) (hj : j < n) (w : World) : (Instr.index t (.agg (arr k l)) (.int kk (j : Int))).run P w = .ok (.int k (nth l j)) w := by
  unfold nth
  obtain ⟨i, hi, hs⟩ := Option.map_eq_some_iff.1 at_.ie
  have hjl : j < l.length := by omega
  unfold Instr.index
  simp only [asIntOf, Sem.run_bind, Sem.run_pure, Result.andThen_ok, run_underlying at_.ua, Int.toNat_natCast]
  rw [if_pos ⟨by omega, by omega⟩]
  simp only [Sem.run_bind, sizeOf, typeInfo]
  have h := run_part_ints w e k at_.ue l j hjl
  simp only [Sem.run_pure, List.getD_eq_getElem?_getD, List.getElem?_eq_getElem hjl, Option.getD_some]
  simpa [arr, sizeOf, typeInfo, hi, hs] using h
theorem eq_run (hn : l.length = n) (l' : List Int) (hn' : l'.length = n) (d : Nat) (w : World) : (Op.equalIn (d + 2) t (.agg (arr k l)) (.agg (arr k l'))).run P w = .ok (decide (l = l')) w := by
  obtain ⟨i, hi, hs⟩ := Option.map_eq_some_iff.1 at_.ie
  exact run_eql_ints w d t e i k n at_.ua at_.ue hi hs l l' hn hn'
/-- A whole array read. -/
theorem wpl_load_arr {ops : Array Oper} {rest : List Oper} {o : Oper} {a : Act} {w : World} {Q : Exit → Act → World → Prop} (hgd : o.guard = none) (x : Operand) (ho : o.op = .load t x)
    (g : Nat) (hx : a.eval x = .pointer (some ⟨g, 0, none⟩)) (ty : TypeId) (hn : l.length = n) (hg : w.heap[g]? = some (.cells (arr k l) ty (0, 0)))
    (h : wpList P ops Q rest (a.put o.dst (.agg (arr k l))) w) : wpList P ops Q (o :: rest) a w :=
  wpList_load_row hgd t x ho g hx ty (arr k l) (0, 0) _ hg at_.ua rfl (by rw [at_.it, arr_size, hn]) h
/-- The same under a guard that is met. -/
theorem wpl_load_arr_g {ops : Array Oper} {rest : List Oper} {o : Oper} {a : Act} {w : World} {Q : Exit → Act → World → Prop} (hgd : Region.wanted o (yielded ops a.tmps) = true) (x : Operand) (ho : o.op = .load t x)
    (g : Nat) (hx : a.eval x = .pointer (some ⟨g, 0, none⟩)) (ty : TypeId) (hn : l.length = n) (hg : w.heap[g]? = some (.cells (arr k l) ty (0, 0)))
    (h : wpList P ops Q rest (a.put o.dst (.agg (arr k l))) w) : wpList P ops Q (o :: rest) a w :=
  wpList_step fun _ hK => by
    rw [if_pos hgd]
    exact wp_load_row t x ho g hx ty (arr k l) (0, 0) _ hg at_.ua rfl (by rw [at_.it, arr_size, hn]) (hK _ _ h)
/-- A whole array written. -/
theorem wpl_store_arr {ops : Array Oper} {rest : List Oper} {o : Oper} {a : Act} {w : World} {Q : Exit → Act → World → Prop} (hgd : o.guard = none) (x y : Operand) (ho : o.op = .store t x y)
    (g : Nat) (hx : a.eval x = .pointer (some ⟨g, 0, none⟩)) (hy : a.eval y = .agg (arr k l)) (ty : TypeId) (hn : l.length = n) (cur : Array Value) (hc : cur.size = n) (hg : w.heap[g]? = some (.cells cur ty (0, 0)))
    (h : ∀ w', w'.heap[g]? = some (.cells (arr k l) ty (0, 0)) → w.grownBy w' (some g) → w'.heap.size = w.heap.size → wpList P ops Q rest (a.put o.dst undef) w') : wpList P ops Q (o :: rest) a w := by
  refine wpList_store_mid hgd t x y ho g 0 (arr k l) hx hy ?_ (by rw [at_.it, arr_size, hn]) arr_one ?_
  · intro j hj
    rw [arr_size] at hj
    rw [Nat.zero_add, cell_of_row w g j cur ty _ hg, Array.getElem?_eq_getElem (by omega)]
    exact ⟨rfl, frozen_of_row w g j cur ty hg⟩
  · refine h _ ?_ (grown_setCells g _ _ _ _ (World.grownBy.refl w _)) (setCells_size _ _ _ _)
    rw [setCells_heap _ _ _ _ hg, over_all _ _ (by simp; omega)]
theorem res_arr {fn : Func} {p : Tmp} (h : fn.results = #[.cell p t]) (tmps : Array Value) (w : World) (g : Nat) (ty : TypeId) (hp : tmps.getD p undef = .pointer (some ⟨g, 0, none⟩)) (hn : l.length = n) (hg : w.heap[g]? = some (.cells (arr k l) ty (0, 0))) :
    (results fn tmps).run P w = .ok (.agg (arr k l)) w :=
  results_cell_row h tmps w g ty (arr k l) (0, 0) _ hp hg at_.ua rfl (by rw [at_.it, arr_size, hn])
omit at_ in
theorem blk_cell {W : World} {g : Nat} {ty : TypeId} (hg : W.heap[g]? = some (.cells (arr k l) ty (0, 0))) (j : Nat) (hj : j < l.length) : W.cell? ⟨g, j, none⟩ = some (.int k (nth l j)) := by
  rw [cell_of_row W g j _ _ _ hg, arr_get j hj]
omit at_ in
theorem blk_set {W : World} {g : Nat} {ty : TypeId} (hg : W.heap[g]? = some (.cells (arr k l) ty (0, 0))) (j : Nat) (v : Int) : (W.setCell ⟨g, j, none⟩ (.int k v)).heap[g]? = some (.cells (arr k (l.set j v)) ty (0, 0)) := by
  rw [heap_setCell_same W g j _ ty _ hg, arr_set]
end
end Go.Tin
/- Whole arrays in a region that draws its order, and compared. No program in sight. -/
namespace Go.Tin
open Go.RowKit
set_option linter.unusedSimpArgs false
set_option linter.unusedVariables false
section
variable {k : IntKind} {l l' : List Int} {P : Program} {t e : TypeId} {n : Nat}
theorem eql_arr_run (at_ : AT P t e k n) (hE : P.eqGuardType P.depth t = false) (hn : l.length = n) (hn' : l'.length = n) (x y : Operand) (w : World) :
    (do eqGuard .eql t x y (.agg (arr k l)) (.agg (arr k l')); binOp .eql t (.agg (arr k l)) (.agg (arr k l')) : Sem Value).run P w = .ok (.bool (decide (l = l'))) w := by
  have h := eq_run at_ hn l' hn' 9998 w
  have hg : (eqGuard .eql t x y (.agg (arr k l)) (.agg (arr k l'))).run P w = .ok () w := by
    unfold eqGuard
    simp [Sem.run_bind, run_program, hE]
  rw [Sem.run_bind, hg, Result.andThen_ok]
  show (do pure (.bool (← Op.equal t (.agg (arr k l)) (.agg (arr k l')))) : Sem Value).run P w = _
  rw [Sem.run_bind]
  unfold Op.equal
  rw [show Op.maxDepth = 9998 + 2 from rfl, h]
  rfl
theorem wpq_value {ops : Array Oper} {C : World → Prop} {Q : Act → Prop} {a : Act} {o : Oper} {rest : List Oper} (v : Value) (hw : Region.wanted o (yielded ops a.tmps) = true) (hr : ∀ w, C w → (execOp a.eval o).run P w = .ok (.value v) w)
    (h : wpQuiet P ops C Q rest (a.put o.dst v)) : wpQuiet P ops C Q (o :: rest) a := by
  simp only [wpQuiet, hw, if_true]
  refine ⟨v, fun w hC => ?_, h⟩
  unfold Oper.quietAt
  rw [hr w hC]
  exact ⟨rfl, rfl⟩
theorem wpq_load_arr (at_ : AT P t e k n) {ops : Array Oper} {C : World → Prop} {Q : Act → Prop} {a : Act} {o : Oper} {rest : List Oper} (hw : Region.wanted o (yielded ops a.tmps) = true) (x : Operand) (ho : o.op = .load t x)
    (g : Nat) (hx : a.eval x = .pointer (some ⟨g, 0, none⟩)) (ty : TypeId) (hn : l.length = n) (hg : ∀ w, C w → w.heap[g]? = some (.cells (arr k l) ty (0, 0)))
    (h : wpQuiet P ops C Q rest (a.put o.dst (.agg (arr k l)))) : wpQuiet P ops C Q (o :: rest) a := by
  refine wpq_value _ hw (fun w hC => ?_) h
  unfold execOp
  simp only [ho, hx, Instr.loadAt, Instr.sureAddr, Sem.run_bind, Sem.run_pure, Result.andThen_ok, run_loadVar_row w g ty t (arr k l) (0, 0) _ (hg w hC) at_.ua rfl (by rw [at_.it, arr_size, hn])]
theorem wpq_eq_arr (at_ : AT P t e k n) (hE : P.eqGuardType P.depth t = false) {ops : Array Oper} {C : World → Prop} {Q : Act → Prop} {a : Act} {o : Oper} {rest : List Oper} (hw : Region.wanted o (yielded ops a.tmps) = true) (x y : Operand) (ty : TypeId) (ho : o.op = .binOp .eql t x y ty)
    (hx : a.eval x = .agg (arr k l)) (hy : a.eval y = .agg (arr k l')) (hn : l.length = n) (hn' : l'.length = n) (b : Bool) (hb : decide (l = l') = b)
    (h : wpQuiet P ops C Q rest (a.put o.dst (.bool b))) : wpQuiet P ops C Q (o :: rest) a := by
  subst hb
  refine wpq_value _ hw (fun w hC => ?_) h
  unfold execOp
  simp only [ho, hx, hy, Sem.run_bind]
  have := eql_arr_run at_ hE hn hn' x y w
  rw [Sem.run_bind] at this
  rw [this]
  rfl
theorem wpl_eq_arr (at_ : AT P t e k n) (hE : P.eqGuardType P.depth t = false) {ops : Array Oper} {rest : List Oper} {o : Oper} {a : Act} {w : World} {Q : Exit → Act → World → Prop} (hw : Region.wanted o (yielded ops a.tmps) = true) (x y : Operand) (ty : TypeId) (ho : o.op = .binOp .eql t x y ty)
    (hx : a.eval x = .agg (arr k l)) (hy : a.eval y = .agg (arr k l')) (hn : l.length = n) (hn' : l'.length = n) (b : Bool) (hb : decide (l = l') = b)
    (h : wpList P ops Q rest (a.put o.dst (.bool b)) w) : wpList P ops Q (o :: rest) a w := by
  subst hb
  refine wpList_step fun K hK => ?_
  rw [if_pos hw]
  unfold Oper.wp execOp
  simp only [ho, hx, hy, Sem.run_bind]
  have := eql_arr_run at_ hE hn hn' x y w
  rw [Sem.run_bind] at this
  rw [this]
  exact hK _ _ h
end
end Go.Tin
/- An argument that is an array of integers, opened. No program in sight. -/
namespace Go.Tin
open Go.RowKit Go.ChangeShapes Go.WideShapes
set_option linter.unusedSimpArgs false
set_option linter.unusedVariables false

theorem ints_of_cells (k : IntKind) (cs : List Value) (Wf : Int → Prop) (h : ∀ i, i < cs.length → ∃ a, cs[i]? = some (.int k a) ∧ Wf a) : ∃ zs : List Int, cs = zs.map (Value.int k) ∧ zs.length = cs.length ∧ ∀ z ∈ zs, Wf z := by
  induction cs with
  | nil => exact ⟨[], rfl, rfl, by simp⟩
  | cons c cs ih =>
    obtain ⟨a, ha, wa⟩ := h 0 (by simp)
    obtain ⟨zs, rfl, hl, hw⟩ := ih fun i hi => by
      obtain ⟨b, hb, wb⟩ := h (i + 1) (by simpa using hi)
      exact ⟨b, by simpa using hb, wb⟩
    simp only [List.getElem?_cons_zero, Option.some.injEq] at ha
    subst ha
    exact ⟨a :: zs, rfl, by simp, by
      intro z hz
      rcases List.mem_cons.1 hz with rfl | hz
      · exact wa
      · exact hw z hz⟩

section
variable {H : Type} {enc : TypeId × Value → H} {P : Program} {w : World} {base : Nat} {sp : Nat → Bool} {held : Bool}
theorem open_arr {r : Reach} {b0 : Nat} {t e : TypeId} {k : IntKind} {n : Nat} {v : Value} {d : DataW H} {ps : List MemPlace} (ht : P.underlying t = some (.array n e)) (he : P.underlying e = some (.int k)) (hc : P.cellsOf e = 1) (ct : P.cellsOf t = n)
    (hval : Value.okWide P w r b0 t v) (hd : DataW.Trod enc P w base sp held t v d ps) : ∃ zs : List Int, v = .agg (arr k zs) ∧ zs.length = n ∧ ∀ z ∈ zs, (Lit.int k z).wf = true := by
  simp only [Value.okWide, ht] at hval
  obtain ⟨cs, rfl, h2, _⟩ := hval
  rw [ct] at h2
  obtain ⟨fuel, hf⟩ := hd
  obtain ⟨xs, m, _, _, hl, hx, hall⟩ := DataW.trod_array ht hf
  have hcs : (Value.agg cs).cells = cs := rfl
  rw [hcs] at hl hall
  obtain ⟨zs, hz, hzl, hzw⟩ := ints_of_cells k cs.toList (fun z => (Lit.int k z).wf = true) fun i hi => by
    have hi' : i < n := by rw [← h2]; simpa using hi
    have h := hall i hi'
    rw [hc, Nat.mul_one] at h
    have hxi : i < xs.length := by omega
    rw [List.getElem?_eq_getElem hxi] at h
    obtain ⟨a, ha, _, wa⟩ := DataW.trod_int he h
    have hi2 : i < cs.size := by omega
    have h3 : (List.drop i cs.toList).take 1 = [cs.toList[i]] := by
      rw [List.drop_eq_getElem_cons hi]; rfl
    rw [h3] at ha
    have h4 : cs.toList[i] = .int k a := by simpa using ha
    exact ⟨a, by rw [List.getElem?_eq_getElem hi, h4], wa⟩
  refine ⟨zs, ?_, by rw [hzl]; simpa using h2, hzw⟩
  rw [show cs = cs.toList.toArray by simp, hz]
  rfl
end
end Go.Tin
/- Results of two: a whole row out of a block, and a temporary. No program in sight. -/
namespace Go.Tin
open Go.RowKit
set_option linter.unusedSimpArgs false
set_option linter.unusedVariables false
section
variable {P : Program}
theorem res_cell_tmp {fn : Func} {p q : Tmp} {ty : TypeId} (h : fn.results = #[.cell p ty, .tmp q]) (tmps : Array Value) (w : World) (g : Nat) (t : TypeId) (cs : Array Value) (fr : Nat × Nat) (d : TypeDesc)
    (hp : tmps.getD p undef = .pointer (some ⟨g, 0, none⟩)) (v : Value) (hv : tmps.getD q undef = v) (hg : w.heap[g]? = some (.cells cs t fr))
    (hu : P.underlying ty = some d) (hd : (match d with | .struct _ | .array _ _ => true | _ => false) = true) (hi : (P.info? ty).map (·.size) = some cs.size) :
    (results fn tmps).run P w = .ok (.tuple #[.agg cs, v]) w := by
  subst hv
  have hp' : tmps[p]?.getD undef = .pointer (some ⟨g, 0, none⟩) := by simpa using hp
  simp [results, h, hp', asAddr, run_loadVar_row w g t ty cs fr d hg hu hd hi]
variable {k : IntKind} {l : List Int} {t e : TypeId} {n : Nat} (at_ : AT P t e k n)
include at_
theorem res_arr_tmp {fn : Func} {p q : Tmp} (h : fn.results = #[.cell p t, .tmp q]) (tmps : Array Value) (w : World) (g : Nat) (ty : TypeId) (hp : tmps.getD p undef = .pointer (some ⟨g, 0, none⟩)) (v : Value) (hv : tmps.getD q undef = v) (hn : l.length = n) (hg : w.heap[g]? = some (.cells (arr k l) ty (0, 0))) :
    (results fn tmps).run P w = .ok (.tuple #[.agg (arr k l), v]) w :=
  res_cell_tmp h tmps w g ty (arr k l) (0, 0) _ hp v hv hg at_.ua rfl (by rw [at_.it, arr_size, hn])
end

/-! ### Whole rows: a struct (or an array) in a block of its own -/
def aggD (d : TypeDesc) : Bool := match d with | .struct _ | .array _ _ => true | _ => false
structure RT (P : Program) (t : TypeId) (n : Nat) : Prop where
  ut : ∃ d, P.underlying t = some d ∧ aggD d = true
  it : (P.info? t).map (·.size) = some n
theorem RT.of {P : Program} {t : TypeId} {n : Nat} {d : TypeDesc} (hu : P.underlying t = some d) (hd : aggD d = true) (hi : (P.info? t).map (·.size) = some n) : RT P t n := ⟨⟨d, hu, hd⟩, hi⟩
section
variable {P : Program} {t : TypeId} {n : Nat} (rt : RT P t n)
theorem row_cell {W : World} {g : Nat} {ty : TypeId} {cs : Array Value} (hg : W.heap[g]? = some (.cells cs ty (0, 0))) (j : Nat) {v : Value} (hj : cs[j]? = some v) : W.cell? ⟨g, j, none⟩ = some v := by
  rw [cell_of_row W g j _ _ _ hg, hj]
theorem row_set {W : World} {g : Nat} {ty : TypeId} {cs : Array Value} (hg : W.heap[g]? = some (.cells cs ty (0, 0))) (j : Nat) (v : Value) : (W.setCell ⟨g, j, none⟩ v).heap[g]? = some (.cells (cs.setIfInBounds j v) ty (0, 0)) :=
  heap_setCell_same W g j _ ty _ hg
include rt
theorem wpl_load_row {ops : Array Oper} {rest : List Oper} {o : Oper} {a : Act} {w : World} {Q : Exit → Act → World → Prop} (hgd : Region.wanted o (yielded ops a.tmps) = true) (x : Operand) (ho : o.op = .load t x)
    (g : Nat) (hx : a.eval x = .pointer (some ⟨g, 0, none⟩)) (ty : TypeId) (cs : Array Value) (hn : cs.size = n) (hg : w.heap[g]? = some (.cells cs ty (0, 0)))
    (h : wpList P ops Q rest (a.put o.dst (.agg cs)) w) : wpList P ops Q (o :: rest) a w :=
  wpList_step fun _ hK => by
    obtain ⟨d, hu, hd⟩ := rt.ut
    rw [if_pos hgd]
    cases d <;> first | (cases hd; done) | exact wp_load_row t x ho g hx ty cs (0, 0) _ hg hu rfl (by rw [rt.it, hn]) (hK _ _ h)
theorem wpl_store_row {ops : Array Oper} {rest : List Oper} {o : Oper} {a : Act} {w : World} {Q : Exit → Act → World → Prop} (hgd : o.guard = none) (x y : Operand) (ho : o.op = .store t x y)
    (g : Nat) (hx : a.eval x = .pointer (some ⟨g, 0, none⟩)) (cs : Array Value) (hy : a.eval y = .agg cs) (h1 : cs.all (·.oneCell') = true) (ty : TypeId) (hn : cs.size = n) (cur : Array Value) (hc : cur.size = n) (hg : w.heap[g]? = some (.cells cur ty (0, 0)))
    (h : ∀ w', w'.heap[g]? = some (.cells cs ty (0, 0)) → w.grownBy w' (some g) → w'.heap.size = w.heap.size → wpList P ops Q rest (a.put o.dst undef) w') : wpList P ops Q (o :: rest) a w := by
  refine wpList_store_mid hgd t x y ho g 0 cs hx hy ?_ (by rw [rt.it, hn]) h1 ?_
  · intro j hj
    rw [Nat.zero_add, cell_of_row w g j cur ty _ hg, Array.getElem?_eq_getElem (by omega)]
    exact ⟨rfl, frozen_of_row w g j cur ty hg⟩
  · refine h _ ?_ (grown_setCells g _ _ _ _ (World.grownBy.refl w _)) (setCells_size _ _ _ _)
    rw [setCells_heap _ _ _ _ hg, over_all _ _ (by simp; omega)]
theorem res_row {fn : Func} {p : Tmp} (h : fn.results = #[.cell p t]) (tmps : Array Value) (w : World) (g : Nat) (ty : TypeId) (cs : Array Value) (hp : tmps.getD p undef = .pointer (some ⟨g, 0, none⟩)) (hn : cs.size = n) (hg : w.heap[g]? = some (.cells cs ty (0, 0))) :
    (results fn tmps).run P w = .ok (.agg cs) w := by
  obtain ⟨d, hu, hd⟩ := rt.ut
  cases d <;> first | (cases hd; done) | exact results_cell_row h tmps w g ty cs (0, 0) _ hp hg hu rfl (by rw [rt.it, hn])
theorem res_row_tmp {fn : Func} {p q : Tmp} (h : fn.results = #[.cell p t, .tmp q]) (tmps : Array Value) (w : World) (g : Nat) (ty : TypeId) (cs : Array Value) (hp : tmps.getD p undef = .pointer (some ⟨g, 0, none⟩)) (v : Value) (hv : tmps.getD q undef = v) (hn : cs.size = n) (hg : w.heap[g]? = some (.cells cs ty (0, 0))) :
    (results fn tmps).run P w = .ok (.tuple #[.agg cs, v]) w := by
  obtain ⟨d, hu, hd⟩ := rt.ut
  cases d <;> first | (cases hd; done) | exact res_cell_tmp h tmps w g ty cs (0, 0) _ hp v hv hg hu rfl (by rw [rt.it, hn])
end
end Go.Tin
/- The laws of ..Reg for a class of worlds that keep a set of blocks: where a row of the call's own, older than what is read, is written. No program in sight. -/
namespace Go.Tin
open Go.RowKit
set_option linter.unusedSimpArgs false
set_option linter.unusedVariables false

/-- The streams are as they were, no block has gone, and those of K are as they were. -/
structure Kept (K : Nat → Prop) (w w' : World) : Prop where
  os : w'.os = w.os
  tape : w'.tape = w.tape
  output : w'.output = w.output
  size : w.heap.size ≤ w'.heap.size
  block : ∀ i, i < w.heap.size → K i → w'.heap[i]? = w.heap[i]?
theorem Kept.refl (K : Nat → Prop) (w : World) : Kept K w w := ⟨rfl, rfl, rfl, Nat.le_refl _, fun _ _ _ => rfl⟩
theorem Kept.trans {K K' : Nat → Prop} {a b c : World} (h : Kept K a b) (k : Kept K' b c) (hK : ∀ i, i < a.heap.size → K i → K' i) : Kept K a c :=
  ⟨k.os.trans h.os, k.tape.trans h.tape, k.output.trans h.output, Nat.le_trans h.size k.size, fun i hi hk => (k.block i (Nat.lt_of_lt_of_le hi h.size) (hK i hi hk)).trans (h.block i hi hk)⟩
theorem Kept.cell {K : Nat → Prop} {w w' : World} (h : Kept K w w') {b o : Nat} (hb : b < w.heap.size) (hk : K b) : w'.cell? ⟨b, o, none⟩ = w.cell? ⟨b, o, none⟩ :=
  World.cell?_of_block (a := ⟨b, o, none⟩) (h.block b hb hk)
theorem Kept.frozen {K : Nat → Prop} {w w' : World} (h : Kept K w w') {b o : Nat} (hb : b < w.heap.size) (hk : K b) : w'.frozen? ⟨b, o, none⟩ = w.frozen? ⟨b, o, none⟩ :=
  World.frozen?_of_block (a := ⟨b, o, none⟩) (h.block b hb hk)
theorem Kept.of_grown {K : Nat → Prop} {w w' : World} {r : Option Nat} (h : w.grownBy w' r) (hK : ∀ i, K i → some i ≠ r) : Kept K w w' :=
  ⟨h.os, h.tape, h.output, h.size, fun i hi hk => h.block i hi (hK i hk)⟩
theorem Kept.of_below {K : Nat → Prop} {w w' : World} (h : Below w.heap.size w w') : Kept K w w' := ⟨h.os, h.tape, h.output, h.size, fun i hi _ => h.block i hi⟩
theorem Kept.of_below' {B : Nat} {w w' : World} (h : Below B w w') : Kept (· < B) w w' := ⟨h.os, h.tape, h.output, h.size, fun i _ hi => h.block i hi⟩
theorem Kept.drew_l {K : Nat → Prop} {w w' : World} (h : Kept K w.drew w') : Kept K w w' := ⟨h.os, h.tape, h.output, h.size, h.block⟩

structure Kel (K : Nat → Prop) (w : World) where
  w' : World
  h : Kept K w w'
instance (K : Nat → Prop) (w : World) : Inhabited (Kel K w) := ⟨⟨w, Kept.refl _ _⟩⟩
def InKel (K : Nat → Prop) (w w' : World) : Prop := ∃ p : Kel K w, w' = p.w'
theorem inKel_iff {K : Nat → Prop} {w w' : World} : InKel K w w' ↔ Kept K w w' := ⟨fun ⟨p, hp⟩ => hp ▸ p.h, fun h => ⟨⟨w', h⟩, rfl⟩⟩
theorem inKel_refl (K : Nat → Prop) (w : World) : InKel K w w := inKel_iff.2 (Kept.refl _ _)

section
variable {P : Program} {ops : Array Oper} {Q : Exit → Act → World → Prop} {md : Region.Mode}
/-- Some operations that only read, in the order given. -/
theorem keg_quiets {K : Nat → Prop} {w : World} {a : Act} {listed : Array Bool} {n : Nat} (is : List Nat) (l : List Oper) (fuel : Nat) (hn : fuel + is.length = n) (hl : pick ops is = l)
    (hs : Region.noSelect ops = true) (hb : quietsB md ops is listed = true)
    (h : wpQuiet P ops (fun w' => ∃ p : Kel K w, w' = p.w') (fun a' => wpAnyH P md ops (NoPanic Q) (InKel K w) fuel (listAll is listed) a' w) l a) : wpAnyH P md ops (NoPanic Q) (InKel K w) n listed a w := by
  subst hn; subst hl
  exact held_quiets_aux hs (fun _ _ _ _ _ h => h) (inKel_refl K w) fuel is listed a hb h
/-- What is asked behind an operation that is carried out. -/
def KNext (P : Program) (md : Region.Mode) (ops : Array Oper) (Q : Exit → Act → World → Prop) (K : Nat → Prop) (w : World) (fuel : Nat) (listed : Array Bool) : Exit → Act → World → Prop
  | .normal, a', w' => ∃ K', Kept K w w' ∧ (∀ i, i < w.heap.size → K i → K' i) ∧ wpAnyH P md ops Q (InKel K' w') fuel listed a' w'
  | e, a', w' => Q e a' w'
/-- The one operation that may come up. -/
theorem keg_one {K : Nat → Prop} {w : World} {a : Act} {listed : Array Bool} {n : Nat} (i : Nat) (o : Oper) (hi : ops[i]? = some o) (hr : Region.ready md ops listed = [i])
    (h : wpList P ops (KNext P md ops Q K w n (listed.setIfInBounds i true)) [o] a w) : wpAnyH P md ops Q (InKel K w) (n + 1) listed a w := by
  refine wpAnyH_all hr (by simp) fun j hj => ?_
  obtain rfl : j = i := by simpa using hj
  refine wpOp_of_list (Q' := KNext P md ops Q K w n _) hi (fun a' w' hN => ?_) (fun _ _ _ h => h) (fun _ _ h => h) h
  obtain ⟨K', hb, hK, hH⟩ := hN
  exact ⟨inKel_iff.2 hb, held_mono (fun w2 h2 => inKel_iff.2 (hb.trans (inKel_iff.1 h2) hK)) _ _ _ _ hH⟩
/-- The beginning. -/
theorem keg_begin {id : Nat} {a : Act} {w : World} {l : List Oper} (K : Nat → Prop) (n : Nat) (hn : l.length = n) (hm : P.follows .mixedOrders = true)
    (h : wpAnyH P .any l.toArray (NoPanic Q) (InKel K w.drew) n (Array.replicate n false) a w.drew) : (Code.region id l.toArray true).wp P Q a w := by
  subst hn
  refine wp_region_noPanic (wp_region_any hm (wpAny_of_held (S := InKel K w.drew) _ _ _ _ ?_))
  simpa using h
end
end Go.Tin
/- An argument that is a struct, opened field by field. No program in sight. -/
namespace Go.Tin
open Go.RowKit Go.ChangeShapes Go.WideShapes
set_option linter.unusedSimpArgs false
set_option linter.unusedVariables false
section
variable {H : Type} {enc : TypeId × Value → H} {P : Program} {w : World} {base : Nat} {sp : Nat → Bool} {held : Bool}
theorem open_struct {r : Reach} {b0 : Nat} {t : TypeId} {fs : Array Field} {m : Nat} {v : Value} {d : DataW H} {ps : List MemPlace} (ht : P.underlying t = some (.struct fs)) (hm : P.cellsOf t = m)
    (hval : Value.okWide P w r b0 t v) (hd : DataW.Trod enc P w base sp held t v d ps) :
    ∃ cs : Array Value, v = .agg cs ∧ cs.size = m ∧ ∀ (i : Nat) (f : Field), fs[i]? = some f → ∃ n y, DataW.trod enc P w base sp held n f.type ((cs.toList.drop f.offset).take (P.cellsOf f.type)) = some y := by
  obtain ⟨cs, rfl, h2⟩ := okWide_struct ht hval
  obtain ⟨fuel, hf⟩ := hd
  obtain ⟨xs, n, _, _, hl, hlen, hx⟩ := DataW.trod_struct ht hf
  refine ⟨cs, rfl, h2.trans hm, fun i f hi => ?_⟩
  have hif : i < fs.size := (Array.getElem?_eq_some_iff.1 hi).1
  have h := hx i f hi
  rw [List.getElem?_eq_getElem (by omega)] at h
  exact ⟨n, _, h⟩
/-- A field of one cell that is an integer. -/
theorem field_int {n : Nat} {t : TypeId} {k : IntKind} {cs : List Value} {o : Nat} {y : DataW H × List MemPlace} {v : Value} (ht : P.underlying t = some (.int k)) (hc : P.cellsOf t = 1) (ho : cs[o]? = some v)
    (h : DataW.trod enc P w base sp held n t ((cs.drop o).take (P.cellsOf t)) = some y) : ∃ a, v = .int k a ∧ (Lit.int k a).wf = true := by
  obtain ⟨a, ha, _, wa⟩ := DataW.trod_int ht h
  rw [hc] at ha
  have hlt : o < cs.length := (List.getElem?_eq_some_iff.1 ho).1
  rw [List.drop_eq_getElem_cons hlt, List.take_succ_cons, List.take_zero] at ha
  have h4 : cs[o] = .int k a := by simpa using ha
  rw [List.getElem?_eq_getElem hlt, h4] at ho
  exact ⟨a, by injection ho with h; exact h.symm, wa⟩
/-- A field of one cell that is a slice of integers. -/
theorem field_ints {n : Nat} {t e : TypeId} {k : IntKind} {cs : List Value} {o : Nat} {y : DataW H × List MemPlace} {v : Value} (ht : P.underlying t = some (.slice e)) (he : P.underlying e = some (.int k)) (hce : P.cellsOf e = 1) (hc : P.cellsOf t = 1) (ho : cs[o]? = some v)
    (h : DataW.trod enc P w base (fun _ => true) held n t ((cs.drop o).take (P.cellsOf t)) = some y) : ∃ a len cap zs, v = .slice a len cap ∧ IsRow k w a len cap zs := by
  rw [hc] at h
  have hlt : o < cs.length := (List.getElem?_eq_some_iff.1 ho).1
  rw [List.drop_eq_getElem_cons hlt, List.take_succ_cons, List.take_zero] at h
  rw [List.getElem?_eq_getElem hlt] at ho
  injection ho with ho
  rw [ho] at h
  rcases open_ints ht he hce h with ⟨hcs, _⟩ | ⟨x, l, c, zs, hcs, _, hl, hm, hz, _, hcell, hwz⟩
  · have hv : v = .slice none 0 0 := by simpa using hcs
    exact ⟨none, 0, 0, [], hv, .inl ⟨rfl, rfl, rfl, rfl⟩⟩
  · have hv : v = .slice (some x) l c := by simpa using hcs
    exact ⟨some x, l, c, zs, hv, .inr ⟨_, rfl, hl, hm, by simpa using hz, hcell, hwz⟩⟩
end
end Go.Tin
/- Words for rows of the call's own that are written: one element stored, made of zeros, copied into. No program in sight. -/
namespace Go.Tin
open Go.RowKit
set_option linter.unusedSimpArgs false
set_option linter.unusedVariables false

section
variable {k : IntKind} {e : TypeId} {w w' : World} {B g m c : Nat} {l : List Int}
theorem Own.set (h : Own k e w B (.slice (some ⟨g, 0, none⟩) m c) l) (j : Nat) (n : Int) :
    Own k e (w.setCell ⟨g, j, none⟩ (.int k n)) B (.slice (some ⟨g, 0, none⟩) m c) (l.set j n) ∧ w.grownBy (w.setCell ⟨g, j, none⟩ (.int k n)) (some g) := by
  have hm : m = l.length := h.sl'.1
  subst hm
  obtain ⟨h1, h2⟩ := World.ownsRow.stored h j (.int k n)
  unfold Own
  rw [List.length_set, List.map_set]
  exact ⟨h1, h2⟩
theorem Own.cell_ (h : Own k e w B (.slice (some ⟨g, 0, none⟩) m c) l) (j : Nat) (hj : j < l.length) : w.cell? ⟨g, j, none⟩ = some (.int k (nth l j)) := by
  have hm : m = l.length := h.sl'.1
  subst hm
  rw [World.ownsRow.cellAt h j (by omega)]
  simp [nth, List.getD_eq_getElem?_getD, hj]
theorem Own.free (h : Own k e w B (.slice (some ⟨g, 0, none⟩) m c) l) (j : Nat) : w.frozen? ⟨g, j, none⟩ = false := by
  have hm : m = l.length := h.sl'.1
  subst hm
  exact World.ownsRow.frozenAt h j
theorem nth_set (l : List Int) (j i : Nat) (n : Int) (hj : j < l.length) : nth (l.set j n) i = if i = j then n else nth l i := by
  unfold nth
  rw [List.getD_eq_getElem?_getD, List.getElem?_set]
  by_cases h : j = i
  · subst h; simp [hj]
  · rw [if_neg h, if_neg (fun e => h e.symm), List.getD_eq_getElem?_getD]
theorem ext_nth {l l' : List Int} (hl : l.length = l'.length) (h : ∀ i, i < l.length → nth l i = nth l' i) : l = l' := by
  apply List.ext_getElem hl
  intro i h1 h2
  have := h i h1
  simpa [nth, List.getD_eq_getElem?_getD, h1, h2] using this
end

section
variable {P : Program} {s e : TypeId} {k : IntKind} {by_ : Nat} (bt : ST P s e k by_)
include bt
/-- x[j] = n, x a row of the call's own. -/
theorem wpl_set {ops : Array Oper} {rest : List Oper} {o : Oper} {a : Act} {Q : Exit → Act → World → Prop} (w : World) (hgd : o.guard = none) (x y : Operand)
    (ho : o.op = Op.store e x y) (B g m c : Nat) (l : List Int) (hown : Own k e w B (.slice (some ⟨g, 0, none⟩) m c) l) (j : Nat) (hj : j < l.length) (n : Int)
    (hx : a.eval x = .pointer (some ⟨g, j, none⟩)) (hy : a.eval y = .int k n)
    (h : ∀ w', Own k e w' B (.slice (some ⟨g, 0, none⟩) m c) (l.set j n) → w.grownBy w' (some g) → w'.heap.size = w.heap.size → wpList P ops Q rest (a.put o.dst undef) w') : wpList P ops Q (o :: rest) a w := by
  refine wpList_plain hgd fun K hK => ?_
  obtain ⟨h1, h2⟩ := hown.set j n
  have hc := hown.cell_ j hj
  have hf := hown.free j
  obtain ⟨i, hi, _, hsz, _⟩ := bt.info
  unfold Oper.wp execOp
  have hrun : (Instr.storeAt e (.pointer (some ⟨g, j, none⟩)) (.int k n)).run P w = .ok () (w.setCell ⟨g, j, none⟩ (.int k n)) := by
    have hsize : (sizeOf e).run P w = .ok 1 w := by simp [sizeOf, typeInfo, hi, hsz]
    simp [go_sem, Instr.storeAt, Instr.sureAddr, hc, hf, hsize]
  simp only [ho, hx, hy, Sem.run_bind, hrun, Result.andThen_ok, Sem.run_pure]
  exact hK _ _ (h _ h1 h2 (by simp [World.setCell]))
/-- make([]T, n). -/
theorem wpl_makeN {ops : Array Oper} {rest : List Oper} {o : Oper} {a : Act} {Q : Exit → Act → World → Prop} (w : World) (hgd : o.guard = none) (x y : Operand)
    (ho : o.op = Op.makeSlice s x y) (B : Nat) (kl kc : IntKind) (L C : Int) (n : Nat) (hx : a.eval x = .int kl L) (hy : a.eval y = .int kc C) (hL : L = (n : Int)) (hC : C = (n : Int))
    (hb : by_ * n ≤ 281474976710656) (hn : n ≤ maxLen) (hB : B ≤ w.heap.size)
    (h : ∀ w', Own k e w' B (.slice (some ⟨w.heap.size, 0, none⟩) n n) (List.replicate n 0) → w.grownBy w' none → wpList P ops Q rest (a.put o.dst (.slice (some ⟨w.heap.size, 0, none⟩) n n)) w') : wpList P ops Q (o :: rest) a w := by
  obtain ⟨i, hi, hz, hsz, hby⟩ := bt.info
  refine wpList_make_full w hgd x y s ho B e i (.int k 0) 1 bt.us hi hz hsz kl kc L C n hx hy hL hC (by rw [hby]; exact hb) hn hB fun w' h1 h2 => h w' ?_ h2
  unfold Own
  rw [List.length_replicate, List.map_replicate]
  have e1 : (madeCells (Value.int k 0).cells (n * 1)).toList = List.replicate n (Value.int k 0) := by
    rw [Nat.mul_one]; exact toList_madeCells_one _ _
  rw [e1] at h1
  exact h1
/-- copy(x, y), x a row of the call's own, of the same length as y. -/
theorem wpl_copyAll {ops : Array Oper} {rest : List Oper} {o : Oper} {a : Act} {Q : Exit → Act → World → Prop} (w : World) (hgd : o.guard = none) (x y : Operand)
    (ho : o.op = .call { callee := .builtin .copy, args := #[x, y], argTypes := #[s, s] }) (B g c n : Nat) (l : List Int) (hln : l.length = n) (hx : a.eval x = .slice (some ⟨g, 0, none⟩) n c) (hown : Own k e w B (.slice (some ⟨g, 0, none⟩) n c) l)
    (A : Option Addr) (c' : Nat) (news : List Int) (hnl : news.length = n) (hy : a.eval y = .slice A n c') (hr : Sl k w A news) (hB : B ≤ w.heap.size)
    (h : ∀ w', Own k e w' B (.slice (some ⟨g, 0, none⟩) n c) news → w.grownBy w' (some g) → w'.heap.size = w.heap.size → wpList P ops Q rest (a.put o.dst (goInt n)) w') : wpList P ops Q (o :: rest) a w := by
  subst hln
  have hl := hnl
  rw [← hnl] at hy h
  obtain ⟨i, hi, hz, hsz, hby⟩ := bt.info
  have hsz' : (P.info? e).map (·.size) = some 1 := by rw [hi]; simp [hsz]
  have hmin : Nat.min news.length l.length = news.length := by rw [hl]; exact Nat.min_self _
  rcases hown.2 with ⟨h', _⟩ | ⟨g', cap', cur, h', hb, hg, hnc, hcm, hcs, htake⟩
  · simp at h'
  · simp only [Value.slice.injEq, Option.some.injEq, Addr.mk.injEq, and_true, true_and] at h'
    obtain ⟨rfl, rfl⟩ := h'
    by_cases h0 : news.length = 0
    · have hn : news = [] := List.eq_nil_of_length_eq_zero h0
      have hl0 : l = [] := List.eq_nil_of_length_eq_zero (by omega)
      subst hn
      subst hl0
      refine wpList_copy_nothing hgd x y s s ho e bt.us hsz' _ _ _ _ _ _ hx hy hmin ?_
      exact h w hown (World.grownBy.refl w _) rfl
    · rcases hr with hr | ⟨b, off, rfl, hlt, hc⟩
      · subst hr; simp at h0
      refine wpList_copy_own hgd x y s s ho e bt.us hsz' g 0 l.length c ⟨b, off, none⟩ news.length c' hx hy cur e hg (news.map (Value.int k)) (by rw [List.length_map]; exact hmin.symm) ?_ (by rw [List.length_map]; omega) (by simp [Value.oneCell']) ?_
      · intro j v hj
        rw [List.getElem?_map] at hj
        obtain ⟨z, hz', rfl⟩ := Option.map_eq_some_iff.1 hj
        have hjl : j < news.length := (List.getElem?_eq_some_iff.1 hz').1
        rw [add_none, hc j hjl, List.getD_eq_getElem?_getD, hz']
        rfl
      · have hs := setRow_heap w g cur (cur.toList.take 0 ++ (news.map (Value.int k) ++ cur.toList.drop (0 + (news.map (Value.int k)).length))).toArray e (0, 0) hg
        have hgr : w.grownBy (w.setRow g (cur.toList.take 0 ++ (news.map (Value.int k) ++ cur.toList.drop (0 + (news.map (Value.int k)).length))).toArray) (some g) :=
          ⟨rfl, rfl, rfl, by simp [World.setRow], fun q hq hne => setRow_other w g q _ (fun e => hne (by rw [e]))⟩
        rw [show goInt (news.map (Value.int k)).length = goInt news.length by rw [List.length_map]]
        refine h _ ?_ hgr (by simp [World.setRow])
        unfold Own
        exact ⟨by simp, .inr ⟨g, c, _, rfl, hb, hs, by omega, hcm, by simp; omega, by simp⟩⟩
end
end Go.Tin
namespace Go.Tin
open Go.RowKit
theorem own_form {k : IntKind} {e : TypeId} {w : World} {B : Nat} {v : Value} {l : List Int} (h : Own k e w B v l) : ∃ A c, v = .slice A l.length c := by
  obtain ⟨A, c, hv, _⟩ := h.sl
  exact ⟨A, c, hv⟩
theorem take_snoc_nth (l : List Int) (i : Nat) (h : i < l.length) : l.take (i + 1) = l.take i ++ [nth l i] := by
  rw [List.take_succ_eq_append_getElem h]
  simp [nth, List.getD_eq_getElem?_getD, h]
theorem take_eq_step {l m : List Int} {i : Nat} (h : l.take i = m.take i) (hl : i < l.length) (hm : i < m.length) (he : nth l i = nth m i) : l.take (i + 1) = m.take (i + 1) := by
  rw [take_snoc_nth l i hl, take_snoc_nth m i hm, h, he]
theorem nth_ne {l m : List Int} {i : Nat} (he : nth l i ≠ nth m i) : l ≠ m := fun h => he (by rw [h])
end Go.Tin
namespace Go.Tin
open Go.RowKit
theorem Own.lit {k : IntKind} {e : TypeId} (w : World) (cs : Array Value) (l : List Int) (n : Nat) (h : cs.toList = l.map (Value.int k)) (hn : n = l.length) (hl : l.length ≤ maxLen) : Own k e (w.alloc (.cells cs e)) w.heap.size (.slice (some ⟨w.heap.size, 0, none⟩) n n) l := by
  subst hn
  have hs : cs.size = l.length := by rw [← Array.length_toList, h, List.length_map]
  refine ⟨by simp, .inr ⟨w.heap.size, l.length, cs, rfl, Nat.le_refl _, heap_alloc_new w _, Nat.le_refl _, hl, by omega, ?_⟩⟩
  rw [h, List.take_of_length_le (by simp)]
end Go.Tin
namespace Go.Tin
open Go.RowKit
theorem alloc1 (w : World) (o0 : Obj) : (w.alloc o0).heap[w.heap.size]? = some o0 ∧ Below w.heap.size w (w.alloc o0) ∧ (w.alloc o0).heap.size = w.heap.size + 1 :=
  ⟨heap_alloc_new w o0, ba (brefl w) _, by simp⟩
theorem alloc2 (w : World) (o0 o1 : Obj) : ((w.alloc o0).alloc o1).heap[w.heap.size]? = some o0 ∧ ((w.alloc o0).alloc o1).heap[w.heap.size + 1]? = some o1 ∧ Below w.heap.size w ((w.alloc o0).alloc o1) ∧ ((w.alloc o0).alloc o1).heap.size = w.heap.size + 2 :=
  ⟨heap_alloc2_old w o0 o1, heap_alloc2_new w o0 o1, ba (ba (brefl w) _) _, by simp⟩
theorem alloc3 (w : World) (o0 o1 o2 : Obj) : (((w.alloc o0).alloc o1).alloc o2).heap[w.heap.size]? = some o0 ∧ (((w.alloc o0).alloc o1).alloc o2).heap[w.heap.size + 1]? = some o1 ∧ (((w.alloc o0).alloc o1).alloc o2).heap[w.heap.size + 2]? = some o2 ∧ Below w.heap.size w (((w.alloc o0).alloc o1).alloc o2) ∧ (((w.alloc o0).alloc o1).alloc o2).heap.size = w.heap.size + 3 := by
  obtain ⟨h0, h1, hb, hz⟩ := alloc2 w o0 o1
  obtain ⟨k, kb, kz⟩ := alloc1 ((w.alloc o0).alloc o1) o2
  refine ⟨(kb.block _ (by omega)).trans h0, (kb.block _ (by omega)).trans h1, by rw [← hz]; exact k, bt hb kb, by omega⟩
theorem alloc4 (w : World) (o0 o1 o2 o3 : Obj) : ((((w.alloc o0).alloc o1).alloc o2).alloc o3).heap[w.heap.size]? = some o0 ∧ ((((w.alloc o0).alloc o1).alloc o2).alloc o3).heap[w.heap.size + 1]? = some o1 ∧ ((((w.alloc o0).alloc o1).alloc o2).alloc o3).heap[w.heap.size + 2]? = some o2 ∧ ((((w.alloc o0).alloc o1).alloc o2).alloc o3).heap[w.heap.size + 3]? = some o3 ∧ Below w.heap.size w ((((w.alloc o0).alloc o1).alloc o2).alloc o3) ∧ ((((w.alloc o0).alloc o1).alloc o2).alloc o3).heap.size = w.heap.size + 4 := by
  obtain ⟨h0, h1, h2, hb, hz⟩ := alloc3 w o0 o1 o2
  obtain ⟨k, kb, kz⟩ := alloc1 (((w.alloc o0).alloc o1).alloc o2) o3
  refine ⟨(kb.block _ (by omega)).trans h0, (kb.block _ (by omega)).trans h1, (kb.block _ (by omega)).trans h2, by rw [← hz]; exact k, bt hb kb, by omega⟩
end Go.Tin
namespace Go.Tin
open Go.RowKit
theorem bset {B : Nat} {w0 w : World} (hb : Below B w0 w) (g i : Nat) (v : Value) (h : B ≤ g) : Below B w0 (w.setCell ⟨g, i, none⟩ v) := Below.setCell hb (show B ≤ (⟨g, i, none⟩ : Addr).block from h) v
end Go.Tin
/- A whole row read in a region that draws its order; three blocks made one behind the other. No program in sight. (Not yet among the texts that seat.sh lays.) -/
namespace Go.Tin
open Go.RowKit
set_option linter.unusedSimpArgs false
set_option linter.unusedVariables false

/-- Three blocks made one behind the other. -/
theorem three (w : World) (o0 o1 o2 : Obj) : (((w.alloc o0).alloc o1).alloc o2).heap[w.heap.size]? = some o0 ∧ (((w.alloc o0).alloc o1).alloc o2).heap[w.heap.size + 1]? = some o1 ∧
    (((w.alloc o0).alloc o1).alloc o2).heap[w.heap.size + 1 + 1]? = some o2 := by
  refine ⟨?_, ?_, ?_⟩
  · rw [Below.heap_alloc _ _ _ (by simp <;> omega), Below.heap_alloc _ _ _ (by simp)]
    exact heap_alloc_new w o0
  · rw [Below.heap_alloc _ _ _ (by simp)]
    exact heap_alloc2_new w o0 o1
  · have h := heap_alloc_new ((w.alloc o0).alloc o1) o2
    simp only [World.size_alloc] at h
    exact h

/-- A whole row that is read in a region that draws its order. -/
theorem wpq_load_row {P : Program} {t : TypeId} {n : Nat} (rt : RT P t n) {ops : Array Oper} {C : World → Prop} {Q : Act → Prop} {a : Act} {o : Oper} {rest : List Oper} (hw : Region.wanted o (yielded ops a.tmps) = true) (x : Operand) (ho : o.op = .load t x)
    (g : Nat) (hx : a.eval x = .pointer (some ⟨g, 0, none⟩)) (ty : TypeId) (cs : Array Value) (hn : cs.size = n) (hg : ∀ w, C w → w.heap[g]? = some (.cells cs ty (0, 0)))
    (h : wpQuiet P ops C Q rest (a.put o.dst (.agg cs))) : wpQuiet P ops C Q (o :: rest) a := by
  obtain ⟨d, hu, hd⟩ := rt.ut
  refine wpq_value _ hw (fun w hC => ?_) h
  cases d <;> first | (cases hd; done) | (unfold execOp; simp only [ho, hx, Instr.loadAt, Instr.sureAddr, Sem.run_bind, Sem.run_pure, Result.andThen_ok, run_loadVar_row w g ty t cs (0, 0) _ (hg w hC) hu rfl (by rw [rt.it, hn])])
end Go.Tin
namespace Go.Tin
open Go.RowKit
set_option linter.unusedSimpArgs false
set_option linter.unusedVariables false
section
variable {k : IntKind} {l l' : List Int} {P : Program} {t e : TypeId} {n : Nat}
theorem neq_arr_run (at_ : AT P t e k n) (hE : P.eqGuardType P.depth t = false) (hn : l.length = n) (hn' : l'.length = n) (x y : Operand) (w : World) :
    (do eqGuard .neq t x y (.agg (arr k l)) (.agg (arr k l')); binOp .neq t (.agg (arr k l)) (.agg (arr k l')) : Sem Value).run P w = .ok (.bool (!decide (l = l'))) w := by
  have h := eq_run at_ hn l' hn' 9998 w
  have hg : (eqGuard .neq t x y (.agg (arr k l)) (.agg (arr k l'))).run P w = .ok () w := by
    unfold eqGuard
    simp [Sem.run_bind, run_program, hE]
  rw [Sem.run_bind, hg, Result.andThen_ok]
  show (do pure (.bool (!(← Op.equal t (.agg (arr k l)) (.agg (arr k l'))))) : Sem Value).run P w = _
  rw [Sem.run_bind]
  unfold Op.equal
  rw [show Op.maxDepth = 9998 + 2 from rfl, h]
  rfl
theorem wpq_ne_arr (at_ : AT P t e k n) (hE : P.eqGuardType P.depth t = false) {ops : Array Oper} {C : World → Prop} {Q : Act → Prop} {a : Act} {o : Oper} {rest : List Oper} (hw : Region.wanted o (yielded ops a.tmps) = true) (x y : Operand) (ty : TypeId) (ho : o.op = .binOp .neq t x y ty)
    (hx : a.eval x = .agg (arr k l)) (hy : a.eval y = .agg (arr k l')) (hn : l.length = n) (hn' : l'.length = n) (b : Bool) (hb : (!decide (l = l')) = b)
    (h : wpQuiet P ops C Q rest (a.put o.dst (.bool b))) : wpQuiet P ops C Q (o :: rest) a := by
  subst hb
  refine wpq_value _ hw (fun w hC => ?_) h
  unfold execOp
  simp only [ho, hx, hy, Sem.run_bind]
  have := neq_arr_run at_ hE hn hn' x y w
  rw [Sem.run_bind] at this
  rw [this]
  rfl
theorem wpl_ne_arr (at_ : AT P t e k n) (hE : P.eqGuardType P.depth t = false) {ops : Array Oper} {rest : List Oper} {o : Oper} {a : Act} {w : World} {Q : Exit → Act → World → Prop} (hw : Region.wanted o (yielded ops a.tmps) = true) (x y : Operand) (ty : TypeId) (ho : o.op = .binOp .neq t x y ty)
    (hx : a.eval x = .agg (arr k l)) (hy : a.eval y = .agg (arr k l')) (hn : l.length = n) (hn' : l'.length = n) (b : Bool) (hb : (!decide (l = l')) = b)
    (h : wpList P ops Q rest (a.put o.dst (.bool b)) w) : wpList P ops Q (o :: rest) a w := by
  subst hb
  refine wpList_step fun K hK => ?_
  rw [if_pos hw]
  unfold Oper.wp execOp
  simp only [ho, hx, hy, Sem.run_bind]
  have := neq_arr_run at_ hE hn hn' x y w
  rw [Sem.run_bind] at this
  rw [this]
  exact hK _ _ h
end
end Go.Tin
/- Words for one element put behind a row of the call's own. No program in sight. -/
namespace Go.Tin
open Go.RowKit
set_option linter.unusedSimpArgs false
set_option linter.unusedVariables false

section
variable {P : Program} {s e : TypeId} {k : IntKind} {by_ : Nat} (bt : ST P s e k by_)
include bt
/-- out = append(out, n): the element's own row was made one step ahead. -/
theorem wpl_push {ops : Array Oper} {rest : List Oper} {o : Oper} {a : Act} {Q : Exit → Act → World → Prop} (w0 w : World) (n : Int) (hgd : o.guard = none) (x y : Operand)
    (ho : o.op = .call { callee := .builtin .append, args := #[x, y], argTypes := #[s, s] }) (B : Nat) (A : Option Addr) (m c : Nat) (l : List Int) (hs : a.eval x = .slice A m c) (hown : Own k e w B (.slice A m c) l)
    (hb : Below B w0 w) (hB : B ≤ w.heap.size) (hy : a.eval y = .slice (some ⟨w.heap.size, 0, none⟩) 1 1)
    (hlen : (l.length + 1) * by_ ≤ 140737488355328) (hlen' : l.length + 1 ≤ 140737488355328)
    (h : ∀ A' c' w', Own k e w' B (.slice A' (m + 1) c') (l ++ [n]) → Below B w0 w' → B ≤ w'.heap.size → w.grownBy w' (Value.slice A m c).ownBlock → ((Value.slice A' (m + 1) c').ownBlock = (Value.slice A m c).ownBlock ∨ ∃ g, (Value.slice A' (m + 1) c').ownBlock = some g ∧ w.heap.size ≤ g) → wpList P ops Q rest (a.put o.dst (.slice A' (m + 1) c')) w') :
    wpList P ops Q (o :: rest) a (w.alloc (.cells #[.int k n] e)) := by
  have hm : m = l.length := hown.sl'.1
  subst hm
  have hg0 : w.grownBy (w.alloc (.cells #[.int k n] e)) (Value.slice A l.length c).ownBlock := World.grownBy_alloc w _ _
  refine wpl_app bt _ hgd x y ho B _ l hs (hown.alloc _) (some ⟨w.heap.size, 0, none⟩) 1 1 [n] hy (Sl.new_ w _ _ _ rfl) rfl hlen hlen' (by simp; omega) fun v' w' h1 h2 h3 => ?_
  obtain ⟨A', c', rfl⟩ := own_form h1
  have e1 : (l ++ [n]).length = l.length + 1 := by simp
  rw [e1] at h1 h3 ⊢
  have hg : w.grownBy w' (Value.slice A l.length c).ownBlock := hg0.trans h2
  refine h A' c' w' h1 (hown.grown hb hB hg) (Nat.le_trans hB hg.size) hg ?_
  rcases h3 with h3 | h3
  · exact .inl h3
  · exact .inr ⟨_, h3, by simp⟩
end
end Go.Tin
/- The word of Psh for a region that draws its order (go_region_law). No program in sight. -/
namespace Go.Tin
open Go.RowKit
set_option linter.unusedSimpArgs false
set_option linter.unusedVariables false

section
variable {P : Program} {s e : TypeId} {k : IntKind} {by_ : Nat} (bt : ST P s e k by_)
include bt
/-- out = append(out, n), in a region that draws: the element's own row lies in w. -/
theorem step_push {ops : Array Oper} {o : Oper} {a : Act} {K : Act → World → Prop} {Q : Exit → Act → World → Prop} {E : Prop} (w : World) (hgd : o.guard = none) (x y : Operand)
    (ho : o.op = .call { callee := .builtin .append, args := #[x, y], argTypes := #[s, s] }) (B : Nat) (A : Option Addr) (m c : Nat) (l : List Int) (n : Int) (hs : a.eval x = .slice A m c) (hown : Own k e w B (.slice A m c) l)
    (b : Nat) (hy : a.eval y = .slice (some ⟨b, 0, none⟩) 1 1) (hb : w.cell? ⟨b, 0, none⟩ = some (.int k n)) (hB : B ≤ w.heap.size)
    (hlen : (m + 1) * by_ ≤ 140737488355328) (hlen' : m + 1 ≤ 140737488355328)
    (h : ∀ g cap w', Own k e w' B (.slice (some ⟨g, 0, none⟩) (m + 1) cap) (l ++ [n]) → w.grownBy w' (Value.slice A m c).ownBlock → ((Value.slice A m c).ownBlock = some g ∨ g = w.heap.size) → g < w'.heap.size → K (a.put o.dst (.slice (some ⟨g, 0, none⟩) (m + 1) cap)) w') :
    if Region.wanted o (yielded ops a.tmps) = true then Oper.wp P o a w K Q else E := by
  obtain ⟨i, hi, hz, hsz, hby⟩ := bt.info
  have hm : m = l.length := hown.sl'.1
  subst hm
  refine step_append_lies w hgd x y s ho B e i (.int k 0) 1 by_ bt.us hi hz hsz hby rfl (by decide) (.slice A l.length c) l.length (l.map (Value.int k)) hs hown ⟨b, 0, none⟩ 1 1 [.int k n] hy rfl ?_ (by simp [Value.oneCell']) (by decide) (by unfold maxLen; omega) hlen hB w.heap.size rfl ?_
  · intro j u hj
    cases j with
    | zero => simp at hj; subst hj; simpa [add_none] using hb
    | succ j => simp at hj
  · intro g cap w' h1 h2 h3 h4
    refine h g cap w' ?_ h2 h3 h4
    unfold Own
    rw [List.length_append, List.map_append]
    exact h1
end
end Go.Tin
/- Arguments of whatever shape, opened: what their cells are. No program in sight. -/
namespace Go.Tin
open Go.RowKit Go.ChangeShapes Go.WideShapes Go.Deep
set_option linter.unusedSimpArgs false
set_option linter.unusedVariables false

/-- A shape of cells: 's' is how many cells an element has; a struct is a chain of fields (number, offset, cells). -/
inductive Sh where
  | int (k : IntKind)
  | str
  | bool
  | slice (s : Nat) (e : Sh)
  | arr (n s : Nat) (e : Sh)
  | fld (i off s : Nat) (f : Sh) (rest : Sh)
  | unit
  | any

/-- The cells are of the shape. -/
def Fits (w : World) : Sh → List Value → Prop
  | .int k, cs => ∃ n, cs = [.int k n] ∧ (Lit.int k n).wf = true
  | .str, cs => ∃ s : ByteArray, cs = [.string s] ∧ s.size ≤ maxLen
  | .bool, cs => ∃ b, cs = [.bool b]
  | .slice s e, cs => cs = [.slice none 0 0] ∨ ∃ a len cap, cs = [.slice (some a) len cap] ∧ len ≤ cap ∧ cap ≤ maxLen ∧
      ∀ i, i < cap → ∃ cs' : List Value, cs'.length = s ∧ (∀ j, j < s → w.cell? ((a.add (i * s)).add j) = cs'[j]?) ∧ Fits w e cs'
  | .arr n s e, cs => ∀ i, i < n → Fits w e ((cs.drop (i * s)).take s)
  | .fld _ off s f rest, cs => Fits w f ((cs.drop off).take s) ∧ Fits w rest cs
  | .unit, _ => True
  | .any, _ => True

/-- The type has the shape. -/
def okSh (P : Program) : Sh → TypeId → Bool
  | .int k, t => match P.underlying t with | some (.int k') => decide (k = k') | _ => false
  | .str, t => match P.underlying t with | some .string => true | _ => false
  | .bool, t => match P.underlying t with | some .bool => true | _ => false
  | .slice s e, t => match P.underlying t with | some (.slice t') => decide (P.cellsOf t' = s) && okSh P e t' | _ => false
  | .arr n s e, t => match P.underlying t with | some (.array n' t') => decide (n = n') && (decide (P.cellsOf t' = s) && okSh P e t') | _ => false
  | .fld i off s f rest, t => (match P.underlying t with | some (.struct fs) => (match fs[i]? with | some f' => decide (f'.offset = off) && (decide (P.cellsOf f'.type = s) && okSh P f f'.type) | none => false) | _ => false) && okSh P rest t
  | .unit, _ => true
  | .any, _ => true

section
variable {H : Type} {enc : TypeId × Value → H} {P : Program} {w : World} {base : Nat} {held : Bool}
theorem trod_bool {t : TypeId} {sp : Nat → Bool} {fuel : Nat} {cs : List Value} {x : DataW H × List MemPlace} (ht : P.underlying t = some .bool) (h : DataW.trod enc P w base sp held fuel t cs = some x) : ∃ b, cs = [.bool b] := by
  cases fuel with
  | zero => simp [DataW.trod] at h
  | succ n =>
    unfold DataW.trod at h
    rw [ht] at h
    split at h <;> simp_all
theorem fits_of_trod : ∀ (sh : Sh) (t : TypeId) (fuel : Nat) (cs : List Value) (x : DataW H × List MemPlace), okSh P sh t = true → DataW.trod enc P w base (fun _ => true) held fuel t cs = some x → Fits w sh cs
  | .int k, t, fuel, cs, x, ho, h => by
    unfold okSh at ho
    split at ho
    · rename_i k' ht
      obtain rfl := of_decide_eq_true ho
      obtain ⟨n, h1, _, h2⟩ := DataW.trod_int ht h
      exact ⟨n, h1, h2⟩
    · cases ho
  | .str, t, fuel, cs, x, ho, h => by
    unfold okSh at ho
    split at ho
    · rename_i ht
      obtain ⟨n, h1, _, h2⟩ := DataW.trod_string ht h
      exact ⟨n, h1, h2⟩
    · cases ho
  | .bool, t, fuel, cs, x, ho, h => by
    unfold okSh at ho
    split at ho
    · rename_i ht
      exact trod_bool ht h
    · cases ho
  | .slice s e, t, fuel, cs, x, ho, h => by
    unfold okSh at ho
    split at ho
    · rename_i t' ht
      rw [Bool.and_eq_true] at ho
      obtain rfl := of_decide_eq_true ho.1
      rcases open_slice ht h with ⟨h0, _⟩ | ⟨a, len, cap, m, n, D, Pl, hcs, hb, hl, hm, hmm, hx, hi⟩
      · exact .inl h0
      · rw [if_pos rfl] at hmm
        subst hmm
        refine .inr ⟨a, len, m, hcs, hl, hm, fun i hi' => ?_⟩
        obtain ⟨cs', hc, ht'⟩ := hi i hi'
        obtain ⟨_, h1, h2⟩ := World.cells?_some hc
        exact ⟨cs', h1, h2, fits_of_trod e t' n cs' _ ho.2 ht'⟩
    · cases ho
  | .arr n s e, t, fuel, cs, x, ho, h => by
    unfold okSh at ho
    split at ho
    · rename_i n' t' ht
      rw [Bool.and_eq_true, Bool.and_eq_true] at ho
      obtain rfl := of_decide_eq_true ho.1
      obtain rfl := of_decide_eq_true ho.2.1
      obtain ⟨xs, m, _, _, hl, hx, hall⟩ := DataW.trod_array ht h
      intro i hi
      have h1 := hall i hi
      rw [List.getElem?_eq_getElem (by omega)] at h1
      exact fits_of_trod e t' m _ _ ho.2.2 h1
    · cases ho
  | .fld i off s f rest, t, fuel, cs, x, ho, h => by
    unfold okSh at ho
    rw [Bool.and_eq_true] at ho
    refine ⟨?_, fits_of_trod rest t fuel cs x ho.2 h⟩
    have ho1 := ho.1
    split at ho1
    · rename_i fs ht
      split at ho1
      · rename_i f' hf
        rw [Bool.and_eq_true, Bool.and_eq_true] at ho1
        obtain rfl := of_decide_eq_true ho1.1
        obtain rfl := of_decide_eq_true ho1.2.1
        obtain ⟨xs, n, _, _, hl, hlen, hx⟩ := DataW.trod_struct ht h
        have hif : i < fs.size := (Array.getElem?_eq_some_iff.1 hf).1
        have h1 := hx i f' hf
        rw [List.getElem?_eq_getElem (by omega)] at h1
        exact fits_of_trod f f'.type n _ _ ho1.2.2 h1
      · cases ho1
    · cases ho1
  | .unit, _, _, _, _, _, _ => True.intro
  | .any, _, _, _, _, _, _ => True.intro
theorem fits_arg {sh : Sh} {t : TypeId} {v : Value} {d : DataW H} {ps : List MemPlace} (ho : okSh P sh t = true) (h : DataW.Trod enc P w base (fun _ => true) held t v d ps) : Fits w sh v.cells.toList := by
  obtain ⟨fuel, hf⟩ := h
  exact fits_of_trod sh t fuel _ _ ho hf
theorem shape_struct {r : Reach} {b0 : Nat} {t : TypeId} {fs : Array Field} {m : Nat} {v : Value} (ht : P.underlying t = some (.struct fs)) (hm : P.cellsOf t = m) (hval : Value.okWide P w r b0 t v) : ∃ cs : Array Value, v = .agg cs ∧ cs.size = m := by
  obtain ⟨cs, rfl, h2⟩ := okWide_struct ht hval
  exact ⟨cs, rfl, h2.trans hm⟩
theorem shape_arr {r : Reach} {b0 : Nat} {t e : TypeId} {n m : Nat} {v : Value} (ht : P.underlying t = some (.array n e)) (hm : P.cellsOf t = m) (hval : Value.okWide P w r b0 t v) : ∃ cs : Array Value, v = .agg cs ∧ cs.size = m := by
  simp only [Value.okWide, ht] at hval
  obtain ⟨cs, rfl, h2, _⟩ := hval
  exact ⟨cs, rfl, h2.trans hm⟩
end
end Go.Tin
/- Slices whose elements are cells of integers of one kind (structs, arrays): one flat list. No program in sight. -/
namespace Go.Tin
open Go.RowKit
set_option linter.unusedSimpArgs false
set_option linter.unusedVariables false

/-- The integer of a cell. -/
def cellInt (o : Option Value) : Int := match o with | some (.int _ n) => n | _ => 0
theorem addr_add_add (a : Addr) (i j : Nat) : (a.add i).add j = a.add (i + j) := by
  unfold Addr.add
  by_cases hi : i = 0 <;> by_cases hj : j = 0 <;> simp [hi, hj, Nat.add_assoc]
/-- All cells of a shape are integers of the kind. -/
def FlatSh (w : World) (k : IntKind) (s : Nat) (e : Sh) : Prop := ∀ cs : List Value, cs.length = s → Fits w e cs → ∀ j, j < s → ∃ n, cs[j]? = some (.int k n) ∧ (Lit.int k n).wf = true
/-- A slice of such elements, as one list. -/
def IsFlat (k : IntKind) (s : Nat) (w : World) (a : Option Addr) (len cap : Nat) (zs : List Int) : Prop :=
  Sl k w a zs ∧ zs.length = len * s ∧ len ≤ cap ∧ cap ≤ maxLen ∧ (∀ z ∈ zs, (Lit.int k z).wf = true) ∧ (a = none → cap = 0)
theorem flat_of_fits {w : World} {k : IntKind} {s : Nat} {e : Sh} (he : FlatSh w k s e) {a : Option Addr} {len cap : Nat} (h : Fits w (.slice s e) [.slice a len cap]) : ∃ zs, IsFlat k s w a len cap zs := by
  rcases h with h | ⟨x, l, c, h, hl, hc, hi⟩
  · simp at h
    obtain ⟨rfl, rfl, rfl⟩ := h
    exact ⟨[], .inl rfl, by simp, Nat.le_refl _, by decide, by simp, fun _ => rfl⟩
  · simp at h
    obtain ⟨rfl, rfl, rfl⟩ := h
    have cell : ∀ i, i < len * s → ∃ n, w.cell? (x.add i) = some (.int k n) ∧ (Lit.int k n).wf = true := by
      intro i hi'
      have hs : 0 < s := Nat.pos_of_ne_zero (fun e => by subst e; simp at hi')
      have h1 : i / s < len := by rw [Nat.div_lt_iff_lt_mul hs]; exact hi'
      obtain ⟨cs, hcs, hcell, hfit⟩ := hi (i / s) (by omega)
      obtain ⟨n, hn, wn⟩ := he cs hcs hfit (i % s) (Nat.mod_lt _ hs)
      have h2 := hcell (i % s) (Nat.mod_lt _ hs)
      rw [addr_add_add, Nat.mul_comm, Nat.div_add_mod, hn] at h2
      exact ⟨n, h2, wn⟩
    refine ⟨(List.range (len * s)).map fun i => cellInt (w.cell? (x.add i)), ?_, by simp, hl, hc, ?_, fun h => by cases h⟩
    · by_cases h0 : len * s = 0
      · exact .inl (by simp [h0])
      · obtain ⟨n, hn, _⟩ := cell 0 (by omega)
        have hspot : x.spot = none := by
          have := World.cell?_spot hn
          simpa [Addr.add] using this
        have hlt : x.block < w.heap.size := by
          have := World.block_lt_of_cell? w _ hn
          simpa [Addr.add] using this
        obtain ⟨b, off, spot⟩ := x
        have hs' : spot = none := hspot
        subst hs'
        refine .inr ⟨b, off, rfl, hlt, fun i hi' => ?_⟩
        have hi2 : i < len * s := by simpa using hi'
        obtain ⟨m, hm, _⟩ := cell i hi2
        rw [add_none] at hm
        rw [hm]
        simp [List.getD_eq_getElem?_getD, hi2, add_none, hm, cellInt]
    · intro z hz
      obtain ⟨i, hi', rfl⟩ := List.mem_map.1 hz
      obtain ⟨m, hm, wm⟩ := cell i (by simpa using hi')
      rw [hm]
      exact wm
theorem flat_fld1 {w : World} {k : IntKind} {s : Nat} {i off : Nat} {rest : Sh} : (∀ cs : List Value, cs.length = s → Fits w rest cs → ∀ j, j < s → j ≠ off → ∃ n, cs[j]? = some (.int k n) ∧ (Lit.int k n).wf = true) → FlatSh w k s (.fld i off 1 (.int k) rest) := by
  intro h cs hcs hf j hj
  obtain ⟨⟨n, hn, wn⟩, hr⟩ := hf
  by_cases hjo : j = off
  · subst hjo
    refine ⟨n, ?_, wn⟩
    rw [List.drop_eq_getElem_cons (by omega), List.take_succ_cons, List.take_zero] at hn
    rw [List.getElem?_eq_getElem (by omega)]
    have : cs[j] = .int k n := by simpa using hn
    rw [this]
  · exact h cs hcs hr j hj hjo
/-- A struct of two integers. -/
theorem flat_two (w : World) (k : IntKind) : FlatSh w k 2 (.fld 0 0 1 (.int k) (.fld 1 1 1 (.int k) .unit)) := by
  refine flat_fld1 fun cs hcs hf j hj hne => ?_
  obtain ⟨⟨n, hn, wn⟩, -⟩ := hf
  obtain rfl : j = 1 := by omega
  refine ⟨n, ?_, wn⟩
  rw [List.drop_eq_getElem_cons (by omega), List.take_succ_cons, List.take_zero] at hn
  rw [List.getElem?_eq_getElem (by omega)]
  have : cs[1] = .int k n := by simpa using hn
  rw [this]
theorem nth_app_lt {l m : List Int} {i : Nat} (h : i < l.length) : nth (l ++ m) i = nth l i := by
  unfold nth
  rw [List.getD_eq_getElem?_getD, List.getElem?_append_left h, List.getD_eq_getElem?_getD]
end Go.Tin
/- Two structs compared, in a plain region and in one that draws. No program in sight. -/
namespace Go.Tin
open Go.RowKit
set_option linter.unusedSimpArgs false
set_option linter.unusedVariables false
section
variable {P : Program} {t : TypeId} {xs ys : Array Value} {b : Bool}
theorem run_eql_agg (hE : P.eqGuardType P.depth t = false) (hq : ∀ w, (Op.equalIn 10000 t (.agg xs) (.agg ys)).run P w = .ok b w) (x y : Operand) (w : World) :
    (do eqGuard .eql t x y (.agg xs) (.agg ys); binOp .eql t (.agg xs) (.agg ys) : Sem Value).run P w = .ok (.bool b) w := by
  rw [Sem.run_bind, run_eqGuard_agg w .eql t x y xs ys hE, Result.andThen_ok, run_eql_struct w t xs ys, hq w]
  rfl
theorem run_neq_agg (hE : P.eqGuardType P.depth t = false) (hq : ∀ w, (Op.equalIn 10000 t (.agg xs) (.agg ys)).run P w = .ok b w) (x y : Operand) (w : World) :
    (do eqGuard .neq t x y (.agg xs) (.agg ys); binOp .neq t (.agg xs) (.agg ys) : Sem Value).run P w = .ok (.bool (!b)) w := by
  rw [Sem.run_bind, run_eqGuard_agg w .neq t x y xs ys hE, Result.andThen_ok, run_neq_struct w t xs ys, hq w]
  rfl
theorem wpq_eql (hE : P.eqGuardType P.depth t = false) {ops : Array Oper} {C : World → Prop} {Q : Act → Prop} {a : Act} {o : Oper} {rest : List Oper} (hw : Region.wanted o (yielded ops a.tmps) = true) (x y : Operand) (ty : TypeId) (ho : o.op = .binOp .eql t x y ty)
    (hx : a.eval x = .agg xs) (hy : a.eval y = .agg ys) (hq : ∀ w, (Op.equalIn 10000 t (.agg xs) (.agg ys)).run P w = .ok b w)
    (h : wpQuiet P ops C Q rest (a.put o.dst (.bool b))) : wpQuiet P ops C Q (o :: rest) a := by
  refine wpq_value _ hw (fun w hC => ?_) h
  unfold execOp
  simp only [ho, hx, hy, Sem.run_bind]
  have := run_eql_agg hE hq x y w
  rw [Sem.run_bind] at this
  rw [this]
  rfl
theorem wpq_neq (hE : P.eqGuardType P.depth t = false) {ops : Array Oper} {C : World → Prop} {Q : Act → Prop} {a : Act} {o : Oper} {rest : List Oper} (hw : Region.wanted o (yielded ops a.tmps) = true) (x y : Operand) (ty : TypeId) (ho : o.op = .binOp .neq t x y ty)
    (hx : a.eval x = .agg xs) (hy : a.eval y = .agg ys) (hq : ∀ w, (Op.equalIn 10000 t (.agg xs) (.agg ys)).run P w = .ok b w)
    (h : wpQuiet P ops C Q rest (a.put o.dst (.bool (!b)))) : wpQuiet P ops C Q (o :: rest) a := by
  refine wpq_value _ hw (fun w hC => ?_) h
  unfold execOp
  simp only [ho, hx, hy, Sem.run_bind]
  have := run_neq_agg hE hq x y w
  rw [Sem.run_bind] at this
  rw [this]
  rfl
theorem wpl_eql (hE : P.eqGuardType P.depth t = false) {ops : Array Oper} {rest : List Oper} {o : Oper} {a : Act} {w : World} {Q : Exit → Act → World → Prop} (hw : Region.wanted o (yielded ops a.tmps) = true) (x y : Operand) (ty : TypeId) (ho : o.op = .binOp .eql t x y ty)
    (hx : a.eval x = .agg xs) (hy : a.eval y = .agg ys) (hq : ∀ w, (Op.equalIn 10000 t (.agg xs) (.agg ys)).run P w = .ok b w)
    (h : wpList P ops Q rest (a.put o.dst (.bool b)) w) : wpList P ops Q (o :: rest) a w := by
  refine wpList_step fun K hK => ?_
  rw [if_pos hw]
  unfold Oper.wp execOp
  simp only [ho, hx, hy, Sem.run_bind]
  have := run_eql_agg hE hq x y w
  rw [Sem.run_bind] at this
  rw [this]
  exact hK _ _ h
theorem wpl_neq (hE : P.eqGuardType P.depth t = false) {ops : Array Oper} {rest : List Oper} {o : Oper} {a : Act} {w : World} {Q : Exit → Act → World → Prop} (hw : Region.wanted o (yielded ops a.tmps) = true) (x y : Operand) (ty : TypeId) (ho : o.op = .binOp .neq t x y ty)
    (hx : a.eval x = .agg xs) (hy : a.eval y = .agg ys) (hq : ∀ w, (Op.equalIn 10000 t (.agg xs) (.agg ys)).run P w = .ok b w)
    (h : wpList P ops Q rest (a.put o.dst (.bool (!b))) w) : wpList P ops Q (o :: rest) a w := by
  refine wpList_step fun K hK => ?_
  rw [if_pos hw]
  unfold Oper.wp execOp
  simp only [ho, hx, hy, Sem.run_bind]
  have := run_neq_agg hE hq x y w
  rw [Sem.run_bind] at this
  rw [this]
  exact hK _ _ h
end
end Go.Tin
/- Slices whose elements have many cells (structs, arrays): what a slice reads as, a row of the call's own, append, an element read. No program in sight. -/
namespace Go.Tin
open Go.RowKit
set_option linter.unusedSimpArgs false
set_option linter.unusedVariables false

/-- Slice type s, of elements of type e, which have sz cells, by_ bytes each. -/
structure SV (P : Program) (s e : TypeId) (sz by_ : Nat) : Prop where
  us : P.underlying s = some (.slice e)
  info : ∃ i z, P.info? e = some i ∧ i.zero = some z ∧ z.cells.size = sz ∧ i.size = sz ∧ i.bytes = by_
  pos : 0 < sz
theorem SV.of {P : Program} {s e : TypeId} {sz b : Nat} (us : P.underlying s = some (.slice e))
    (h : (P.info? e).bind (fun i => i.zero.map fun z => (z.cells.size, i.size, i.bytes)) = some (sz, sz, b)) (hp : 0 < sz) : SV P s e sz b := by
  obtain ⟨i, hi, h⟩ := Option.bind_eq_some_iff.1 h
  obtain ⟨z, hz, h⟩ := Option.map_eq_some_iff.1 h
  simp only [Prod.mk.injEq] at h
  exact ⟨us, ⟨i, z, hi, hz, h.1, h.2.1, h.2.2⟩, hp⟩

/-- The cells from A on are xs. -/
def SlV (w : World) (A : Option Addr) (xs : List Value) : Prop :=
  xs = [] ∨ ∃ b off, A = some ⟨b, off, none⟩ ∧ b < w.heap.size ∧ ∀ i, i < xs.length → w.cell? ⟨b, off + i, none⟩ = xs[i]?
section
variable {w w' : World} {A : Option Addr} {xs : List Value} {B : Nat}
theorem SlV.nil_ : SlV w A [] := .inl rfl
theorem SlV.keep (h : SlV w A xs) (hb : Below w.heap.size w w') : SlV w' A xs := by
  rcases h with h | ⟨b, off, hA, hlt, hc⟩
  · exact .inl h
  · exact .inr ⟨b, off, hA, Nat.lt_of_lt_of_le hlt hb.size, fun i hi => (hb.cell (p := ⟨b, off + i, none⟩) hlt).trans (hc i hi)⟩
theorem SlV.at_ (h : SlV w A xs) (hl : 0 < xs.length) : ∃ b off, A = some ⟨b, off, none⟩ ∧ b < w.heap.size ∧ ∀ i, i < xs.length → w.cell? ⟨b, off + i, none⟩ = xs[i]? := by
  rcases h with h | h
  · subst h; simp at hl
  · exact h
theorem SlV.cut (h : SlV w A xs) (j : Nat) : SlV w (A.map (·.add j)) (xs.drop j) := by
  rcases h with h | ⟨b, off, hA, hlt, hc⟩
  · subst h; exact .inl (by simp)
  · subst hA
    refine .inr ⟨b, off + j, by simp [add_none], hlt, fun i hi => ?_⟩
    rw [List.length_drop] at hi
    rw [Nat.add_assoc, hc (j + i) (by omega)]
    simp
theorem SlV.take (h : SlV w A xs) (j : Nat) : SlV w A (xs.take j) := by
  rcases h with h | ⟨b, off, hA, hlt, hc⟩
  · subst h; exact .inl (by simp)
  · refine .inr ⟨b, off, hA, hlt, fun i hi => ?_⟩
    rw [List.length_take] at hi
    rw [hc i (by omega)]
    simp [show i < j by omega]
theorem SlV.cut' (h : SlV w A xs) {c j s : Nat} (hl : xs.length ≤ c * s) : SlV w (if c = j then A else A.map (·.add (j * s))) (xs.drop (j * s)) := by
  split
  · rename_i hj
    subst hj
    rw [List.drop_eq_nil_of_le hl]
    exact .inl rfl
  · exact h.cut _
theorem SlV.ofSl {k : IntKind} {zs : List Int} (h : Sl k w A zs) : SlV w A (zs.map (Value.int k)) := by
  rcases h with h | ⟨b, off, hA, hlt, hc⟩
  · subst h; exact .inl rfl
  · refine .inr ⟨b, off, hA, hlt, fun i hi => ?_⟩
    have hi' : i < zs.length := by simpa using hi
    rw [hc i hi']
    simp [List.getD_eq_getElem?_getD, hi']
theorem SlV.toSl {k : IntKind} {zs : List Int} (h : SlV w A (zs.map (Value.int k))) : Sl k w A zs := by
  rcases h with h | ⟨b, off, hA, hlt, hc⟩
  · exact .inl (by simpa using h)
  · refine .inr ⟨b, off, hA, hlt, fun i hi => ?_⟩
    rw [hc i (by simpa using hi)]
    simp [List.getD_eq_getElem?_getD, hi]
theorem SlV.new_ (w : World) (t : TypeId) (cs : Array Value) : SlV (w.alloc (.cells cs t)) (some ⟨w.heap.size, 0, none⟩) cs.toList := by
  refine .inr ⟨w.heap.size, 0, rfl, by simp, fun i hi => ?_⟩
  rw [World.cell?_alloc_new, ← Array.getElem?_toList, Nat.zero_add]
theorem SlV.rng {b off : Nat} (h : SlV w (some ⟨b, off, none⟩) xs) (i n : Nat) (hin : i + n ≤ xs.length) : w.rangeAt b (off + i) ((xs.drop i).take n) := by
  intro j v hj
  have hjl : j < ((xs.drop i).take n).length := (List.getElem?_eq_some_iff.1 hj).1
  rw [List.length_take, List.length_drop] at hjl
  rcases h with h | ⟨b', off', hA, hlt, hc⟩
  · subst h; simp at hin; omega
  · simp only [Option.some.injEq, Addr.mk.injEq, and_true] at hA
    obtain ⟨rfl, rfl⟩ := hA
    rw [Nat.add_assoc, hc (i + j) (by omega), ← hj]
    simp [show j < n by omega]
end

/-- v is a slice of n elements over a row of the call's own, in a block from B on; xs are its cells. -/
def OwnV (e : TypeId) (sz : Nat) (w : World) (B : Nat) (v : Value) (n : Nat) (xs : List Value) : Prop := w.ownsRow B e sz v n xs
section
variable {e : TypeId} {sz : Nat} {w w' : World} {B n : Nat} {v : Value} {xs : List Value}
theorem OwnV.len (h : OwnV e sz w B v n xs) : xs.length = n * sz := h.1
theorem OwnV.sl (h : OwnV e sz w B v n xs) : ∃ A c, v = .slice A n c ∧ SlV w A xs ∧ n ≤ c ∧ c ≤ maxLen ∧ ((A = none ∧ c = 0) ∨ ∃ g, A = some ⟨g, 0, none⟩ ∧ B ≤ g ∧ g < w.heap.size) := by
  obtain ⟨h1, h2⟩ := h
  rcases h2 with ⟨rfl, rfl⟩ | ⟨g, cap, cur, rfl, hBg, hh, hnc, hcm, hcs, hx⟩
  · have : xs = [] := List.eq_nil_of_length_eq_zero (by simpa using h1)
    subst this
    exact ⟨none, 0, rfl, .inl rfl, Nat.le_refl _, by decide, .inl ⟨rfl, rfl⟩⟩
  · have hlt : g < w.heap.size := by
      rcases Nat.lt_or_ge g w.heap.size with h | h
      · exact h
      · rw [Array.getElem?_eq_none h] at hh; cases hh
    refine ⟨some ⟨g, 0, none⟩, cap, rfl, .inr ⟨g, 0, rfl, hlt, fun i hi => ?_⟩, hnc, hcm, .inr ⟨g, rfl, hBg, hlt⟩⟩
    have h3 := World.ownsRow.cells (w := w) (base := B) (e := e) (size := sz) (v := .slice (some ⟨g, 0, none⟩) n cap) (n := n) (xs := xs) ⟨h1, .inr ⟨g, cap, cur, rfl, hBg, hh, hnc, hcm, hcs, hx⟩⟩ (g := g) rfl i xs[i]
      (List.getElem?_eq_getElem hi)
    rw [add_none] at h3
    rw [h3, List.getElem?_eq_getElem hi]
theorem OwnV.sl' {A : Option Addr} {m c : Nat} (h : OwnV e sz w B (.slice A m c) n xs) : m = n ∧ SlV w A xs ∧ n ≤ c ∧ c ≤ maxLen := by
  obtain ⟨A', c', he, hs, h1, h2, _⟩ := h.sl
  injection he with hA hn hc
  subst hA; subst hc
  exact ⟨hn, hs, h1, h2⟩
theorem ownv_form (h : OwnV e sz w B v n xs) : ∃ A c, v = .slice A n c := by
  obtain ⟨A, c, hv, _⟩ := h.sl
  exact ⟨A, c, hv⟩
theorem OwnV.keep (h : OwnV e sz w B v n xs) (hb : Below w.heap.size w w') : OwnV e sz w' B v n xs := by
  obtain ⟨h1, h2⟩ := h
  refine ⟨h1, ?_⟩
  rcases h2 with h2 | ⟨g, cap, cur, hv, hBg, hh, r⟩
  · exact .inl h2
  · refine .inr ⟨g, cap, cur, hv, hBg, ?_, r⟩
    have hlt : g < w.heap.size := by
      rcases Nat.lt_or_ge g w.heap.size with h | h
      · exact h
      · rw [Array.getElem?_eq_none h] at hh; cases hh
    rw [hb.block g hlt]; exact hh
theorem OwnV.nil_ (e : TypeId) (sz : Nat) (w : World) (B : Nat) : OwnV e sz w B (.slice none 0 0) 0 [] := ⟨by simp, .inl ⟨rfl, rfl⟩⟩
theorem OwnV.new0 (e : TypeId) (sz : Nat) (w : World) : OwnV e sz (w.alloc (.cells #[] e)) w.heap.size (.slice (some ⟨w.heap.size, 0, none⟩) 0 0) 0 [] :=
  ⟨by simp, .inr ⟨w.heap.size, 0, #[], rfl, Nat.le_refl _, heap_alloc_new w _, Nat.le_refl _, by decide, by simp, by simp⟩⟩
theorem OwnV.lit (w : World) (cs : Array Value) (hs : cs.size = n * sz) (hn : n ≤ maxLen) : OwnV e sz (w.alloc (.cells cs e)) w.heap.size (.slice (some ⟨w.heap.size, 0, none⟩) n n) n cs.toList :=
  ⟨by simpa using hs, .inr ⟨w.heap.size, n, cs, rfl, Nat.le_refl _, heap_alloc_new w _, Nat.le_refl _, hn, hs, List.take_of_length_le (by simp [hs])⟩⟩
theorem OwnV.mono {B' : Nat} (h : OwnV e sz w B v n xs) (hB : B' ≤ B) : OwnV e sz w B' v n xs := by
  obtain ⟨h1, h2⟩ := h
  refine ⟨h1, ?_⟩
  rcases h2 with h2 | ⟨g, cap, cur, hv, hBg, r⟩
  · exact .inl h2
  · exact .inr ⟨g, cap, cur, hv, Nat.le_trans hB hBg, r⟩
theorem OwnV.grown {w0 : World} (h : OwnV e sz w B v n xs) (hb : Below B w0 w) (hB : B ≤ w.heap.size) (hg : w.grownBy w' v.ownBlock) : Below B w0 w' :=
  hb.grown hg hB fun g hg => (World.ownsRow.lt h g hg).1
theorem OwnV.kept {row : Option Nat} (h : OwnV e sz w B v n xs) (hg : w.grownBy w' row) (hne : v.ownBlock = none ∨ v.ownBlock ≠ row) : OwnV e sz w' B v n xs :=
  World.ownsRow.kept h hg hne
theorem OwnV.alloc (h : OwnV e sz w B v n xs) (o : Obj) : OwnV e sz (w.alloc o) B v n xs := h.keep ((Below.refl _ _).alloc (Nat.le_refl _) o)
theorem OwnV.drew (h : OwnV e sz w B v n xs) : OwnV e sz w.drew B v n xs := h
theorem OwnV.low {A : Option Addr} {m c : Nat} (h : OwnV e sz w B (.slice A m c) n xs) : ∀ q, (Value.slice A m c).ownBlock = some q → B ≤ q ∧ q < w.heap.size := fun q hq => by
  obtain ⟨h1, h2⟩ := World.ownsRow.lt h q hq
  exact ⟨h1, h2⟩
end

section
variable {P : Program} {s e : TypeId} {sz by_ : Nat} (bt : SV P s e sz by_)
include bt
/-- append(x, y...), x a row of the call's own. -/
theorem appv_run (w : World) (ty : TypeId) (B : Nat) (v : Value) (n : Nat) (xs : List Value) (hown : OwnV e sz w B v n xs) (A : Option Addr) (m c : Nat) (news : List Value) (hl : news.length = m * sz) (hr : SlV w A news) (h1 : ∀ u ∈ news, u.oneCell' = true)
    (hlen : (n + m) * by_ ≤ 140737488355328) (hlen' : n + m ≤ 140737488355328) (hB : B ≤ w.heap.size) :
    ∃ v' w', (Builtin.append_ #[s, s] ty #[v, .slice A m c]).run P w = .ok v' w' ∧ OwnV e sz w' B v' (n + m) (xs ++ news) ∧ w.grownBy w' v.ownBlock ∧ (v'.ownBlock = v.ownBlock ∨ v'.ownBlock = some w.heap.size) := by
  obtain ⟨i, z, hi, hz, hzs, hsz, hby⟩ := bt.info
  have hcells : ∀ ad : Addr, A = some ad → ∀ j u, news[j]? = some u → w.cell? (ad.add j) = some u := by
    rintro ad rfl j u hj
    rcases hr with h | ⟨b, off, h, _, hc⟩
    · subst h; simp at hj
    · injection h with h
      subst h
      rw [add_none, hc j (List.getElem?_eq_some_iff.1 hj).1, hj]
  rcases A with _ | ad
  · have hn : news = [] := by
      rcases hr with h | ⟨b, off, h, _⟩
      · exact h
      · cases h
    subst hn
    have hm : m = 0 := by
      have : m * sz = 0 := by simpa using hl.symm
      rcases Nat.mul_eq_zero.1 this with h | h
      · exact h
      · have := bt.pos; omega
    subst hm
    refine ⟨v, w, ?_, by simpa using hown, World.grownBy.refl w _, .inl rfl⟩
    rcases hown.2 with ⟨rfl, h0⟩ | ⟨g, cap, cur, rfl, _, _, hnc, _⟩
    · subst h0
      simp [Builtin.append_, run_underlying bt.us, sizeOf, typeInfo, hi, Builtin.lenOf, Builtin.firstCells]
    · simp [Builtin.append_, run_underlying bt.us, sizeOf, typeInfo, hi, Builtin.lenOf, Builtin.firstCells, hnc, storeCells]
  · obtain ⟨v', w', h1', h2, h3, _, h5⟩ := run_append_own_at (P := P) w B s ty e i z sz by_ bt.us hi hz hsz hby hzs bt.pos v n xs hown ad m c news hl (hcells ad rfl) h1 (by unfold maxLen; omega) hlen hB
    exact ⟨v', w', h1', h2, h3, h5⟩
theorem wplv_app {ops : Array Oper} {rest : List Oper} {o : Oper} {a : Act} {Q : Exit → Act → World → Prop} (w : World) (hgd : o.guard = none) (x y : Operand)
    (ho : o.op = .call { callee := .builtin .append, args := #[x, y], argTypes := #[s, s] }) (B : Nat) (v : Value) (n : Nat) (xs : List Value) (hs : a.eval x = v) (hown : OwnV e sz w B v n xs)
    (A : Option Addr) (m c : Nat) (news : List Value) (hy : a.eval y = .slice A m c) (hl : news.length = m * sz) (hr : SlV w A news) (h1 : ∀ u ∈ news, u.oneCell' = true)
    (hlen : (n + m) * by_ ≤ 140737488355328) (hlen' : n + m ≤ 140737488355328) (hB : B ≤ w.heap.size)
    (h : ∀ A' c' w', OwnV e sz w' B (.slice A' (n + m) c') (n + m) (xs ++ news) → w.grownBy w' v.ownBlock → ((Value.slice A' (n + m) c').ownBlock = v.ownBlock ∨ (Value.slice A' (n + m) c').ownBlock = some w.heap.size) → wpList P ops Q rest (a.put o.dst (.slice A' (n + m) c')) w') : wpList P ops Q (o :: rest) a w := by
  refine wpList_plain hgd fun K hK => ?_
  obtain ⟨v', w', hrun, h2, h3, h4⟩ := appv_run bt w o.type B v n xs hown A m c news hl hr h1 hlen hlen' hB
  obtain ⟨A', c', rfl⟩ := ownv_form h2
  unfold Oper.wp execOp
  simp only [ho, resolve, invoke, builtin, Sem.run_bind, Sem.run_pure, Result.andThen_ok, List.map_toArray, List.map_cons, List.map_nil, hs, hy, hrun]
  exact hK _ _ (h A' c' w' h2 h3 h4)
/-- out = append(out, x): the element's own row was made one step ahead. -/
theorem wplv_push {ops : Array Oper} {rest : List Oper} {o : Oper} {a : Act} {Q : Exit → Act → World → Prop} (w : World) (cs : Array Value) (hgd : o.guard = none) (x y : Operand)
    (ho : o.op = .call { callee := .builtin .append, args := #[x, y], argTypes := #[s, s] }) (B : Nat) (A : Option Addr) (m c : Nat) (xs : List Value) (hs : a.eval x = .slice A m c) (hown : OwnV e sz w B (.slice A m c) m xs)
    (hB : B ≤ w.heap.size) (hy : a.eval y = .slice (some ⟨w.heap.size, 0, none⟩) 1 1) (hcs : cs.size = sz) (h1 : ∀ u ∈ cs.toList, u.oneCell' = true)
    (hlen : (m + 1) * by_ ≤ 140737488355328) (hlen' : m + 1 ≤ 140737488355328)
    (h : ∀ A' c' w', OwnV e sz w' B (.slice A' (m + 1) c') (m + 1) (xs ++ cs.toList) → w.grownBy w' (Value.slice A m c).ownBlock → ((Value.slice A' (m + 1) c').ownBlock = (Value.slice A m c).ownBlock ∨ ∃ g, (Value.slice A' (m + 1) c').ownBlock = some g ∧ w.heap.size ≤ g) → wpList P ops Q rest (a.put o.dst (.slice A' (m + 1) c')) w') :
    wpList P ops Q (o :: rest) a (w.alloc (.cells cs e)) := by
  have hg0 : w.grownBy (w.alloc (.cells cs e)) (Value.slice A m c).ownBlock := World.grownBy_alloc w _ _
  refine wplv_app bt _ hgd x y ho B _ m xs hs (hown.alloc _) (some ⟨w.heap.size, 0, none⟩) 1 1 cs.toList hy (by simpa using hcs) (SlV.new_ w _ _) h1 hlen hlen' (by simp; omega) fun A' c' w' h2 h3 h4 => ?_
  refine h A' c' w' h2 (hg0.trans h3) ?_
  rcases h4 with h4 | h4
  · exact .inl h4
  · exact .inr ⟨_, h4, by simp⟩
end

section
variable {P : Program} {t : TypeId} {n : Nat} (rt : RT P t n)
include rt
theorem loadv_run (w : World) (b o : Nat) (cs : List Value) (hn : cs.length = n) (hc : w.rangeAt b o cs) : (Instr.loadAt t (.pointer (some ⟨b, o, none⟩))).run P w = .ok (.agg cs.toArray) w := by
  obtain ⟨d, hu, hd⟩ := rt.ut
  have hr : (loadVar t ⟨b, o, none⟩).run P w = .ok (.agg cs.toArray) w := by
    cases d <;> first | (cases hd; done) | exact run_loadVar_mid w b o t cs _ hc hu rfl (by rw [rt.it, hn])
  simp only [Instr.loadAt, Instr.sureAddr, Sem.run_bind, Sem.run_pure, Result.andThen_ok, hr]
/-- An element (or a part) of many cells that is read. -/
theorem wpl_loadv {ops : Array Oper} {rest : List Oper} {o : Oper} {a : Act} {w : World} {Q : Exit → Act → World → Prop} (hgd : Region.wanted o (yielded ops a.tmps) = true) (x : Operand) (ho : o.op = .load t x)
    (b q : Nat) (hx : a.eval x = .pointer (some ⟨b, q, none⟩)) (cs : List Value) (hn : cs.length = n) (hc : w.rangeAt b q cs)
    (h : wpList P ops Q rest (a.put o.dst (.agg cs.toArray)) w) : wpList P ops Q (o :: rest) a w := by
  refine wpList_step fun K hK => ?_
  rw [if_pos hgd]
  unfold Oper.wp execOp
  simp only [ho, hx, Sem.run_bind, loadv_run rt w b q cs hn hc, Result.andThen_ok, Sem.run_pure]
  exact hK _ _ h
theorem wpq_loadv {ops : Array Oper} {C : World → Prop} {Q : Act → Prop} {a : Act} {o : Oper} {rest : List Oper} (hw : Region.wanted o (yielded ops a.tmps) = true) (x : Operand) (ho : o.op = .load t x)
    (b q : Nat) (hx : a.eval x = .pointer (some ⟨b, q, none⟩)) (cs : List Value) (hn : cs.length = n) (hc : ∀ w, C w → w.rangeAt b q cs)
    (h : wpQuiet P ops C Q rest (a.put o.dst (.agg cs.toArray))) : wpQuiet P ops C Q (o :: rest) a := by
  refine wpq_value _ hw (fun w hC => ?_) h
  unfold execOp
  simp only [ho, hx, Sem.run_bind, loadv_run rt w b q cs hn (hc w hC), Result.andThen_ok, Sem.run_pure]
end
end Go.Tin
/- What a call leaves alone that writes into one block and its row; the block of a row. No program in sight. -/
namespace Go.Tin
open Go.RowKit
set_option linter.unusedSimpArgs false
set_option linter.unusedVariables false
theorem row_push {w w4 : World} {g : Nat} {o q : Obj} {x : Option Nat} (hr : w.heap[g]? = some o) (hlt : g < w.heap.size) (hg : (w.alloc q).drew.grownBy w4 x) (hne : x ≠ some g) : w4.heap[g]? = some o :=
  (hg.block g (by show g < (w.alloc q).heap.size; simp; omega) (fun e => hne e.symm)).trans ((Below.heap_alloc w q g hlt).trans hr)
/-- All blocks but one, and a row, are as they were. -/
structure Fr (w w' : World) (g : Nat) (r : Option Nat) : Prop where
  os : w'.os = w.os
  tape : w'.tape = w.tape
  output : w'.output = w.output
  size : w.heap.size ≤ w'.heap.size
  block : ∀ k, k < w.heap.size → k ≠ g → some k ≠ r → w'.heap[k]? = w.heap[k]?
theorem Fr.start {w w' : World} {g : Nat} {r : Option Nat} (h : w.grownBy w' (some g)) : Fr w w' g r :=
  ⟨h.os, h.tape, h.output, h.size, fun k hk hg _ => h.block k hk (fun e => hg (by injection e))⟩
theorem Fr.grow {w w1 w2 : World} {g : Nat} {r x : Option Nat} (h : Fr w w1 g r) (h2 : w1.grownBy w2 x) (hx : x = some g ∨ x = none ∨ x = r ∨ ∃ q, x = some q ∧ w.heap.size ≤ q) : Fr w w2 g r :=
  ⟨h2.os.trans h.os, h2.tape.trans h.tape, h2.output.trans h.output, Nat.le_trans h.size h2.size, fun k hk hg hr => by
    refine (h2.block k (Nat.lt_of_lt_of_le hk h.size) ?_).trans (h.block k hk hg hr)
    rintro e
    rcases hx with hx | hx | hx | ⟨q, hx, hq⟩
    · rw [hx] at e; injection e with e; exact hg e
    · rw [hx] at e; cases e
    · rw [hx] at e; exact hr e
    · rw [hx] at e; injection e with e; omega⟩
/-- The block of a row. -/
def ob (A : Option Addr) : Option Nat := (Value.slice A 0 0).ownBlock
theorem ob_eq (A : Option Addr) (n c : Nat) : (Value.slice A n c).ownBlock = ob A := by cases A <;> rfl
theorem ob_some (g o : Nat) : ob (some ⟨g, o, none⟩) = some g := rfl
/-- The row is the elder one, or a new one. -/
def How (w : World) (A A' : Option Addr) : Prop := ob A' = ob A ∨ ∃ q, ob A' = some q ∧ w.heap.size ≤ q
theorem How.or {w : World} {A A' : Option Addr} {g : Nat} (h : How w A A') : ob A' = some g ∨ ob A' = none ∨ ob A' = ob A ∨ ∃ q, ob A' = some q ∧ w.heap.size ≤ q := by
  rcases h with h | h
  · exact .inr (.inr (.inl h))
  · exact .inr (.inr (.inr h))
theorem Fr.below {w0 w w' : World} {B g : Nat} {r : Option Nat} (h : Fr w w' g r) (hb : Below B w0 w) (hg : B ≤ g) (hr : ∀ q, r = some q → B ≤ q) (hB : B ≤ w.heap.size) : Below B w0 w' :=
  ⟨h.os.trans hb.os, h.tape.trans hb.tape, h.output.trans hb.output, Nat.le_trans hb.size h.size, fun k hk => (h.block k (by omega) (by omega) (fun e => by have := hr k e.symm; omega)).trans (hb.block k hk)⟩
theorem Fr.refl (w : World) (g : Nat) (r : Option Nat) : Fr w w g r := ⟨rfl, rfl, rfl, Nat.le_refl _, fun _ _ _ _ => rfl⟩
theorem Fr.bel {w w1 w2 : World} {g : Nat} {r : Option Nat} (h : Fr w w1 g r) (hb : Below w1.heap.size w1 w2) : Fr w w2 g r :=
  h.grow (x := none) ⟨hb.os, hb.tape, hb.output, hb.size, fun k hk _ => hb.block k hk⟩ (.inr (.inl rfl))
theorem Fr.cell {w w' : World} {g b o : Nat} {r : Option Nat} (h : Fr w w' g r) (hb : b < w.heap.size) (h1 : b ≠ g) (h2 : some b ≠ r) : w'.cell? ⟨b, o, none⟩ = w.cell? ⟨b, o, none⟩ := by
  unfold World.cell?
  rw [show w'.heap[(⟨b, o, none⟩ : Addr).block]? = w.heap[(⟨b, o, none⟩ : Addr).block]? from h.block b hb h1 h2]
theorem Sl.fr_lt {k : IntKind} {w0 w w' : World} {A : Option Addr} {l : List Int} {g : Nat} (h : Sl k w0 A l) (hb : Below w0.heap.size w0 w) (hlt : w0.heap.size ≤ g) (hf : Fr w w' g none) : Sl k w' A l := by
  rcases h with h | ⟨b, off, hA, hbl, hc⟩
  · exact .inl h
  · have hz := hb.size
    have hz2 := hf.size
    exact .inr ⟨b, off, hA, by omega, fun i hi => (hf.cell (by omega) (by omega) (by simp)).trans ((hb.cell (p := ⟨b, off + i, none⟩) hbl).trans (hc i hi))⟩
theorem Sl.frN {k : IntKind} {w w' : World} {A : Option Addr} {l : List Int} {g : Nat} (h : Sl k w A l) (hn : ∀ a, A = some a → a.block ≠ g) (hf : w.grownBy w' (some g)) : Sl k w' A l := by
  rcases h with h | ⟨b, off, hA, hbl, hc⟩
  · exact .inl h
  · refine .inr ⟨b, off, hA, Nat.lt_of_lt_of_le hbl hf.size, fun i hi => ?_⟩
    rw [← hc i hi]
    unfold World.cell?
    rw [show w'.heap[(⟨b, off + i, none⟩ : Addr).block]? = w.heap[(⟨b, off + i, none⟩ : Addr).block]? from hf.block b hbl (fun e => hn _ hA (by injection e))]
theorem Sl.cellsI {k : IntKind} {w : World} {A : Option Addr} {l : List Int} (h : Sl k w A l) (h0 : 0 < l.length) : ∃ b off, A = some ⟨b, off, none⟩ ∧ RowKit.Hid (∀ W : World, (∀ o, W.cell? ⟨b, o, none⟩ = w.cell? ⟨b, o, none⟩) → ∀ i, i < l.length → W.cell? ⟨b, off + i, none⟩ = some (.int k (nth l i))) := by
  obtain ⟨b, off, rfl, hlt, hc⟩ := h.at_ h0
  exact ⟨b, off, rfl, Lib.hid fun W hW i hi => (hW _).trans (hc i hi)⟩

theorem Sl.frcells {k : IntKind} {w0 w : World} {A : Option Addr} {l : List Int} {g : Nat} (h : Sl k w0 A l) (hb : Below w0.heap.size w0 w) (hlt : w0.heap.size ≤ g) (h0 : 0 < l.length) :
    ∃ b off, A = some ⟨b, off, none⟩ ∧ RowKit.Hid (∀ W : World, Fr w W g none → ∀ i, i < l.length → W.cell? ⟨b, off + i, none⟩ = some (.int k (nth l i))) := by
  obtain ⟨b, off, rfl, hbl, hc⟩ := h.at_ h0
  have hz := hb.size
  exact ⟨b, off, rfl, Lib.hid fun W hf i hi => (hf.cell (by omega) (by omega) (by simp)).trans ((hb.cell (p := ⟨b, off + i, none⟩) hbl).trans (hc i hi))⟩
theorem block_add (a : Addr) (n : Nat) : (a.add n).block = a.block := by unfold Addr.add; split <;> rfl
theorem ud {B : Nat} {w x : World} (h : Below B w.drew x) : Below B w x := ⟨h.os, h.tape, h.output, h.size, h.block⟩
theorem ownsRow_keepFr {e : TypeId} {sz n : Nat} {w w' : World} {B g : Nat} {r : Option Nat} {v : Value} {xs : List Value} (h : w.ownsRow B e sz v n xs) (hf : Fr w w' g r) (h1 : v.ownBlock ≠ some g) (h2 : v.ownBlock = none ∨ v.ownBlock ≠ r) : w'.ownsRow B e sz v n xs := by
  obtain ⟨h3, h4⟩ := h
  refine ⟨h3, ?_⟩
  rcases h4 with h4 | ⟨q, cap, cur, hv, hBg, hh, hr⟩
  · exact .inl h4
  · refine .inr ⟨q, cap, cur, hv, hBg, ?_, hr⟩
    subst hv
    have hlt : q < w.heap.size := by
      rcases Nat.lt_or_ge q w.heap.size with h | h
      · exact h
      · rw [Array.getElem?_eq_none h] at hh; cases hh
    rw [hf.block q hlt (fun e => h1 (by simp [Value.ownBlock, e])) (fun e => by
      rcases h2 with h2 | h2
      · simp [Value.ownBlock] at h2
      · exact h2 (by simpa [Value.ownBlock] using e))]
    exact hh
theorem ownsRow_low {e : TypeId} {sz n : Nat} {w : World} {B m c : Nat} {A : Option Addr} {xs : List Value} (h : w.ownsRow B e sz (.slice A m c) n xs) : ∀ q, ob A = some q → B ≤ q ∧ q < w.heap.size := by
  intro q hq
  rw [← ob_eq A m c] at hq
  obtain ⟨h1, h2⟩ := World.ownsRow.lt h q hq
  exact ⟨by omega, by omega⟩
theorem row_lt {w : World} {g : Nat} {o : Obj} (h : w.heap[g]? = some o) : g < w.heap.size := by
  rcases Nat.lt_or_ge g w.heap.size with h1 | h1
  · exact h1
  · rw [Array.getElem?_eq_none h1] at h; cases h
theorem Fr.comp {w w1 w2 : World} {g : Nat} {r r' : Option Nat} (h : Fr w w1 g r) (h2 : Fr w1 w2 g r') (hr : r' = r ∨ ∃ q, r' = some q ∧ w.heap.size ≤ q) : Fr w w2 g r :=
  ⟨h2.os.trans h.os, h2.tape.trans h.tape, h2.output.trans h.output, Nat.le_trans h.size h2.size, fun k hk hg hne => by
    refine (h2.block k (Nat.lt_of_lt_of_le hk h.size) hg ?_).trans (h.block k hk hg hne)
    intro e
    rcases hr with hr | ⟨q, hr, hq⟩
    · rw [hr] at e; exact hne e
    · rw [hr] at e; injection e with e; omega⟩
theorem How.comp {w w1 : World} {A A' A'' : Option Addr} (h : How w A A') (h2 : How w1 A' A'') (hs : w.heap.size ≤ w1.heap.size) : How w A A'' := by
  rcases h2 with e | ⟨q, e, hq⟩
  · rcases h with e1 | ⟨q, e1, hq⟩
    · exact .inl (e.trans e1)
    · exact .inr ⟨q, e.trans e1, hq⟩
  · exact .inr ⟨q, e, by omega⟩
theorem set_other {w : World} {g i X : Nat} {v : Value} (h : X ≠ g) : (w.setCell ⟨g, i, none⟩ v).heap[X]? = w.heap[X]? := heap_setCell_other _ _ _ _ h
theorem below_drew {B : Nat} {w0 w : World} (h : Below B w0 w) : Below B w0 w.drew := ⟨h.os, h.tape, h.output, h.size, h.block⟩
theorem bdn' {B : Nat} {w0 w : World} (hb : Below B w0 w) (n : Nat) : Below B w0 (w.drewN n) := ⟨hb.os, hb.tape, hb.output, hb.size, hb.block⟩
theorem wraps_u32' (n : Int) (h₀ : 0 ≤ n) (h₁ : n < 2 ^ 32) : IntKind.u32.wrap n = n := by rw [IntKind.wrap_u32]; omega
end Go.Tin
/- The word of Owv (push) for a region that draws its order (go_region_law). No program in sight. -/
namespace Go.Tin
open Go.RowKit
set_option linter.unusedSimpArgs false
set_option linter.unusedVariables false
section
variable {P : Program} {s e : TypeId} {sz by_ : Nat} (bt : SV P s e sz by_)
include bt
/-- out = append(out, x), in a region that draws: the element's own row lies in w. Give the values outright. -/
theorem step_pushv {ops : Array Oper} {o : Oper} {a : Act} {K : Act → World → Prop} {Q : Exit → Act → World → Prop} {E : Prop} (w : World) (hgd : o.guard = none) (x y : Operand)
    (ho : o.op = .call { callee := .builtin .append, args := #[x, y], argTypes := #[s, s] }) (B : Nat) (A : Option Addr) (m c : Nat) (xs cs : List Value) (hs : a.eval x = .slice A m c) (hown : OwnV e sz w B (.slice A m c) m xs)
    (b : Nat) (hy : a.eval y = .slice (some ⟨b, 0, none⟩) 1 1) (hb : w.rangeAt b 0 cs) (hcs : cs.length = sz) (h1 : ∀ u ∈ cs, u.oneCell' = true) (hB : B ≤ w.heap.size)
    (hlen : (m + 1) * by_ ≤ 140737488355328) (hlen' : m + 1 ≤ 140737488355328)
    (h : ∀ g cap w', OwnV e sz w' B (.slice (some ⟨g, 0, none⟩) (m + 1) cap) (m + 1) (xs ++ cs) → w.grownBy w' (Value.slice A m c).ownBlock → ((Value.slice A m c).ownBlock = some g ∨ g = w.heap.size) → g < w'.heap.size → K (a.put o.dst (.slice (some ⟨g, 0, none⟩) (m + 1) cap)) w') :
    if Region.wanted o (yielded ops a.tmps) = true then Oper.wp P o a w K Q else E := by
  obtain ⟨i, z, hi, hz, hzs, hsz, hby⟩ := bt.info
  refine step_append_lies w hgd x y s ho B e i z sz by_ bt.us hi hz hsz hby hzs bt.pos (.slice A m c) m xs hs hown ⟨b, 0, none⟩ 1 1 cs hy (by simpa using hcs) ?_ h1 (by decide) (by unfold maxLen; omega) hlen hB w.heap.size rfl h
  intro j u hj
  have := hb j u hj
  simpa [add_none] using this
end
theorem rng_alloc {w : World} {e : TypeId} (cs : List Value) : (w.alloc (.cells cs.toArray e)).rangeAt w.heap.size 0 cs := by
  intro j v hj
  rw [Nat.zero_add, World.cell?_alloc_new]
  simpa using hj
theorem rng_drew {w : World} {b o : Nat} {cs : List Value} (h : w.rangeAt b o cs) : w.drew.rangeAt b o cs := h
end Go.Tin
/- append(x, make([]T, m)...), x a row of the call's own that is not empty. No program in sight. -/
namespace Go.Tin
open Go.RowKit
set_option linter.unusedSimpArgs false
set_option linter.unusedVariables false
section
variable {P : Program} {s e : TypeId} {k : IntKind} {by_ : Nat} (bt : ST P s e k by_)
theorem zeroCells_int (m : Nat) : Builtin.zeroCells (Value.int k 0).cells m = (List.replicate m (Value.int k 0)).toArray := by
  apply Array.ext
  · simp [Builtin.zeroCells, Value.cells]
  · intro i h1 h2
    simp only [Builtin.zeroCells, Value.cells, Array.getElem_map, List.getElem_toArray, List.getElem_replicate]
    have : i % 1 = 0 := Nat.mod_one i
    simp [this]

include bt in
set_option maxRecDepth 100000 in
theorem appz_run {u : TypeId} {ku : IntKind} (hu : P.underlying u = some (.int ku)) (w : World) (ty : TypeId) (B : Nat) (v : Value) (l : List Int) (hown : Own k e w B v l) (h0 : 0 < l.length) (m : Nat)
    (hlen : (l.length + m) * by_ ≤ 140737488355328) (hlen' : l.length + m ≤ 140737488355328) (hmb : m * by_ ≤ 140737488355328) (hB : B ≤ w.heap.size) :
    ∃ v' w', (Builtin.append_ #[s, u] ty #[v, .int .i64 (m : Int)]).run P w = .ok v' w' ∧ Own k e w' B v' (l ++ List.replicate m 0) ∧ w.grownBy w' v.ownBlock ∧ (v'.ownBlock = v.ownBlock ∨ v'.ownBlock = some w.heap.size) := by
  obtain ⟨i, hi, hz, hsz, hby⟩ := bt.info
  have hmap : (List.replicate m (0 : Int)).map (Value.int k) = List.replicate m (Value.int k 0) := List.map_replicate
  have hwm : IntKind.i64.wrap (m : Int) = (m : Int) := by rw [wrap_i64]; omega
  have hm0 : ¬ ((m : Int) < 0) := by omega
  have hmb' : ¬ (281474976710656 < (m : Int) * (by_ : Int)) := by
    have h := Int.ofNat_le.2 hmb
    rw [Int.natCast_mul] at h
    generalize (m : Int) * (by_ : Int) = x at *
    omega
  obtain ⟨hxl, hown2⟩ := hown
  rcases hown2 with ⟨rfl, hn⟩ | ⟨g, cap, cur, rfl, hbg, hg, hnc, hcm, hcs, htake⟩
  · omega
  · by_cases hm : m = 0
    · subst hm
      refine ⟨.slice (some ⟨g, 0, none⟩) l.length cap, w, ?_, by rw [List.replicate_zero, List.append_nil]; exact ⟨hxl, .inr ⟨g, cap, cur, rfl, hbg, hg, hnc, hcm, hcs, htake⟩⟩, World.grownBy.refl w _, .inl rfl⟩
      simp [Builtin.append_, run_underlying bt.us, run_underlying hu, sizeOf, typeInfo, hi, hz, zeroValue, hnc, asInt, asIntOf, wrap_i64, hby, hsz, storeCells]
    have hmp : ¬ ((m : Int) ≤ 0) := by omega
    have hz1 : Builtin.zeroCells (Value.int k 0).cells m = (List.replicate m (Value.int k 0)).toArray := zeroCells_int m
    by_cases hroom : l.length + m ≤ cap
    · have hst := run_storeCells_at P g l.length e (List.replicate m (Value.int k 0)) 0 cur w hg (by simp; omega) (by intro u hu; rw [List.eq_of_mem_replicate hu]; rfl)
      simp only [Nat.add_zero] at hst
      refine ⟨.slice (some ⟨g, 0, none⟩) (l.length + m) cap, w.setRow g (cur.toList.take l.length ++ List.replicate m (Value.int k 0) ++ cur.toList.drop (l.length + m)).toArray, ?_, ?_, ⟨rfl, rfl, rfl, by simp, fun q _ hq => setRow_other w g q _ (fun e => hq (by simp [Value.ownBlock, e]))⟩, .inl rfl⟩
      · simp [Builtin.append_, run_underlying bt.us, run_underlying hu, sizeOf, typeInfo, hi, hz, zeroValue, hroom, asInt, asIntOf, hwm, hm0, hby, hmb', hsz, hmp, hm, Addr.add_lit, zeroCells_int, hst]
      · unfold Own
        rw [List.length_append, List.map_append, List.length_replicate, hmap]
        refine ⟨by simp, .inr ⟨g, cap, _, rfl, hbg, setRow_heap w g cur _ e _ hg, hroom, hcm, ?_, ?_⟩⟩
        · simp only [List.size_toArray, List.length_append, List.length_take, List.length_drop, Array.length_toList, List.length_replicate]
          omega
        · rw [Nat.mul_one] at htake
          rw [htake, Nat.mul_one]
          have : l.length + m = (List.map (Value.int k) l ++ List.replicate m (Value.int k 0)).length := by simp
          simp only [List.append_assoc]
          rw [← List.append_assoc, this]
          exact List.take_left
    · have holds : ∀ j u, (l.map (Value.int k))[j]? = some u → w.cell? ((⟨g, 0, none⟩ : Addr).add j) = some u := (show w.ownsRow B e 1 (.slice (some ⟨g, 0, none⟩) l.length cap) l.length (l.map (Value.int k)) from ⟨hxl, .inr ⟨g, cap, cur, rfl, hbg, hg, hnc, hcm, hcs, htake⟩⟩).cells (g := g) rfl
      have hfo := run_firstCells_some (P := P) w.drew 1 l.length ⟨g, 0, none⟩ l.length cap (l.map (Value.int k)) (by simp) (by simpa using holds)
      have hge := grownCap_ge w (l.length + m) cap e
      have hcm' : grownCap w (l.length + m) cap e ≤ maxLen := grownCap_le_maxLen w (l.length + m) cap e (by unfold maxLen; omega)
      have h63' : ¬ (9223372036854775807 < ((l.length : Int) + (m : Int))) := by omega
      have h48' : ¬ (281474976710656 < Builtin.nextslicecap (l.length + m) cap * by_) := by
        have := growslice_fits (need := l.length + m) (old := cap) (bytes := by_) (by omega) hlen
        omega
      refine ⟨.slice (some ⟨w.heap.size, 0, none⟩) (l.length + m) (grownCap w (l.length + m) cap e), w.drew.alloc (.cells ((l.map (Value.int k)).toArray ++ (List.replicate m (Value.int k 0)).toArray ++ Builtin.zeroCells (Value.int k 0).cells (grownCap w (l.length + m) cap e - (l.length + m))) e), ?_, ?_, ⟨rfl, rfl, rfl, by simp, fun q hq _ => heap_alloc_old w.drew _ hq⟩, .inr rfl⟩
      · simp [Builtin.append_, run_underlying bt.us, run_underlying hu, sizeOf, typeInfo, hi, hz, zeroValue, hroom, asInt, asIntOf, hwm, hm0, hby, hmb', hsz, hmp, hm, h63', h48', Question.forced, hfo, newRow, grownCap, zeroCells_int]
      · unfold Own
        rw [List.length_append, List.map_append, List.length_replicate, hmap]
        refine ⟨by simp, .inr ⟨w.heap.size, _, _, rfl, hB, heap_alloc_new w.drew _, hge, hcm', ?_, ?_⟩⟩
        · simp only [Array.size_append, List.size_toArray, size_zeroCells, Value.cells, List.length_map, List.length_replicate, Nat.mul_one]
          simp
          omega
        · simp only [Array.toList_append, List.append_assoc, Nat.mul_one]
          have : l.length + m = (List.map (Value.int k) l ++ List.replicate m (Value.int k 0)).length := by simp
          rw [← List.append_assoc, this]
          exact List.take_left
include bt in
/-- append(x, make([]T, m)...), x a row of the call's own that is not empty. -/
theorem wpl_appz {u : TypeId} {ku : IntKind} (hu : P.underlying u = some (.int ku)) {ops : Array Oper} {rest : List Oper} {o : Oper} {a : Act} {Q : Exit → Act → World → Prop} (w : World) (hgd : o.guard = none) (x y : Operand)
    (ho : o.op = .call { callee := .builtin .append, args := #[x, y], argTypes := #[s, u] }) (B : Nat) (v : Value) (l : List Int) (hs : a.eval x = v) (hown : Own k e w B v l) (h0 : 0 < l.length)
    (m : Nat) (hx : a.eval y = .int .i64 (m : Int))
    (hlen : (l.length + m) * by_ ≤ 140737488355328) (hlen' : l.length + m ≤ 140737488355328) (hmb : m * by_ ≤ 140737488355328) (hB : B ≤ w.heap.size)
    (h : ∀ v' w', Own k e w' B v' (l ++ List.replicate m 0) → w.grownBy w' v.ownBlock → (v'.ownBlock = v.ownBlock ∨ v'.ownBlock = some w.heap.size) → wpList P ops Q rest (a.put o.dst v') w') : wpList P ops Q (o :: rest) a w := by
  refine wpList_plain hgd fun K hK => ?_
  obtain ⟨v', w', hrun, h2, h3, h4⟩ := appz_run bt hu w o.type B v l hown h0 m hlen hlen' hmb hB
  unfold Oper.wp execOp
  simp only [ho, resolve, invoke, builtin, Sem.run_bind, Sem.run_pure, Result.andThen_ok, List.map_toArray, List.map_cons, List.map_nil, hs, hx, hrun]
  exact hK _ _ (h v' w' h2 h3 h4)
end
end Go.Tin
/- append(x, n), x a row whose cells are known, whatever mark its block bears. No program in sight. -/
namespace Go.Tin
open Go.RowKit
set_option linter.unusedSimpArgs false
set_option linter.unusedVariables false
section
variable {P : Program} {s e : TypeId} {k : IntKind} {by_ : Nat} (bt : ST P s e k by_)
include bt in
set_option maxRecDepth 100000 in
theorem appm_run (w : World) (ty : TypeId) (B g c : Nat) (l : List Int) (hl : ∀ j v, (l.map (Value.int k))[j]? = some v → w.cell? ((⟨g, 0, none⟩ : Addr).add j) = some v) (hgB : B ≤ g) (hlt : g < w.heap.size)
    (hroom : l.length + 1 ≤ c → (∃ v, w.cell? ⟨g, l.length, none⟩ = some v) ∧ w.frozen? ⟨g, l.length, none⟩ = false)
    (a : Addr) (n : Int) (hn : w.cell? a = some (.int k n))
    (hlen : (l.length + 1) * by_ ≤ 140737488355328) (hlen' : l.length + 1 ≤ 140737488355328) :
    ∃ A' c' w', (Builtin.append_ #[s, s] ty #[.slice (some ⟨g, 0, none⟩) l.length c, .slice (some a) 1 1]).run P w = .ok (.slice A' (l.length + 1) c') w' ∧ Sl k w' A' (l ++ [n]) ∧ Below B w w' ∧ ∀ b o, A' = some ⟨b, o, none⟩ → B ≤ b := by
  obtain ⟨i, hi, hz, hsz, hby⟩ := bt.info
  have hnews : ∀ j v, ([Value.int k n] : List Value)[j]? = some v → w.cell? (a.add j) = some v := by
    intro j v hj
    match j with
    | 0 => simp at hj; subst hj; simpa [Addr.add] using hn
    | j + 1 => simp at hj
  by_cases hr : l.length + 1 ≤ c
  · obtain ⟨⟨v0, hv0⟩, hfz⟩ := hroom hr
    have hf := run_firstCells_some (P := P) w i.size 1 a 1 1 [Value.int k n] (by simp [hsz]) hnews
    rw [hsz] at hf
    have hst : (storeCells ⟨g, l.length, none⟩ [Value.int k n]).run P w = .ok () (w.setCell ⟨g, l.length, none⟩ (.int k n)) := by
      simp only [storeCells, Sem.run_bind, Sem.run_pure]
      rw [show (⟨g, l.length, none⟩ : Addr).add 0 = ⟨g, l.length, none⟩ from by simp [Addr.add], run_store P w _ _ _ rfl, hv0]
      simp only [hfz]
      rfl
    refine ⟨some ⟨g, 0, none⟩, c, w.setCell ⟨g, l.length, none⟩ (.int k n), ?_, ?_, ?_, fun b o h => by injection h with h; injection h with h; omega⟩
    · simp [Builtin.append_, run_underlying bt.us, sizeOf, typeInfo, hi, Builtin.lenOf, hr, hf, Addr.add_lit, hsz, hst]
    · refine .inr ⟨g, 0, rfl, by simpa [World.setCell] using hlt, fun j hj => ?_⟩
      rw [List.length_append, List.length_cons, List.length_nil] at hj
      by_cases hjl : j = l.length
      · subst hjl
        rw [Nat.zero_add, World.cell?_setCell_same _ _ _ hv0]
        simp
      · rw [World.cell?_setCell_other _ _ _ _ (by intro h; injection h; omega)]
        have hj' : j < l.length := by simp at hj; omega
        have := hl j (.int k (l.getD j 0)) (by simp [List.getElem?_map, List.getElem?_eq_getElem hj', List.getD])
        rw [show (⟨g, 0 + j, none⟩ : Addr) = (⟨g, 0, none⟩ : Addr).add j from by simp [Addr.add], this]
        simp [List.getD, List.getElem?_append_left hj']
    · exact (Below.refl B w).grown (grown_setCells g [.int k n] l.length w w (World.grownBy.refl w _)) (by omega) (fun q hq => by have e' : g = q := Option.some.inj hq; omega)
  · have hgr := run_append_grow (P := P) w s ty e i (.int k 0) bt.us hi hz ⟨g, 0, none⟩ l.length c (l.map (Value.int k)) (by simp [hsz]) hl a 1 1 [Value.int k n] (by simp [hsz]) hnews (by omega) (by omega) (by rw [hby]; exact growslice_fits (by omega) hlen)
    refine ⟨_, _, _, hgr, ?_, ?_, fun b o h => by injection h with h; injection h with h; omega⟩
    · have hz1 := zeroCells_int (k := k) (grownCap w (l.length + 1) c e - (l.length + 1))
      have hsl := Sl.new_ (k := k) w.drew e ((l.map (Value.int k)).toArray ++ #[Value.int k n] ++ Builtin.zeroCells (Value.int k 0).cells (grownCap w (l.length + 1) c e - (l.length + 1))) (l ++ [n] ++ List.replicate (grownCap w (l.length + 1) c e - (l.length + 1)) 0) (by rw [hz1]; simp)
      have := hsl.take (l.length + 1)
      rw [List.take_left' (by simp)] at this
      exact this
    · have h := (Below.refl B w.drew).alloc (show B ≤ w.drew.heap.size from by show B ≤ w.heap.size; omega) (.cells ((l.map (Value.int k)).toArray ++ #[Value.int k n] ++ Builtin.zeroCells (Value.int k 0).cells (grownCap w (l.length + 1) c e - (l.length + 1))) e)
      exact ⟨h.os, h.tape, h.output, h.size, h.block⟩
include bt in
/-- append(x, n), x a row whose cells are known; n's own row was made before. -/
theorem wpl_appm {ops : Array Oper} {rest : List Oper} {o : Oper} {a : Act} {Q : Exit → Act → World → Prop} (w : World) (hgd : o.guard = none) (x y : Operand)
    (ho : o.op = .call { callee := .builtin .append, args := #[x, y], argTypes := #[s, s] }) (B g c : Nat) (l : List Int) (hs : a.eval x = .slice (some ⟨g, 0, none⟩) l.length c)
    (hl : ∀ j v, (l.map (Value.int k))[j]? = some v → w.cell? ((⟨g, 0, none⟩ : Addr).add j) = some v) (hgB : B ≤ g) (hlt : g < w.heap.size)
    (hroom : l.length + 1 ≤ c → (∃ v, w.cell? ⟨g, l.length, none⟩ = some v) ∧ w.frozen? ⟨g, l.length, none⟩ = false)
    (ad : Addr) (n : Int) (hy : a.eval y = .slice (some ad) 1 1) (hn : w.cell? ad = some (.int k n))
    (hlen : (l.length + 1) * by_ ≤ 140737488355328) (hlen' : l.length + 1 ≤ 140737488355328)
    (h : ∀ A' c' w', Sl k w' A' (l ++ [n]) → Below B w w' → (∀ b o, A' = some ⟨b, o, none⟩ → B ≤ b) → wpList P ops Q rest (a.put o.dst (.slice A' (l.length + 1) c')) w') : wpList P ops Q (o :: rest) a w := by
  refine wpList_plain hgd fun K hK => ?_
  obtain ⟨A', c', w', hrun, h2, h3, h4⟩ := appm_run bt w o.type B g c l hl hgB hlt hroom ad n hn hlen hlen'
  unfold Oper.wp execOp
  simp only [ho, resolve, invoke, builtin, Sem.run_bind, Sem.run_pure, Result.andThen_ok, List.map_toArray, List.map_cons, List.map_nil, hs, hy, hrun]
  exact hK _ _ (h A' c' w' h2 h3 h4)
end
/-- A text's bytes. -/
def bytesL (s : ByteArray) : List Int := s.data.toList.map fun b => (b.toNat : Int)
theorem bytesL_len (s : ByteArray) : (bytesL s).length = s.size := by
  unfold bytesL
  rw [List.length_map, Array.length_toList]
  rfl
theorem bw_below (w : World) (e : TypeId) (s : ByteArray) : Below w.heap.size w (Lib.bytesWorld w e s) := by
  have h0 : Below w.heap.size w (w.drew.alloc (.cells (Lib.bytesCells w e s) e)) := by
    have h := (Below.refl w.heap.size w.drew).alloc (show w.heap.size ≤ w.drew.heap.size from Nat.le_refl _) (.cells (Lib.bytesCells w e s) e)
    exact ⟨h.os, h.tape, h.output, h.size, h.block⟩
  refine h0.trans ?_
  unfold Lib.bytesWorld World.freeze
  split
  · exact Below.refl _ _
  · refine ⟨rfl, rfl, rfl, by simp, fun k hk => ?_⟩
    rw [Array.getElem?_modify]
    have : ¬ w.heap.size = k := by omega
    simp [this]
/-- What stands in the new row. -/
theorem bw_cell (w : World) (e : TypeId) (s : ByteArray) (j : Nat) (v : Value) (hj : ((bytesL s).map (Value.int .u8))[j]? = some v) : (Lib.bytesWorld w e s).cell? ((⟨w.heap.size, 0, none⟩ : Addr).add j) = some v := by
  have hjl : j < s.size := by
    have := (List.getElem?_eq_some_iff.1 hj).1
    rw [List.length_map, bytesL_len] at this
    exact this
  rw [show (⟨w.heap.size, 0, none⟩ : Addr).add j = ⟨w.heap.size, j, none⟩ from by rw [add_none, Nat.zero_add], Lib.bytesWorld_cell w e s j hjl]
  have hjl' : j < s.data.toList.length := by rw [Array.length_toList]; exact hjl
  unfold bytesL at hj
  rw [List.map_map, List.getElem?_map, List.getElem?_eq_getElem hjl'] at hj
  simp only [Option.map_some, Function.comp, Option.some.injEq] at hj
  rw [← hj, List.getD_eq_getElem?_getD, List.getElem?_eq_getElem hjl']
  rfl
theorem bw_room (w : World) (e : TypeId) (s : ByteArray) (h : s.size + 1 ≤ grownCap w s.size 0 e) :
    (∃ v, (Lib.bytesWorld w e s).cell? ⟨w.heap.size, s.size, none⟩ = some v) ∧ (Lib.bytesWorld w e s).frozen? ⟨w.heap.size, s.size, none⟩ = false := by
  have hz : (Lib.bytesCells w e s).size = grownCap w s.size 0 e := by
    unfold Lib.bytesCells
    rw [Array.size_append, Array.size_map, Array.size_replicate]
    show s.size + _ = _
    omega
  have hlt : s.size < (Lib.bytesCells w e s).size := by omega
  refine ⟨⟨(Lib.bytesCells w e s)[s.size], ?_⟩, ?_⟩
  · unfold World.cell?
    simp only [Lib.bytesWorld_at_new]
    simp [hlt]
  · unfold World.frozen?
    simp only [Lib.bytesWorld_at_new]
    simp [hz]
    omega
/-- []byte(s). -/
theorem wpl_convb {P : Program} {src dst e : TypeId} {u : TypeDesc} (us : P.underlying src = some u) (ud : P.underlying dst = some (.slice e)) (ue : P.underlying e = some (.int .u8))
    {ops : Array Oper} {rest : List Oper} {o : Oper} {a : Act} {Q : Exit → Act → World → Prop} (w : World) (hgd : o.guard = none) (x : Operand) (ho : o.op = .convert src dst x) (s : ByteArray) (hx : a.eval x = .string s)
    (h : wpList P ops Q rest (a.put o.dst (.slice (some ⟨w.heap.size, 0, none⟩) s.size (grownCap w s.size 0 e))) (Lib.bytesWorld w e s)) : wpList P ops Q (o :: rest) a w := by
  refine wpList_plain hgd fun K hK => ?_
  unfold Oper.wp execOp
  simp only [ho, hx, Sem.run_bind, Sem.run_pure, Lib.run_convert_string_bytes w src dst e s us ud ue, Result.andThen_ok]
  exact hK _ _ h
end Go.Tin
/- x[i:j]: the part's address as a word of its own (the run-time leaves it where no room is behind). No program in sight. -/
namespace Go.Tin
open Go.RowKit
set_option linter.unusedSimpArgs false
set_option linter.unusedVariables false
def cutA (A : Option Addr) (c i s : Nat) : Option Addr := if c = i then A else A.map (·.add (i * s))
theorem Sl.cutA {k : IntKind} {w : World} {A : Option Addr} {l : List Int} (h : Sl k w A l) {c j : Nat} (hl : l.length ≤ c) : Sl k w (cutA A c j 1) (l.drop j) := by
  have := h.cut' (j := j) hl
  unfold Go.Tin.cutA
  rw [Nat.mul_one]
  exact this
theorem SlV.cutA {w : World} {A : Option Addr} {xs : List Value} (h : SlV w A xs) {c j s : Nat} (hl : xs.length ≤ c * s) : SlV w (cutA A c j s) (xs.drop (j * s)) := h.cut' hl
section
variable {P : Program} {t e : TypeId} {s : Nat} (us : P.underlying t = some (.slice e)) (hs : ∀ w, (sizeOf e).run P w = .ok s w)
include us hs
theorem cut_run (w : World) (A : Option Addr) (n c i j : Nat) (h1 : i ≤ j) (h2 : j ≤ c) :
    (Instr.sliceAt t (.slice A n c) (some (.int .i64 i)) (some (.int .i64 j)) none).run P w = .ok (.slice (cutA A c i s) (j - i) (c - i)) w := by
  have a1 : (0 : Int) ≤ (i : Int) := by omega
  have a2 : (i : Int) ≤ (j : Int) := by omega
  have a3 : (0 : Int) ≤ (j : Int) := by omega
  have a4 : (j : Int) ≤ (c : Int) := by omega
  simp [Instr.sliceAt, Instr.slice, run_underlying us, hs, go_sem, cutA, a1, a2, a3, a4, h1, h2]
theorem cutn_run (w : World) (A : Option Addr) (n c i : Nat) (h1 : i ≤ n) :
    (Instr.sliceAt t (.slice A n c) (some (.int .i64 i)) none none).run P w = .ok (.slice (cutA A c i s) (n - i) (c - i)) w := by
  have a1 : (0 : Int) ≤ (i : Int) := by omega
  have a2 : (i : Int) ≤ (n : Int) := by omega
  simp [Instr.sliceAt, Instr.slice, run_underlying us, hs, go_sem, cutA, a1, a2, h1]
variable {ops : Array Oper} {rest : List Oper} {o : Oper} {a : Act}
theorem wpl_cut {w : World} {Q : Exit → Act → World → Prop} (hw : Region.wanted o (yielded ops a.tmps) = true) (x lo hi : Operand) (ho : o.op = .slice t x (some lo) (some hi) none)
    (A : Option Addr) (n c i j : Nat) (li lj : Int) (hx : a.eval x = .slice A n c) (hlo : a.eval lo = .int .i64 li) (hhi : a.eval hi = .int .i64 lj) (e1 : li = (i : Int)) (e2 : lj = (j : Int)) (h1 : i ≤ j) (h2 : j ≤ c)
    (h : wpList P ops Q rest (a.put o.dst (.slice (cutA A c i s) (j - i) (c - i))) w) : wpList P ops Q (o :: rest) a w := by
  subst e1; subst e2
  refine wpList_step fun K hK => ?_
  rw [if_pos hw]
  unfold Oper.wp execOp
  simp only [ho, hx, hlo, hhi, Option.map_some, Option.map_none, Sem.run_bind, Sem.run_pure, cut_run us hs w A n c i j h1 h2, Result.andThen_ok]
  exact hK _ _ h
theorem wpl_cutn {w : World} {Q : Exit → Act → World → Prop} (hw : Region.wanted o (yielded ops a.tmps) = true) (x lo : Operand) (ho : o.op = .slice t x (some lo) none none)
    (A : Option Addr) (n c i : Nat) (li : Int) (hx : a.eval x = .slice A n c) (hlo : a.eval lo = .int .i64 li) (e1 : li = (i : Int)) (h1 : i ≤ n)
    (h : wpList P ops Q rest (a.put o.dst (.slice (cutA A c i s) (n - i) (c - i))) w) : wpList P ops Q (o :: rest) a w := by
  subst e1
  refine wpList_step fun K hK => ?_
  rw [if_pos hw]
  unfold Oper.wp execOp
  simp only [ho, hx, hlo, Option.map_some, Option.map_none, Sem.run_bind, Sem.run_pure, cutn_run us hs w A n c i h1, Result.andThen_ok]
  exact hK _ _ h
theorem wpq_cut {C : World → Prop} {Q : Act → Prop} (hw : Region.wanted o (yielded ops a.tmps) = true) (x lo hi : Operand) (ho : o.op = .slice t x (some lo) (some hi) none)
    (A : Option Addr) (n c i j : Nat) (li lj : Int) (hx : a.eval x = .slice A n c) (hlo : a.eval lo = .int .i64 li) (hhi : a.eval hi = .int .i64 lj) (e1 : li = (i : Int)) (e2 : lj = (j : Int)) (h1 : i ≤ j) (h2 : j ≤ c)
    (h : wpQuiet P ops C Q rest (a.put o.dst (.slice (cutA A c i s) (j - i) (c - i)))) : wpQuiet P ops C Q (o :: rest) a := by
  subst e1; subst e2
  refine wpq_value _ hw (fun w _ => ?_) h
  unfold execOp
  simp only [ho, hx, hlo, hhi, Option.map_some, Option.map_none, Sem.run_bind, Sem.run_pure, cut_run us hs w A n c i j h1 h2, Result.andThen_ok]
theorem wpq_cutn {C : World → Prop} {Q : Act → Prop} (hw : Region.wanted o (yielded ops a.tmps) = true) (x lo : Operand) (ho : o.op = .slice t x (some lo) none none)
    (A : Option Addr) (n c i : Nat) (li : Int) (hx : a.eval x = .slice A n c) (hlo : a.eval lo = .int .i64 li) (e1 : li = (i : Int)) (h1 : i ≤ n)
    (h : wpQuiet P ops C Q rest (a.put o.dst (.slice (cutA A c i s) (n - i) (c - i)))) : wpQuiet P ops C Q (o :: rest) a := by
  subst e1
  refine wpq_value _ hw (fun w _ => ?_) h
  unfold execOp
  simp only [ho, hx, hlo, Option.map_some, Option.map_none, Sem.run_bind, Sem.run_pure, cutn_run us hs w A n c i h1, Result.andThen_ok]
end
end Go.Tin
/- How many bytes the slices of an argument have: the form's own reach, by shapes. No program in sight. -/
namespace Go.Tin
open Go.RowKit Go.ChangeShapes Go.WideShapes Go.Deep
set_option linter.unusedSimpArgs false
set_option linter.unusedVariables false

/-- No slice of the cells has more room than the reach. -/
def Sized (w : World) : Sh → List Value → Prop
  | .slice s e, cs => ∀ (a : Addr) (len cap : Nat), cs = [.slice (some a) len cap] → cap ≤ reachBytes ∧
      ∀ i, i < cap → ∀ cs' : List Value, cs'.length = s → (∀ j, j < s → w.cell? ((a.add (i * s)).add j) = cs'[j]?) → Sized w e cs'
  | .fld _ off s f rest, cs => Sized w f ((cs.drop off).take s) ∧ Sized w rest cs
  | _, _ => True
/-- Each slice's element has a byte at least. -/
def okSz (P : Program) : Sh → TypeId → Bool
  | .slice s e, t => match P.underlying t with | some (.slice t') => decide (P.cellsOf t' = s) && (decide (1 ≤ P.bytesOf t') && okSz P e t') | _ => false
  | .fld i off s f rest, t => (match P.underlying t with | some (.struct fs) => (match fs[i]? with | some f' => decide (f'.offset = off) && (decide (P.cellsOf f'.type = s) && okSz P f f'.type) | none => false) | _ => false) && okSz P rest t
  | _, _ => true
section
variable {H : Type} {enc : TypeId × Value → H} {P : Program} {w : World} {base : Nat} {held : Bool}
theorem weightsAll_mem {e : TypeId} : ∀ {ds : List (DataW H)} {d : DataW H}, d ∈ ds → ∀ n ∈ d.weights P e, n ∈ DataW.weightsAll P e ds
  | d0 :: ds, d, h, n, hn => by
    simp only [DataW.weightsAll, List.mem_append]
    rcases List.mem_cons.1 h with rfl | h
    · exact .inl hn
    · exact .inr (weightsAll_mem h n hn)
  | [], _, h, _, _ => by cases h
theorem sized_of_trod : ∀ (sh : Sh) (t : TypeId) (fuel : Nat) (cs : List Value) (x : DataW H × List MemPlace), okSz P sh t = true → DataW.trod enc P w base (fun _ => true) held fuel t cs = some x → (∀ n ∈ x.1.weights P t, n ≤ reachBytes) → Sized w sh cs
  | .slice s e, t, fuel, cs, x, ho, h, hz => by
    unfold okSz at ho
    split at ho
    · rename_i t' ht
      rw [Bool.and_eq_true, Bool.and_eq_true] at ho
      obtain rfl := of_decide_eq_true ho.1
      have hby := of_decide_eq_true ho.2.1
      intro a len cap hcs
      rcases open_slice ht h with ⟨h0, _⟩ | ⟨a', len', cap', m, n, D, Pl, hcs', hb, hl, hm, hmm, hx, hi⟩
      · rw [hcs] at h0; simp at h0
      · rw [hcs] at hcs'
        simp at hcs'
        obtain ⟨rfl, rfl, rfl⟩ := hcs'
        rw [if_pos rfl] at hmm
        subst hmm
        subst hx
        simp only [DataW.weights, ht, List.length_map, List.length_range] at hz
        have h1 := hz _ (List.mem_cons_self ..)
        refine ⟨?_, fun i hi' cs' hl' hc' => ?_⟩
        · rw [show len + (m - len) = m by omega] at h1
          exact Nat.le_trans (Nat.le_mul_of_pos_right m hby) h1
        · obtain ⟨cs0, hc, ht'⟩ := hi i hi'
          obtain ⟨_, hlen0, h2⟩ := World.cells?_some hc
          have he : cs' = cs0 := by
            apply List.ext_getElem?
            intro j
            by_cases hj : j < P.cellsOf t'
            · rw [← hc' j hj, ← h2 j hj]
            · rw [List.getElem?_eq_none (by omega), List.getElem?_eq_none (by omega)]
          subst he
          refine sized_of_trod e t' n cs' _ ho.2.2 ht' fun k hk => hz k (List.mem_cons_of_mem _ (List.mem_append.2 ?_))
          by_cases hil : i < len
          · exact .inl (weightsAll_mem (List.mem_map.2 ⟨i, List.mem_range.2 hil, rfl⟩) k hk)
          · refine .inr (weightsAll_mem (List.mem_map.2 ⟨i - len, List.mem_range.2 (by omega), ?_⟩) k hk)
            show D (len + (i - len)) = D i
            rw [show len + (i - len) = i by omega]
    · cases ho
  | .fld i off s f rest, t, fuel, cs, x, ho, h, hz => by
    unfold okSz at ho
    rw [Bool.and_eq_true] at ho
    refine ⟨?_, sized_of_trod rest t fuel cs x ho.2 h hz⟩
    have ho1 := ho.1
    split at ho1
    · rename_i fs ht
      split at ho1
      · rename_i f' hf
        rw [Bool.and_eq_true, Bool.and_eq_true] at ho1
        obtain rfl := of_decide_eq_true ho1.1
        obtain rfl := of_decide_eq_true ho1.2.1
        obtain ⟨xs, n, _, hx0, hl, hlen, hx⟩ := DataW.trod_struct ht h
        have hif : i < fs.size := (Array.getElem?_eq_some_iff.1 hf).1
        have h1 := hx i f' hf
        rw [List.getElem?_eq_getElem (by omega)] at h1
        subst hx0
        refine sized_of_trod f f'.type n _ _ ho1.2.2 h1 fun k hk => hz k ?_
        simp only [DataW.weights, ht]
        refine DataW.weights_mem_each (j := i) (t := f'.type) (d := xs[i].1) ?_ ?_ k hk
        · rw [List.getElem?_map, Array.getElem?_toList, hf]; rfl
        · rw [List.getElem?_map, List.getElem?_eq_getElem (by omega)]; rfl
      · cases ho1
    · cases ho1
  | .int _, _, _, _, _, _, _, _ => trivial
  | .str, _, _, _, _, _, _, _ => trivial
  | .bool, _, _, _, _, _, _, _ => trivial
  | .arr _ _ _, _, _, _, _, _, _, _ => trivial
  | .unit, _, _, _, _, _, _, _ => trivial
  | .any, _, _, _, _, _, _, _ => trivial
theorem sized_arg {sh : Sh} {t : TypeId} {v : Value} {d : DataW H} {ps : List MemPlace} (ho : okSz P sh t = true) (h : DataW.Trod enc P w base (fun _ => true) held t v d ps) (hz : ∀ n ∈ d.weights P t, n ≤ reachBytes) : Sized w sh v.cells.toList := by
  obtain ⟨fuel, hf⟩ := h
  exact sized_of_trod sh t fuel _ _ ho hf hz
end
end Go.Tin
