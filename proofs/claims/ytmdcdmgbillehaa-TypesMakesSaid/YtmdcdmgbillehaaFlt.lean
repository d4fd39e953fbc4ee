/- Slices whose elements are cells of integers of one kind (structs, arrays): one flat list. No program in sight. -/
import Derived.Test.YtmdcdmgbillehaaShp
import Derived.Test.YtmdcdmgbillehaaByt
namespace Go.Tin
open Go.RowKit
set_option linter.unusedSimpArgs false
set_option linter.unusedVariables false

/-- The integer of a cell. -/
def cellInt (o : Option Value) : Int := match o with | some (.int _ n) => n | _ => 0
theorem addr_add_add (a : Addr) (i j : Nat) : (a.add i).add j = a.add (i + j) := by
  unfold Addr.add
  by_cases hi : i = 0 <;> by_cases hj : j = 0 <;> simp [hi, hj, Nat.add_assoc]
/-- All cells of a shape are integers of the kind. -/
def FlatSh (w : World) (k : IntKind) (s : Nat) (e : Sh) : Prop := ∀ cs : List Value, cs.length = s → Fits w e cs → ∀ j, j < s → ∃ n, cs[j]? = some (.int k n) ∧ (Lit.int k n).wf = true
/-- A slice of such elements, as one list. -/
def IsFlat (k : IntKind) (s : Nat) (w : World) (a : Option Addr) (len cap : Nat) (zs : List Int) : Prop :=
  Sl k w a zs ∧ zs.length = len * s ∧ len ≤ cap ∧ cap ≤ maxLen ∧ (∀ z ∈ zs, (Lit.int k z).wf = true) ∧ (a = none → cap = 0)
theorem flat_of_fits {w : World} {k : IntKind} {s : Nat} {e : Sh} (he : FlatSh w k s e) {a : Option Addr} {len cap : Nat} (h : Fits w (.slice s e) [.slice a len cap]) : ∃ zs, IsFlat k s w a len cap zs := by
  rcases h with h | ⟨x, l, c, h, hl, hc, hi⟩
  · simp at h
    obtain ⟨rfl, rfl, rfl⟩ := h
    exact ⟨[], .inl rfl, by simp, Nat.le_refl _, by decide, by simp, fun _ => rfl⟩
  · simp at h
    obtain ⟨rfl, rfl, rfl⟩ := h
    have cell : ∀ i, i < len * s → ∃ n, w.cell? (x.add i) = some (.int k n) ∧ (Lit.int k n).wf = true := by
      intro i hi'
      have hs : 0 < s := Nat.pos_of_ne_zero (fun e => by subst e; simp at hi')
      have h1 : i / s < len := by rw [Nat.div_lt_iff_lt_mul hs]; exact hi'
      obtain ⟨cs, hcs, hcell, hfit⟩ := hi (i / s) (by omega)
      obtain ⟨n, hn, wn⟩ := he cs hcs hfit (i % s) (Nat.mod_lt _ hs)
      have h2 := hcell (i % s) (Nat.mod_lt _ hs)
      rw [addr_add_add, Nat.mul_comm, Nat.div_add_mod, hn] at h2
      exact ⟨n, h2, wn⟩
    refine ⟨(List.range (len * s)).map fun i => cellInt (w.cell? (x.add i)), ?_, by simp, hl, hc, ?_, fun h => by cases h⟩
    · by_cases h0 : len * s = 0
      · exact .inl (by simp [h0])
      · obtain ⟨n, hn, _⟩ := cell 0 (by omega)
        have hspot : x.spot = none := by
          have := World.cell?_spot hn
          simpa [Addr.add] using this
        have hlt : x.block < w.heap.size := by
          have := World.block_lt_of_cell? w _ hn
          simpa [Addr.add] using this
        obtain ⟨b, off, spot⟩ := x
        have hs' : spot = none := hspot
        subst hs'
        refine .inr ⟨b, off, rfl, hlt, fun i hi' => ?_⟩
        have hi2 : i < len * s := by simpa using hi'
        obtain ⟨m, hm, _⟩ := cell i hi2
        rw [add_none] at hm
        rw [hm]
        simp [List.getD_eq_getElem?_getD, hi2, add_none, hm, cellInt]
    · intro z hz
      obtain ⟨i, hi', rfl⟩ := List.mem_map.1 hz
      obtain ⟨m, hm, wm⟩ := cell i (by simpa using hi')
      rw [hm]
      exact wm
theorem flat_fld1 {w : World} {k : IntKind} {s : Nat} {i off : Nat} {rest : Sh} : (∀ cs : List Value, cs.length = s → Fits w rest cs → ∀ j, j < s → j ≠ off → ∃ n, cs[j]? = some (.int k n) ∧ (Lit.int k n).wf = true) → FlatSh w k s (.fld i off 1 (.int k) rest) := by
  intro h cs hcs hf j hj
  obtain ⟨⟨n, hn, wn⟩, hr⟩ := hf
  by_cases hjo : j = off
  · subst hjo
    refine ⟨n, ?_, wn⟩
    rw [List.drop_eq_getElem_cons (by omega), List.take_succ_cons, List.take_zero] at hn
    rw [List.getElem?_eq_getElem (by omega)]
    have : cs[j] = .int k n := by simpa using hn
    rw [this]
  · exact h cs hcs hr j hj hjo
/-- A struct of two integers. -/
theorem flat_two (w : World) (k : IntKind) : FlatSh w k 2 (.fld 0 0 1 (.int k) (.fld 1 1 1 (.int k) .unit)) := by
  refine flat_fld1 fun cs hcs hf j hj hne => ?_
  obtain ⟨⟨n, hn, wn⟩, -⟩ := hf
  obtain rfl : j = 1 := by omega
  refine ⟨n, ?_, wn⟩
  rw [List.drop_eq_getElem_cons (by omega), List.take_succ_cons, List.take_zero] at hn
  rw [List.getElem?_eq_getElem (by omega)]
  have : cs[1] = .int k n := by simpa using hn
  rw [this]
theorem nth_app_lt {l m : List Int} {i : Nat} (h : i < l.length) : nth (l ++ m) i = nth l i := by
  unfold nth
  rw [List.getD_eq_getElem?_getD, List.getElem?_append_left h, List.getD_eq_getElem?_getD]
end Go.Tin
