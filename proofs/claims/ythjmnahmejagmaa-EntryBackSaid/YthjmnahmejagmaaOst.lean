/- An argument that is a struct, opened field by field. No program in sight. -/
import Derived.Test.YthjmnahmejagmaaPre
import Derived.OpenShut
import Derived.WideShapes
import Derived.ChangeSlices
namespace Go.Tin
open Go.RowKit Go.ChangeShapes Go.WideShapes
set_option linter.unusedSimpArgs false
set_option linter.unusedVariables false
section
variable {H : Type} {enc : TypeId × Value → H} {P : Program} {w : World} {base : Nat} {sp : Nat → Bool} {held : Bool}
theorem open_struct {r : Reach} {b0 : Nat} {t : TypeId} {fs : Array Field} {m : Nat} {v : Value} {d : DataW H} {ps : List MemPlace} (ht : P.underlying t = some (.struct fs)) (hm : P.cellsOf t = m)
    (hval : Value.okWide P w r b0 t v) (hd : DataW.Trod enc P w base sp held t v d ps) :
    ∃ cs : Array Value, v = .agg cs ∧ cs.size = m ∧ ∀ (i : Nat) (f : Field), fs[i]? = some f → ∃ n y, DataW.trod enc P w base sp held n f.type ((cs.toList.drop f.offset).take (P.cellsOf f.type)) = some y := by
  obtain ⟨cs, rfl, h2⟩ := okWide_struct ht hval
  obtain ⟨fuel, hf⟩ := hd
  obtain ⟨xs, n, _, _, hl, hlen, hx⟩ := DataW.trod_struct ht hf
  refine ⟨cs, rfl, h2.trans hm, fun i f hi => ?_⟩
  have hif : i < fs.size := (Array.getElem?_eq_some_iff.1 hi).1
  have h := hx i f hi
  rw [List.getElem?_eq_getElem (by omega)] at h
  exact ⟨n, _, h⟩
/-- A field of one cell that is an integer. -/
theorem field_int {n : Nat} {t : TypeId} {k : IntKind} {cs : List Value} {o : Nat} {y : DataW H × List MemPlace} {v : Value} (ht : P.underlying t = some (.int k)) (hc : P.cellsOf t = 1) (ho : cs[o]? = some v)
    (h : DataW.trod enc P w base sp held n t ((cs.drop o).take (P.cellsOf t)) = some y) : ∃ a, v = .int k a ∧ (Lit.int k a).wf = true := by
  obtain ⟨a, ha, _, wa⟩ := DataW.trod_int ht h
  rw [hc] at ha
  have hlt : o < cs.length := (List.getElem?_eq_some_iff.1 ho).1
  rw [List.drop_eq_getElem_cons hlt, List.take_succ_cons, List.take_zero] at ha
  have h4 : cs[o] = .int k a := by simpa using ha
  rw [List.getElem?_eq_getElem hlt, h4] at ho
  exact ⟨a, by injection ho with h; exact h.symm, wa⟩
/-- A field of one cell that is a slice of integers. -/
theorem field_ints {n : Nat} {t e : TypeId} {k : IntKind} {cs : List Value} {o : Nat} {y : DataW H × List MemPlace} {v : Value} (ht : P.underlying t = some (.slice e)) (he : P.underlying e = some (.int k)) (hce : P.cellsOf e = 1) (hc : P.cellsOf t = 1) (ho : cs[o]? = some v)
    (h : DataW.trod enc P w base (fun _ => true) held n t ((cs.drop o).take (P.cellsOf t)) = some y) : ∃ a len cap zs, v = .slice a len cap ∧ IsRow k w a len cap zs := by
  rw [hc] at h
  have hlt : o < cs.length := (List.getElem?_eq_some_iff.1 ho).1
  rw [List.drop_eq_getElem_cons hlt, List.take_succ_cons, List.take_zero] at h
  rw [List.getElem?_eq_getElem hlt] at ho
  injection ho with ho
  rw [ho] at h
  rcases open_ints ht he hce h with ⟨hcs, _⟩ | ⟨x, l, c, zs, hcs, _, hl, hm, hz, _, hcell, hwz⟩
  · have hv : v = .slice none 0 0 := by simpa using hcs
    exact ⟨none, 0, 0, [], hv, .inl ⟨rfl, rfl, rfl, rfl⟩⟩
  · have hv : v = .slice (some x) l c := by simpa using hcs
    exact ⟨some x, l, c, zs, hv, .inr ⟨_, rfl, hl, hm, by simpa using hz, hcell, hwz⟩⟩
end
end Go.Tin
