/- An argument that is an array of integers, opened. No program in sight. -/
import Derived.Test.YtckkncblbagfmaaArr
import Derived.OpenShut
import Derived.WideShapes
namespace Go.Tin
open Go.RowKit Go.ChangeShapes Go.WideShapes
set_option linter.unusedSimpArgs false
set_option linter.unusedVariables false

theorem ints_of_cells (k : IntKind) (cs : List Value) (Wf : Int → Prop) (h : ∀ i, i < cs.length → ∃ a, cs[i]? = some (.int k a) ∧ Wf a) : ∃ zs : List Int, cs = zs.map (Value.int k) ∧ zs.length = cs.length ∧ ∀ z ∈ zs, Wf z := by
  induction cs with
  | nil => exact ⟨[], rfl, rfl, by simp⟩
  | cons c cs ih =>
    obtain ⟨a, ha, wa⟩ := h 0 (by simp)
    obtain ⟨zs, rfl, hl, hw⟩ := ih fun i hi => by
      obtain ⟨b, hb, wb⟩ := h (i + 1) (by simpa using hi)
      exact ⟨b, by simpa using hb, wb⟩
    simp only [List.getElem?_cons_zero, Option.some.injEq] at ha
    subst ha
    exact ⟨a :: zs, rfl, by simp, by
      intro z hz
      rcases List.mem_cons.1 hz with rfl | hz
      · exact wa
      · exact hw z hz⟩

section
variable {H : Type} {enc : TypeId × Value → H} {P : Program} {w : World} {base : Nat} {sp : Nat → Bool} {held : Bool}
theorem open_arr {r : Reach} {b0 : Nat} {t e : TypeId} {k : IntKind} {n : Nat} {v : Value} {d : DataW H} {ps : List MemPlace} (ht : P.underlying t = some (.array n e)) (he : P.underlying e = some (.int k)) (hc : P.cellsOf e = 1) (ct : P.cellsOf t = n)
    (hval : Value.okWide P w r b0 t v) (hd : DataW.Trod enc P w base sp held t v d ps) : ∃ zs : List Int, v = .agg (arr k zs) ∧ zs.length = n ∧ ∀ z ∈ zs, (Lit.int k z).wf = true := by
  simp only [Value.okWide, ht] at hval
  obtain ⟨cs, rfl, h2, _⟩ := hval
  rw [ct] at h2
  obtain ⟨fuel, hf⟩ := hd
  obtain ⟨xs, m, _, _, hl, hx, hall⟩ := DataW.trod_array ht hf
  have hcs : (Value.agg cs).cells = cs := rfl
  rw [hcs] at hl hall
  obtain ⟨zs, hz, hzl, hzw⟩ := ints_of_cells k cs.toList (fun z => (Lit.int k z).wf = true) fun i hi => by
    have hi' : i < n := by rw [← h2]; simpa using hi
    have h := hall i hi'
    rw [hc, Nat.mul_one] at h
    have hxi : i < xs.length := by omega
    rw [List.getElem?_eq_getElem hxi] at h
    obtain ⟨a, ha, _, wa⟩ := DataW.trod_int he h
    have hi2 : i < cs.size := by omega
    have h3 : (List.drop i cs.toList).take 1 = [cs.toList[i]] := by
      rw [List.drop_eq_getElem_cons hi]; rfl
    rw [h3] at ha
    have h4 : cs.toList[i] = .int k a := by simpa using ha
    exact ⟨a, by rw [List.getElem?_eq_getElem hi, h4], wa⟩
  refine ⟨zs, ?_, by rw [hzl]; simpa using h2, hzw⟩
  rw [show cs = cs.toList.toArray by simp, hz]
  rfl
end
end Go.Tin
