/- Arguments of whatever shape, opened: what their cells are. No program in sight. -/
import Derived.Test.YtmdcdmgbillehaaPre
import Derived.OpenShut
import Derived.WideShapes
import Derived.ChangeSlices
import Derived.Deep.Slices
namespace Go.Tin
open Go.RowKit Go.ChangeShapes Go.WideShapes Go.Deep
set_option linter.unusedSimpArgs false
set_option linter.unusedVariables false

/-- A shape of cells: 's' is how many cells an element has; a struct is a chain of fields (number, offset, cells). -/
inductive Sh where
  | int (k : IntKind)
  | str
  | bool
  | slice (s : Nat) (e : Sh)
  | arr (n s : Nat) (e : Sh)
  | fld (i off s : Nat) (f : Sh) (rest : Sh)
  | unit
  | any

/-- The cells are of the shape. -/
def Fits (w : World) : Sh → List Value → Prop
  | .int k, cs => ∃ n, cs = [.int k n] ∧ (Lit.int k n).wf = true
  | .str, cs => ∃ s : ByteArray, cs = [.string s] ∧ s.size ≤ maxLen
  | .bool, cs => ∃ b, cs = [.bool b]
  | .slice s e, cs => cs = [.slice none 0 0] ∨ ∃ a len cap, cs = [.slice (some a) len cap] ∧ len ≤ cap ∧ cap ≤ maxLen ∧
      ∀ i, i < cap → ∃ cs' : List Value, cs'.length = s ∧ (∀ j, j < s → w.cell? ((a.add (i * s)).add j) = cs'[j]?) ∧ Fits w e cs'
  | .arr n s e, cs => ∀ i, i < n → Fits w e ((cs.drop (i * s)).take s)
  | .fld _ off s f rest, cs => Fits w f ((cs.drop off).take s) ∧ Fits w rest cs
  | .unit, _ => True
  | .any, _ => True

/-- The type has the shape. -/
def okSh (P : Program) : Sh → TypeId → Bool
  | .int k, t => match P.underlying t with | some (.int k') => decide (k = k') | _ => false
  | .str, t => match P.underlying t with | some .string => true | _ => false
  | .bool, t => match P.underlying t with | some .bool => true | _ => false
  | .slice s e, t => match P.underlying t with | some (.slice t') => decide (P.cellsOf t' = s) && okSh P e t' | _ => false
  | .arr n s e, t => match P.underlying t with | some (.array n' t') => decide (n = n') && (decide (P.cellsOf t' = s) && okSh P e t') | _ => false
  | .fld i off s f rest, t => (match P.underlying t with | some (.struct fs) => (match fs[i]? with | some f' => decide (f'.offset = off) && (decide (P.cellsOf f'.type = s) && okSh P f f'.type) | none => false) | _ => false) && okSh P rest t
  | .unit, _ => true
  | .any, _ => true

section
variable {H : Type} {enc : TypeId × Value → H} {P : Program} {w : World} {base : Nat} {held : Bool}
theorem trod_bool {t : TypeId} {sp : Nat → Bool} {fuel : Nat} {cs : List Value} {x : DataW H × List MemPlace} (ht : P.underlying t = some .bool) (h : DataW.trod enc P w base sp held fuel t cs = some x) : ∃ b, cs = [.bool b] := by
  cases fuel with
  | zero => simp [DataW.trod] at h
  | succ n =>
    unfold DataW.trod at h
    rw [ht] at h
    split at h <;> simp_all
theorem fits_of_trod : ∀ (sh : Sh) (t : TypeId) (fuel : Nat) (cs : List Value) (x : DataW H × List MemPlace), okSh P sh t = true → DataW.trod enc P w base (fun _ => true) held fuel t cs = some x → Fits w sh cs
  | .int k, t, fuel, cs, x, ho, h => by
    unfold okSh at ho
    split at ho
    · rename_i k' ht
      obtain rfl := of_decide_eq_true ho
      obtain ⟨n, h1, _, h2⟩ := DataW.trod_int ht h
      exact ⟨n, h1, h2⟩
    · cases ho
  | .str, t, fuel, cs, x, ho, h => by
    unfold okSh at ho
    split at ho
    · rename_i ht
      obtain ⟨n, h1, _, h2⟩ := DataW.trod_string ht h
      exact ⟨n, h1, h2⟩
    · cases ho
  | .bool, t, fuel, cs, x, ho, h => by
    unfold okSh at ho
    split at ho
    · rename_i ht
      exact trod_bool ht h
    · cases ho
  | .slice s e, t, fuel, cs, x, ho, h => by
    unfold okSh at ho
    split at ho
    · rename_i t' ht
      rw [Bool.and_eq_true] at ho
      obtain rfl := of_decide_eq_true ho.1
      rcases open_slice ht h with ⟨h0, _⟩ | ⟨a, len, cap, m, n, D, Pl, hcs, hb, hl, hm, hmm, hx, hi⟩
      · exact .inl h0
      · rw [if_pos rfl] at hmm
        subst hmm
        refine .inr ⟨a, len, m, hcs, hl, hm, fun i hi' => ?_⟩
        obtain ⟨cs', hc, ht'⟩ := hi i hi'
        obtain ⟨_, h1, h2⟩ := World.cells?_some hc
        exact ⟨cs', h1, h2, fits_of_trod e t' n cs' _ ho.2 ht'⟩
    · cases ho
  | .arr n s e, t, fuel, cs, x, ho, h => by
    unfold okSh at ho
    split at ho
    · rename_i n' t' ht
      rw [Bool.and_eq_true, Bool.and_eq_true] at ho
      obtain rfl := of_decide_eq_true ho.1
      obtain rfl := of_decide_eq_true ho.2.1
      obtain ⟨xs, m, _, _, hl, hx, hall⟩ := DataW.trod_array ht h
      intro i hi
      have h1 := hall i hi
      rw [List.getElem?_eq_getElem (by omega)] at h1
      exact fits_of_trod e t' m _ _ ho.2.2 h1
    · cases ho
  | .fld i off s f rest, t, fuel, cs, x, ho, h => by
    unfold okSh at ho
    rw [Bool.and_eq_true] at ho
    refine ⟨?_, fits_of_trod rest t fuel cs x ho.2 h⟩
    have ho1 := ho.1
    split at ho1
    · rename_i fs ht
      split at ho1
      · rename_i f' hf
        rw [Bool.and_eq_true, Bool.and_eq_true] at ho1
        obtain rfl := of_decide_eq_true ho1.1
        obtain rfl := of_decide_eq_true ho1.2.1
        obtain ⟨xs, n, _, _, hl, hlen, hx⟩ := DataW.trod_struct ht h
        have hif : i < fs.size := (Array.getElem?_eq_some_iff.1 hf).1
        have h1 := hx i f' hf
        rw [List.getElem?_eq_getElem (by omega)] at h1
        exact fits_of_trod f f'.type n _ _ ho1.2.2 h1
      · cases ho1
    · cases ho1
  | .unit, _, _, _, _, _, _ => True.intro
  | .any, _, _, _, _, _, _ => True.intro
theorem fits_arg {sh : Sh} {t : TypeId} {v : Value} {d : DataW H} {ps : List MemPlace} (ho : okSh P sh t = true) (h : DataW.Trod enc P w base (fun _ => true) held t v d ps) : Fits w sh v.cells.toList := by
  obtain ⟨fuel, hf⟩ := h
  exact fits_of_trod sh t fuel _ _ ho hf
theorem shape_struct {r : Reach} {b0 : Nat} {t : TypeId} {fs : Array Field} {m : Nat} {v : Value} (ht : P.underlying t = some (.struct fs)) (hm : P.cellsOf t = m) (hval : Value.okWide P w r b0 t v) : ∃ cs : Array Value, v = .agg cs ∧ cs.size = m := by
  obtain ⟨cs, rfl, h2⟩ := okWide_struct ht hval
  exact ⟨cs, rfl, h2.trans hm⟩
theorem shape_arr {r : Reach} {b0 : Nat} {t e : TypeId} {n m : Nat} {v : Value} (ht : P.underlying t = some (.array n e)) (hm : P.cellsOf t = m) (hval : Value.okWide P w r b0 t v) : ∃ cs : Array Value, v = .agg cs ∧ cs.size = m := by
  simp only [Value.okWide, ht] at hval
  obtain ⟨cs, rfl, h2, _⟩ := hval
  exact ⟨cs, rfl, h2.trans hm⟩
end
end Go.Tin
