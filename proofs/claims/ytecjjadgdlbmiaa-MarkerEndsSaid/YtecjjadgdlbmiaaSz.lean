/- Texts put together: Shz. -/
import Derived.Test.YtecjjadgdlbmiaaLb
import Derived.SizedLaws
/- How many bytes the slices of an argument have: the form's own reach, by shapes. No program in sight. -/
namespace Go.Tin
open Go.RowKit Go.ChangeShapes Go.WideShapes Go.Deep
set_option linter.unusedSimpArgs false
set_option linter.unusedVariables false

/-- No slice of the cells has more room than the reach. -/
def Sized (w : World) : Sh → List Value → Prop
  | .slice s e, cs => ∀ (a : Addr) (len cap : Nat), cs = [.slice (some a) len cap] → cap ≤ reachBytes ∧
      ∀ i, i < cap → ∀ cs' : List Value, cs'.length = s → (∀ j, j < s → w.cell? ((a.add (i * s)).add j) = cs'[j]?) → Sized w e cs'
  | .fld _ off s f rest, cs => Sized w f ((cs.drop off).take s) ∧ Sized w rest cs
  | _, _ => True
/-- Each slice's element has a byte at least. -/
def okSz (P : Program) : Sh → TypeId → Bool
  | .slice s e, t => match P.underlying t with | some (.slice t') => decide (P.cellsOf t' = s) && (decide (1 ≤ P.bytesOf t') && okSz P e t') | _ => false
  | .fld i off s f rest, t => (match P.underlying t with | some (.struct fs) => (match fs[i]? with | some f' => decide (f'.offset = off) && (decide (P.cellsOf f'.type = s) && okSz P f f'.type) | none => false) | _ => false) && okSz P rest t
  | _, _ => true
section
variable {H : Type} {enc : TypeId × Value → H} {P : Program} {w : World} {base : Nat} {held : Bool}
theorem weightsAll_mem {e : TypeId} : ∀ {ds : List (DataW H)} {d : DataW H}, d ∈ ds → ∀ n ∈ d.weights P e, n ∈ DataW.weightsAll P e ds
  | d0 :: ds, d, h, n, hn => by
    simp only [DataW.weightsAll, List.mem_append]
    rcases List.mem_cons.1 h with rfl | h
    · exact .inl hn
    · exact .inr (weightsAll_mem h n hn)
  | [], _, h, _, _ => by cases h
theorem sized_of_trod : ∀ (sh : Sh) (t : TypeId) (fuel : Nat) (cs : List Value) (x : DataW H × List MemPlace), okSz P sh t = true → DataW.trod enc P w base (fun _ => true) held fuel t cs = some x → (∀ n ∈ x.1.weights P t, n ≤ reachBytes) → Sized w sh cs
  | .slice s e, t, fuel, cs, x, ho, h, hz => by
    unfold okSz at ho
    split at ho
    · rename_i t' ht
      rw [Bool.and_eq_true, Bool.and_eq_true] at ho
      obtain rfl := of_decide_eq_true ho.1
      have hby := of_decide_eq_true ho.2.1
      intro a len cap hcs
      rcases open_slice ht h with ⟨h0, _⟩ | ⟨a', len', cap', m, n, D, Pl, hcs', hb, hl, hm, hmm, hx, hi⟩
      · rw [hcs] at h0; simp at h0
      · rw [hcs] at hcs'
        simp at hcs'
        obtain ⟨rfl, rfl, rfl⟩ := hcs'
        rw [if_pos rfl] at hmm
        subst hmm
        subst hx
        simp only [DataW.weights, ht, List.length_map, List.length_range] at hz
        have h1 := hz _ (List.mem_cons_self ..)
        refine ⟨?_, fun i hi' cs' hl' hc' => ?_⟩
        · rw [show len + (m - len) = m by omega] at h1
          exact Nat.le_trans (Nat.le_mul_of_pos_right m hby) h1
        · obtain ⟨cs0, hc, ht'⟩ := hi i hi'
          obtain ⟨_, hlen0, h2⟩ := World.cells?_some hc
          have he : cs' = cs0 := by
            apply List.ext_getElem?
            intro j
            by_cases hj : j < P.cellsOf t'
            · rw [← hc' j hj, ← h2 j hj]
            · rw [List.getElem?_eq_none (by omega), List.getElem?_eq_none (by omega)]
          subst he
          refine sized_of_trod e t' n cs' _ ho.2.2 ht' fun k hk => hz k (List.mem_cons_of_mem _ (List.mem_append.2 ?_))
          by_cases hil : i < len
          · exact .inl (weightsAll_mem (List.mem_map.2 ⟨i, List.mem_range.2 hil, rfl⟩) k hk)
          · refine .inr (weightsAll_mem (List.mem_map.2 ⟨i - len, List.mem_range.2 (by omega), ?_⟩) k hk)
            show D (len + (i - len)) = D i
            rw [show len + (i - len) = i by omega]
    · cases ho
  | .fld i off s f rest, t, fuel, cs, x, ho, h, hz => by
    unfold okSz at ho
    rw [Bool.and_eq_true] at ho
    refine ⟨?_, sized_of_trod rest t fuel cs x ho.2 h hz⟩
    have ho1 := ho.1
    split at ho1
    · rename_i fs ht
      split at ho1
      · rename_i f' hf
        rw [Bool.and_eq_true, Bool.and_eq_true] at ho1
        obtain rfl := of_decide_eq_true ho1.1
        obtain rfl := of_decide_eq_true ho1.2.1
        obtain ⟨xs, n, _, hx0, hl, hlen, hx⟩ := DataW.trod_struct ht h
        have hif : i < fs.size := (Array.getElem?_eq_some_iff.1 hf).1
        have h1 := hx i f' hf
        rw [List.getElem?_eq_getElem (by omega)] at h1
        subst hx0
        refine sized_of_trod f f'.type n _ _ ho1.2.2 h1 fun k hk => hz k ?_
        simp only [DataW.weights, ht]
        refine DataW.weights_mem_each (j := i) (t := f'.type) (d := xs[i].1) ?_ ?_ k hk
        · rw [List.getElem?_map, Array.getElem?_toList, hf]; rfl
        · rw [List.getElem?_map, List.getElem?_eq_getElem (by omega)]; rfl
      · cases ho1
    · cases ho1
  | .int _, _, _, _, _, _, _, _ => trivial
  | .str, _, _, _, _, _, _, _ => trivial
  | .bool, _, _, _, _, _, _, _ => trivial
  | .arr _ _ _, _, _, _, _, _, _, _ => trivial
  | .unit, _, _, _, _, _, _, _ => trivial
  | .any, _, _, _, _, _, _, _ => trivial
theorem sized_arg {sh : Sh} {t : TypeId} {v : Value} {d : DataW H} {ps : List MemPlace} (ho : okSz P sh t = true) (h : DataW.Trod enc P w base (fun _ => true) held t v d ps) (hz : ∀ n ∈ d.weights P t, n ≤ reachBytes) : Sized w sh v.cells.toList := by
  obtain ⟨fuel, hf⟩ := h
  exact sized_of_trod sh t fuel _ _ ho hf hz
end
end Go.Tin
