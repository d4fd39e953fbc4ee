/- End; reads, wrong; the chapter's examples. -/
import Derived.Test.YtfohajgljjffgaaMkQ
import Derived.Lib.BytesEntry
import Derived.Lib.SlBytesConst
namespace Go.Proofs.Ytfohajgljjffgaa
open Go.RowKit
open Go.Tin
set_option linter.unusedVariables false
set_option linter.unusedSimpArgs false


theorem lexO_ind (l : List Int) (P : Nat → List Sg → Prop) (step : ∀ a acc m d s a', P a acc → a + 2 ≤ l.length → lexM l a = .ok m → lexS l (a + 2) m = .ok d s a' → P a' (acc ++ [⟨m, d, s⟩])) :
    ∀ f a acc L e, a ≤ l.length → P a acc → lexO l f a acc = .ok L e → P e L ∧ e ≤ l.length
  | 0, a, acc, L, e, ha, hP, h => by simp [lexO] at h
  | f + 1, a, acc, L, e, ha, hP, h => by
    unfold lexO at h
    cases hm : lexM l a with
    | err p q => rw [hm] at h; cases h
    | ok m =>
      rw [hm] at h
      have h2 := (lexM_ok hm).1
      cases hs : lexS l (a + 2) m with
      | err p q => simp only [hs] at h; cases h
      | ok d s a' =>
        simp only [hs] at h
        have h3 := lexS_le h2 hs
        have hP' := step a acc m d s a' hP h2 hm hs
        split at h
        · injection h with h4 h5
          subst h4; subst h5
          exact ⟨hP', h3.2⟩
        · exact lexO_ind l P step f a' _ L e h3.2 hP' h
theorem lexM_err {l : List Int} {a : Nat} {p q : Int} (ha : a ≤ l.length) (h : lexM l a = .err p q) : 0 ≤ p ∧ p ≤ l.length ∧ (q = 2 ∨ q = 3 ∧ p = l.length) := by
  unfold lexM at h
  split at h
  · injection h with h1 h2; omega
  · split at h
    · injection h with h1 h2; omega
    · split at h
      · injection h with h1 h2; omega
      · split at h
        · injection h with h1 h2; omega
        · cases h
theorem lexS_err {l : List Int} {a : Nat} {m p q : Int} (ha : a ≤ l.length) (h : lexS l a m = .err p q) : 0 ≤ p ∧ p ≤ l.length ∧ (q = 2 ∨ q = 3 ∧ p = l.length) := by
  unfold lexS at h
  split at h
  · cases h
  · split at h
    · injection h with h1 h2; omega
    · split at h
      · injection h with h1 h2; omega
      · split at h
        · injection h with h1 h2; omega
        · split at h
          · cases h
          · cases h
theorem lexO_err {l : List Int} : ∀ {f a : Nat} {acc : List Sg} {p q : Int}, l.length < f + a → a ≤ l.length → lexO l f a acc = .err p q → 0 ≤ p ∧ p ≤ l.length ∧ (q = 2 ∨ q = 3 ∧ p = l.length)
  | 0, a, acc, p, q, hf, ha, h => by omega
  | f + 1, a, acc, p, q, hf, ha, h => by
    unfold lexO at h
    cases hm : lexM l a with
    | err p q =>
      rw [hm] at h
      injection h with h1 h2
      subst h1; subst h2
      exact lexM_err ha hm
    | ok m =>
      rw [hm] at h
      have h2 := (lexM_ok hm).1
      cases hs : lexS l (a + 2) m with
      | err p q =>
        simp only [hs] at h
        injection h with h1 h2'
        subst h1; subst h2'
        exact lexS_err h2 hs
      | ok d s a' =>
        simp only [hs] at h
        have h3 := lexS_le h2 hs
        split at h
        · cases h
        · exact lexO_err (by omega) h3.2 h
theorem ofR_err {l : List Int} {p q : Int} (h : ofR l = .err p q) : 0 ≤ p ∧ p ≤ l.length ∧ (q = 2 ∨ q = 3 ∧ p = l.length) := lexO_err (by omega) (Nat.zero_le _) h
theorem lexS_by {l : List Int} (hb : Byts l) (hl : l.length ≤ 1000000) {a : Nat} {m : Int} {d s : List Int} {a' : Nat} (h : lexS l a m = .ok d s a') : Byts d ∧ Byts s ∧ d.length ≤ 1000000 ∧ s.length ≤ 1000000 := by
  have e0 : Byts [] := fun x hx => by cases hx
  have hln : ∀ (i j : Nat), ((l.drop i).take j).length ≤ 1000000 := fun i j => by rw [List.length_take, List.length_drop]; omega
  unfold lexS at h
  split at h
  · injection h with h1 h2 h3
    subst h1; subst h2
    exact ⟨e0, e0, by simp, by simp⟩
  · split at h
    · cases h
    · split at h
      · cases h
      · split at h
        · cases h
        · split at h
          · injection h with h1 h2 h3
            subst h1; subst h2
            exact ⟨(hb.drop _).take _, (hb.drop _).take _, hln _ _, hln _ _⟩
          · injection h with h1 h2 h3
            subst h1; subst h2
            exact ⟨(hb.drop _).take _, e0, hln _ _, by simp⟩
theorem BySg.snoc {L : List Sg} {x : Sg} (h : BySg L) (hx : Byts x.d ∧ Byts x.s ∧ x.d.length ≤ 1000000 ∧ x.s.length ≤ 1000000) : BySg (L ++ [x]) := fun s hs => by
  rcases List.mem_append.1 hs with h1 | h1
  · exact h s h1
  · rw [List.mem_singleton.1 h1]; exact hx
theorem ofR_by {l : List Int} (hb : Byts l) (hl : l.length ≤ 1000000) {L : List Sg} {a : Nat} (h : ofR l = .ok L a) : BySg L ∧ L.length ≤ l.length ∧ a ≤ l.length := by
  have := lexO_ind l (fun a L => BySg L ∧ L.length ≤ a) (fun a acc m d s a' hP h2 _ hs => ⟨hP.1.snoc (lexS_by hb hl hs), by have := lexS_le h2 hs; rw [List.length_append]; have := hP.2; simp; omega⟩) (l.length + 1) 0 [] L a (Nat.zero_le _) ⟨fun s hs => (by cases hs), Nat.le_refl _⟩ h
  exact ⟨this.1.1, Nat.le_trans this.1.2 this.2, this.2⟩
def endN (l : List Int) (at_ : Int) : Int := if 0 ≤ at_ ∧ at_ ≤ l.length then (match ofR (l.drop at_.toNat) with | .ok _ a => at_ + a | .err _ _ => 0) else 0
def endB (l : List Int) (at_ : Int) : Bool := if 0 ≤ at_ ∧ at_ ≤ l.length then (match ofR (l.drop at_.toNat) with | .ok _ _ => true | .err _ _ => false) else false
theorem byts_S (S : ByteArray) : Byts (bytesL S) := fun x hx => by
  obtain ⟨b, _, rfl⟩ := List.mem_map.1 hx
  have h := b.toNat_lt
  exact ⟨Int.natCast_nonneg _, by show (b.toNat : Int) < 256; omega⟩
theorem sl_S (w : World) (S : ByteArray) : Sl .u8 (Lib.bytesWorld w 5 S) (some ⟨w.heap.size, 0, none⟩) (bytesL S) := by
  rcases Nat.eq_zero_or_pos (bytesL S).length with h | h
  · exact .inl (List.eq_nil_of_length_eq_zero h)
  · refine .inr ⟨w.heap.size, 0, rfl, ?_, fun i hi => ?_⟩
    · have h0 := bw_cell w 5 S 0 (.int .u8 (bytesL S)[0]) (by rw [List.getElem?_map, List.getElem?_eq_getElem h]; rfl)
      rw [add_none] at h0
      by_cases hlt : w.heap.size < (Lib.bytesWorld w 5 S).heap.size
      · exact hlt
      · exfalso
        unfold World.cell? at h0
        rw [Array.getElem?_eq_none (show (Lib.bytesWorld w 5 S).heap.size ≤ w.heap.size by omega)] at h0
        cases h0
    · have h0 := bw_cell w 5 S i (.int .u8 ((bytesL S).getD i 0)) (by rw [List.getElem?_map, List.getElem?_eq_getElem hi]; simp [List.getD_eq_getElem?_getD, hi])
      rw [add_none] at h0
      exact h0
theorem PtS.nil_ (w : World) : PtS w (.slice none 0 0) [] := ⟨none, 0, rfl, .inl rfl, Nat.le_refl _, (fun x hx => by cases hx), by simp⟩
theorem cell_newm (w : World) (cs : Array Value) (t : TypeId) (z : Nat × Nat) (i : Nat) : (w.alloc (.cells cs t z)).cell? ⟨w.heap.size, i, none⟩ = cs[i]? := by
  have h : (w.alloc (.cells cs t z)).heap[w.heap.size]? = some (.cells cs t z) := heap_alloc_new w _
  unfold World.cell?
  rw [h]
  cases hc : cs[i]? with
  | none => simp [hc]
  | some v => simp [hc]
theorem PtS.new_ (w : World) (cs : Array Value) (d : List Int) (n : Nat) (z : Nat × Nat) (h : cs.toList = d.map (Value.int .u8)) (hn : n = d.length) (hb : Byts d) (hl : d.length ≤ 1000000) : PtS (w.alloc (.cells cs 5 z)) (.slice (some ⟨w.heap.size, 0, none⟩) n n) d := by
  subst hn
  refine ⟨_, _, rfl, .inr ⟨w.heap.size, 0, rfl, by simp, fun i hi => ?_⟩, Nat.le_refl _, hb, hl⟩
  rw [cell_newm, ← Array.getElem?_toList, h]
  simp [List.getD_eq_getElem?_getD, hi]
theorem segs_row (w : World) (cs : Array Value) (L : List Sg) (h : SgV (PtS w) cs.toList L) : SegS (w.alloc (.cells cs 36)) (some ⟨w.heap.size, 0, none⟩) L :=
  ⟨cs.toList, SlV.new_ w _ cs, SgV.mono (fun _ _ h => h.keep (ba (brefl w) _)) h⟩
end Go.Proofs.Ytfohajgljjffgaa
