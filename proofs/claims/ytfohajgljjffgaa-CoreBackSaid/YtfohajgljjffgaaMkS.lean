/- Arguments that are segments. -/
import Derived.Test.YtfohajgljjffgaaMkR
import Derived.Test.YtfohajgljjffgaaLb
namespace Go.Proofs.Ytfohajgljjffgaa
open Go.RowKit
open Go.Tin
set_option linter.unusedVariables false
set_option linter.unusedSimpArgs false


abbrev segSh : Sh := .fld 0 0 1 (.int .i64) (.fld 1 1 1 (.slice 1 (.int .u8)) (.fld 2 2 1 (.slice 1 (.int .u8)) .unit))
/-- A slice of bytes of an argument. -/
def PtW (w : World) (v : Value) (d : List Int) : Prop := ∃ A c, v = .slice A d.length c ∧ Sl .u8 w A d ∧ d.length ≤ c ∧ c ≤ 140737488351232 ∧ Byts d
theorem flat_one (w : World) : FlatSh w .u8 1 (.int .u8) := fun cs hcs hf j hj => by
  obtain ⟨n, hn, wn⟩ := hf
  subst hn
  obtain rfl : j = 0 := by omega
  exact ⟨n, rfl, wn⟩
theorem ptw_of {w : World} {cs : List Value} (hcs : cs.length = 1) (h : Fits w (.slice 1 (.int .u8)) cs) (hz : Sized w (.slice 1 (.int .u8)) cs) : ∃ v d, cs = [v] ∧ PtW w v d := by
  have h0 : ∃ A n c, cs = [.slice A n c] := by
    rcases h with h | ⟨a, len, cap, h, _⟩
    · exact ⟨_, _, _, h⟩
    · exact ⟨_, _, _, h⟩
  obtain ⟨A, n, c, rfl⟩ := h0
  obtain ⟨zs, hs, hl, hc, hm, hw, hnil⟩ := flat_of_fits (flat_one w) h
  have hcz : c ≤ 140737488351232 := by
    cases A with
    | none => rw [hnil rfl]; omega
    | some a => exact (hz a n c rfl).1
  rw [Nat.mul_one] at hl
  subst hl
  exact ⟨_, zs, rfl, A, c, rfl, hs, hc, hcz, byts_wf hw⟩
theorem seg_el {w : World} {cs : List Value} (hcs : cs.length = 3) (hf : Fits w segSh cs) (hz : Sized w segSh cs) : ∃ m v u d s, cs = [.int .i64 m, v, u] ∧ PtW w v d ∧ PtW w u s := by
  obtain ⟨a, b, c, rfl⟩ : ∃ a b c, cs = [a, b, c] := by
    match cs, hcs with
    | [a, b, c], _ => exact ⟨a, b, c, rfl⟩
  obtain ⟨⟨m, hm, _⟩, h1, h2, _⟩ := hf
  obtain ⟨_, z1, z2, _⟩ := hz
  obtain ⟨v, d, hv, hd⟩ := ptw_of (cs := [b]) rfl h1 z1
  obtain ⟨u, s, hu, hs⟩ := ptw_of (cs := [c]) rfl h2 z2
  have ea : a = .int .i64 m := by simpa using hm
  have eb : b = v := by simpa using hv
  have ec : c = u := by simpa using hu
  exact ⟨m, v, u, d, s, by rw [ea, eb, ec], hd, hs⟩
theorem segs_of_fits {w : World} {a : Option Addr} {len cap : Nat} (h : Fits w (.slice 3 segSh) [.slice a len cap]) (hz : Sized w (.slice 3 segSh) [.slice a len cap]) : ∃ L xs, L.length = len ∧ SlV w a xs ∧ SgV (PtW w) xs L ∧ len ≤ cap ∧ cap ≤ 140737488351232 := by
  rcases h with h | ⟨x, l, c, h, hl, hc, hi⟩
  · simp at h
    obtain ⟨rfl, rfl, rfl⟩ := h
    exact ⟨[], [], rfl, .inl rfl, .nil, Nat.le_refl _, by decide⟩
  · simp at h
    obtain ⟨rfl, rfl, rfl⟩ := h
    have hzz := hz x len cap rfl
    replace hc := hzz.1
    have build : ∀ n, n ≤ len → ∃ L xs, L.length = n ∧ xs.length = n * 3 ∧ (∀ i, i < n * 3 → w.cell? (x.add i) = xs[i]?) ∧ SgV (PtW w) xs L := by
      intro n
      induction n with
      | zero => exact fun _ => ⟨[], [], rfl, rfl, fun i hi => by omega, .nil⟩
      | succ n ih =>
        intro hn
        obtain ⟨L, xs, h1, h2, h3, h4⟩ := ih (by omega)
        obtain ⟨cs, hcs, hcell, hfit⟩ := hi n (by omega)
        obtain ⟨m, v, u, d, s, rfl, hd, hs⟩ := seg_el hcs hfit (hzz.2 n (by omega) cs hcs hcell)
        refine ⟨L ++ [⟨m, d, s⟩], xs ++ [.int .i64 m, v, u], by simp [h1], by simp [h2]; omega, fun i hi' => ?_, h4.app (.one hd hs)⟩
        by_cases hlt : i < n * 3
        · rw [h3 i hlt, List.getElem?_append_left (by omega)]
        · have h5 := hcell (i - n * 3) (by omega)
          rw [addr_add_add, show n * 3 + (i - n * 3) = i by omega] at h5
          rw [h5, List.getElem?_append_right (by omega), h2]
    obtain ⟨L, xs, h1, h2, h3, h4⟩ := build len (Nat.le_refl _)
    refine ⟨L, xs, h1, ?_, h4, hl, hc⟩
    by_cases h0 : len = 0
    · exact .inl (List.eq_nil_of_length_eq_zero (by omega))
    · obtain ⟨v, hv⟩ : ∃ v, xs[0]? = some v := ⟨xs[0]'(by omega), List.getElem?_eq_getElem _⟩
      have hn := h3 0 (by omega)
      rw [hv] at hn
      have hspot : x.spot = none := by
        have := World.cell?_spot hn
        simpa [Addr.add] using this
      have hlt : x.block < w.heap.size := by
        have := World.block_lt_of_cell? w _ hn
        simpa [Addr.add] using this
      obtain ⟨b, off, spot⟩ := x
      have hs' : spot = none := hspot
      subst hs'
      refine .inr ⟨b, off, rfl, hlt, fun i hi' => ?_⟩
      have := h3 i (by omega)
      rw [add_none] at this
      exact this
theorem sgv_n {w : World} {xs : List Value} {L : List Sg} (h : SgV (PtW w) xs L) : SgV PtN xs L := by
  refine SgV.mono (fun v d hv => ?_) h
  obtain ⟨A, c, rfl, _, hc, hm, _⟩ := hv
  exact ⟨A, c, rfl, by omega⟩
theorem vN_mem {L : List Sg} {s : Sg} (h : s ∈ L) : vN s ≤ vS L := by
  induction L with
  | nil => cases h
  | cons a L ih =>
    simp only [vS]
    rcases List.mem_cons.1 h with rfl | h1
    · omega
    · have := ih h1; omega
theorem vast_no {L : List Sg} (h : vastB L = false) : L.length ≤ 40 ∧ vS L ≤ 3000 ∧ ∀ s ∈ L, s.s.length ≤ 3000 ∧ s.d.length ≤ 70000 := by
  unfold vastB at h
  simp only [Bool.or_eq_false_iff, decide_eq_false_iff_not] at h
  refine ⟨by omega, by omega, fun s hs => ?_⟩
  have h1 := vN_mem hs
  unfold vN at h1
  split at h1
  · constructor <;> omega
  · constructor <;> omega
theorem sgv_s {w : World} {xs : List Value} {L : List Sg} (h : SgV (PtW w) xs L) (hb : ∀ s ∈ L, s.s.length ≤ 3000 ∧ s.d.length ≤ 70000) : SgV (PtS w) xs L := by
  induction h with
  | nil => exact .nil
  | cons h1 h2 _ ih =>
    have h0 := hb _ (List.mem_cons_self ..)
    obtain ⟨A, c, rfl, a1, a2, _, a3⟩ := h1
    obtain ⟨B, e, rfl, b1, b2, _, b3⟩ := h2
    exact .cons ⟨A, c, rfl, a1, a2, a3, by have := h0.2; simp at this; omega⟩ ⟨B, e, rfl, b1, b2, b3, by have := h0.1; simp at this; omega⟩ (ih fun s hs => hb s (List.mem_cons_of_mem _ hs))
theorem segB_len (s : Sg) : (segB s).length ≤ 4 + s.d.length + s.s.length := by
  unfold segB
  split <;> simp <;> omega
theorem wrL_len {N : Nat} : ∀ (L : List Sg) (i : Nat), mayF N i L = true → (wrL L).length ≤ 4 * L.length + vS L
  | [], _, _ => by simp [wrL, vS]
  | s :: L, i, h => by
    simp only [mayF, Bool.and_eq_true] at h
    have ih := wrL_len L (i + 1) h.2
    have h1 := segB_len s
    have h2 := ok_d h.1
    have h3 : vN s = s.d.length + s.s.length := by unfold vN; rw [if_pos (.inl h2)]
    simp only [wrL, vS, List.length_append, List.length_cons]
    omega
theorem may_len {L : List Sg} (hm : mayB L = true) (hv : vastB L = false) : (wrL L).length ≤ 3160 := by
  unfold mayB at hm
  rw [Bool.and_eq_true] at hm
  have h1 := wrL_len L 0 hm.2
  have h2 := vast_no hv
  omega
theorem SgV.bys {w : World} {xs : List Value} {L : List Sg} (h : SgV (PtS w) xs L) : BySg L := by
  induction h with
  | nil => exact fun s hs => by cases hs
  | cons h1 h2 _ ih =>
    intro s hs
    rcases List.mem_cons.1 hs with rfl | hs
    · obtain ⟨_, _, _, _, _, h3, h4⟩ := h1
      obtain ⟨_, _, _, _, _, h5, h6⟩ := h2
      exact ⟨h3, h5, h4, h6⟩
    · exact ih s hs
end Go.Proofs.Ytfohajgljjffgaa
