/- A tree as an argument, opened. -/
import Derived.Test.YtkepbobnjplpoaaLzG
import Derived.Test.YtkepbobnjplpoaaLb
namespace Go.Proofs.Ytkepbobnjplpoaa
open Go.RowKit
open Go.Tin
set_option linter.unusedVariables false
set_option linter.unusedSimpArgs false

open Go.ChangeShapes Go.WideShapes Go.Deep

theorem SlP.ofSl {k : IntKind} {w : World} {A : Option Addr} {l : List Int} (h : Sl k w A l) : SlP k w (· < w.heap.size) A l := h.imp id fun ⟨b, off, hA, hb, hc⟩ => ⟨b, off, hA, hb, hb, hc⟩
theorem tgs_nil (w : World) (p : Nat → Prop) (A : Option Addr) : TgS w p A [] := ⟨[], .inl rfl, .nil⟩
theorem len2 {α : Type} {l : List α} (h : l.length = 2) : ∃ a b, l = [a, b] := by
  match l, h with
  | [a, b], _ => exact ⟨a, b, rfl⟩
theorem len3 {α : Type} {l : List α} (h : l.length = 3) : ∃ a b c, l = [a, b, c] := by
  match l, h with
  | [a, b, c], _ => exact ⟨a, b, c, rfl⟩
theorem len4 {α : Type} {l : List α} (h : l.length = 4) : ∃ a b c d, l = [a, b, c, d] := by
  match l, h with
  | [a, b, c, d], _ => exact ⟨a, b, c, d, rfl⟩
theorem sv_of {w : World} {x : Addr} {s : Nat} {E : List Value → Prop} : ∀ {len : Nat}, (∀ i, i < len → ∃ cs : List Value, cs.length = s ∧ (∀ j, j < s → w.cell? ((x.add (i * s)).add j) = cs[j]?) ∧ E cs) →
    ∃ L : List (List Value), L.length = len ∧ (∀ cs ∈ L, cs.length = s ∧ E cs) ∧ L.flatten.length = len * s ∧ ∀ i, i < len * s → w.cell? (x.add i) = L.flatten[i]?
  | 0, _ => ⟨[], rfl, by simp, by simp, fun i hi => by simp at hi⟩
  | len + 1, h => by
    obtain ⟨L, h1, h2, h3, h4⟩ := sv_of (len := len) (fun i hi => h i (by omega))
    obtain ⟨cs, c1, c2, c3⟩ := h len (by omega)
    refine ⟨L ++ [cs], by simp [h1], fun c hc => ?_, by simp [h3, c1, Nat.succ_mul], fun i hi => ?_⟩
    · rcases List.mem_append.1 hc with hc | hc
      · exact h2 c hc
      · obtain rfl := List.mem_singleton.1 hc
        exact ⟨c1, c3⟩
    · rw [List.flatten_append, List.flatten_singleton]
      by_cases hlt : i < len * s
      · rw [List.getElem?_append_left (by rw [h3]; exact hlt)]
        exact h4 i hlt
      · rw [List.getElem?_append_right (by rw [h3]; omega), h3]
        rw [Nat.succ_mul] at hi
        have := c2 (i - len * s) (by omega)
        rw [addr_add_add, show len * s + (i - len * s) = i by omega] at this
        exact this
theorem svp_of {w : World} {x : Addr} {n : Nat} {xs : List Value} (hn : xs.length = n) (h : ∀ i, i < n → w.cell? (x.add i) = xs[i]?) : SvP w (· < w.heap.size) (some x) xs := by
  by_cases h0 : xs = []
  · exact .inl h0
  have hp : 0 < n := by rw [← hn]; exact List.length_pos_iff.2 h0
  have hc := h 0 hp
  rw [List.getElem?_eq_getElem (by omega)] at hc
  have hspot : x.spot = none := by
    have := World.cell?_spot hc
    simpa [Addr.add] using this
  have hlt : x.block < w.heap.size := by
    have := World.block_lt_of_cell? w _ hc
    simpa [Addr.add] using this
  obtain ⟨b, off, spot⟩ := x
  have hs' : spot = none := hspot
  subst hs'
  refine .inr ⟨b, off, rfl, hlt, hlt, fun i hi => ?_⟩
  have := h i (by omega)
  rw [add_none] at this
  exact this
theorem blob_of {w : World} {cs : List Value} (h : Fits w (.slice 1 (.int .u8)) cs) : ∃ A d c, cs = [.slice A (List.length d) c] ∧ SlP .u8 w (· < w.heap.size) A d ∧ Byts d ∧ d.length ≤ maxLen := by
  have hs : ∃ A n c, cs = [.slice A n c] := by
    rcases h with h | ⟨a, l, c, h, _⟩
    · exact ⟨_, _, _, h⟩
    · exact ⟨_, _, _, h⟩
  obtain ⟨A, n, c, rfl⟩ := hs
  obtain ⟨zs, h1, h2, h3, h4, h5, _⟩ := flat_of_fits (k := .u8) (fun cs hl hf j hj => by obtain ⟨n, rfl, hw⟩ := hf; obtain rfl : j = 0 := (by omega); exact ⟨n, rfl, hw⟩) h
  have hn : n = zs.length := by omega
  subst hn
  exact ⟨A, zs, c, rfl, .ofSl h1, byts_wf h5, by omega⟩
def tgSh : Sh := .fld 0 0 1 (.int .i64) (.fld 1 1 3 (.fld 0 0 1 (.int .i64) (.fld 1 1 1 (.int .i64) (.fld 2 2 1 (.slice 1 (.int .u8)) .unit))) .unit)
theorem tgSh_of {w : World} {cs : List Value} (hl : cs.length = 4) (h : Fits w tgSh cs) : ∃ (n t c : Int) (v : Value) (d : List Int), cs = [.int .i64 n, .int .i64 t, .int .i64 c, v] ∧ BtP w (· < w.heap.size) v d := by
  obtain ⟨a, b, c, e, rfl⟩ := len4 hl
  obtain ⟨⟨n, hn, _⟩, hv, _⟩ := (show Fits w (.int .i64) [a] ∧ Fits w (.fld 0 0 1 (.int .i64) (.fld 1 1 1 (.int .i64) (.fld 2 2 1 (.slice 1 (.int .u8)) .unit))) [b, c, e] ∧ Fits w .unit [a, b, c, e] from h)
  obtain ⟨⟨t, ht, _⟩, ⟨m, hm, _⟩, h3, _⟩ := (show Fits w (.int .i64) [b] ∧ Fits w (.int .i64) [c] ∧ Fits w (.slice 1 (.int .u8)) [e] ∧ Fits w .unit [b, c, e] from hv)
  have hn : a = .int .i64 n := by injection hn
  have ht : b = .int .i64 t := by injection ht
  have hm : c = .int .i64 m := by injection hm
  subst hn ht hm
  obtain ⟨A, d, cp, he, h4, h5, h6⟩ := blob_of (w := w) (cs := [e]) h3
  injection he with he _
  exact ⟨n, t, m, e, d, rfl, A, cp, he, h4, h5, h6⟩
theorem tgv_of {w : World} : ∀ {L : List (List Value)}, (∀ cs ∈ L, cs.length = 4 ∧ Fits w tgSh cs) → ∃ ts : List Tg, ts.length = L.length ∧ TgV (BtP w (· < w.heap.size)) L.flatten ts
  | [], _ => ⟨[], rfl, .nil⟩
  | cs :: L, h => by
    obtain ⟨ts, h1, h2⟩ := tgv_of (L := L) (fun c hc => h c (List.mem_cons_of_mem _ hc))
    obtain ⟨a, b⟩ := h cs (List.mem_cons_self)
    obtain ⟨n, t, c, v, d, rfl, hb⟩ := tgSh_of a b
    exact ⟨⟨n, t, c, d⟩ :: ts, by simp [h1], .cons hb h2⟩
theorem tags_of {w : World} {cs : List Value} (h : Fits w (.slice 4 tgSh) cs) : ∃ A ts c, cs = [.slice A (List.length ts) c] ∧ TgS w (· < w.heap.size) A ts ∧ ts.length ≤ maxLen := by
  rcases h with h | ⟨a, l, c, h, hl, hc, hi⟩
  · exact ⟨none, [], 0, h, tgs_nil _ _ _, by simp⟩
  · obtain ⟨L, h1, h2, h3, h4⟩ := sv_of (fun i (hi' : i < l) => hi i (by omega))
    obtain ⟨ts, h5, h6⟩ := tgv_of h2
    exact ⟨some a, ts, c, by rw [h, h5, h1], ⟨L.flatten, svp_of h3 h4, h6⟩, by omega⟩
section
variable {H : Type} {enc : TypeId × Value → H} {w : World} {base : Nat} {held : Bool}
/-- What the cells of a directory hold. -/
def DirC (w : World) (cs : List Value) : Prop := ∃ At ct As cc Ab cb, ∃ d : Di, cs = [.slice At d.ts.length ct, .slice As d.sub.len cc, .slice Ab d.bl.length cb] ∧ DiP w (· < w.heap.size) At As Ab d
theorem dirC_of {n : Nat} {cs : List Value} {x : DataW H × List MemPlace} (ih : ∀ m, m < n → ∀ (cs : List Value) (x : DataW H × List MemPlace), DataW.trod enc Try.prog w base (fun _ => true) held m 39 cs = some x → ∃ A f c, cs = [.slice A (Fo.len f) c] ∧ FoS w (· < w.heap.size) true A f ∧ f.len ≤ maxLen)
    (h : DataW.trod enc Try.prog w base (fun _ => true) held n 42 cs = some x) : DirC w cs := by
  obtain ⟨xs, m, rfl, _, hl, hx, hf⟩ := DataW.trod_struct Try.underlying42 h
  have hx3 : xs.length = 3 := hx
  rw [show Try.prog.cellsOf 42 = 3 by kernel_rfl] at hl
  obtain ⟨a, b, c, rfl⟩ := len3 hl
  have f0 := hf 0 _ rfl
  have f1 := hf 1 _ rfl
  have f2 := hf 2 _ rfl
  rw [List.getElem?_eq_getElem (by omega)] at f0 f1 f2
  simp only [List.getElem_toArray, List.getElem_cons_zero, List.getElem_cons_succ, List.drop_zero, List.drop_succ_cons] at f0 f1 f2
  rw [show Try.prog.cellsOf 38 = 1 by kernel_rfl] at f0
  rw [show Try.prog.cellsOf 39 = 1 by kernel_rfl] at f1
  rw [show Try.prog.cellsOf 40 = 1 by kernel_rfl] at f2
  obtain ⟨A1, ts, c1, e1, t1, t2⟩ := tags_of (fits_of_trod (.slice 4 tgSh) _ m _ _ (by kernel_rfl) f0)
  obtain ⟨A3, bl, c3, e3, b1, b2, b3⟩ := blob_of (fits_of_trod (.slice 1 (.int .u8)) _ m _ _ (by kernel_rfl) f2)
  obtain ⟨A2, f, c2, e2, s1, s2⟩ := ih m (Nat.lt_succ_self _) _ _ f1
  have e1 : a = .slice A1 ts.length c1 := by injection e1
  have e2 : b = .slice A2 f.len c2 := by injection e2
  have e3 : c = .slice A3 bl.length c3 := by injection e3
  exact ⟨A1, c1, A2, c2, A3, c3, ⟨ts, bl, f⟩, by rw [e1, e2, e3], t1, s1, b1, b2, t2, s2, b3⟩
theorem fov_of {k : Bool} : ∀ {L : List (List Value)}, (∀ cs ∈ L, ∃ (tag : Int) (ds : List Value), cs = hdc k tag ++ ds ∧ DirC w ds) → ∃ f : Fo, f.len = L.length ∧ FoV w (· < w.heap.size) k f L.flatten
  | [], _ => ⟨.nil, rfl, rfl⟩
  | cs :: L, h => by
    obtain ⟨f, h1, h2⟩ := fov_of (L := L) (fun c hc => h c (List.mem_cons_of_mem _ hc))
    obtain ⟨tag, ds, rfl, At, ct, As, cc, Ab, cb, d, rfl, hd⟩ := h cs (List.mem_cons_self)
    refine ⟨.cons tag d.ts d.bl d.sub f, by simp [Fo.len, h1], At, ct, As, cc, Ab, cb, L.flatten, ?_, hd.tg, hd.bl, hd.by_, ⟨hd.nt, hd.ns, hd.nb⟩, hd.su, h2⟩
    simp
theorem subs_of : ∀ (fuel : Nat) (cs : List Value) (x : DataW H × List MemPlace), DataW.trod enc Try.prog w base (fun _ => true) held fuel 39 cs = some x → ∃ A f c, cs = [.slice A (Fo.len f) c] ∧ FoS w (· < w.heap.size) true A f ∧ f.len ≤ maxLen := by
  intro fuel
  induction fuel using Nat.strongRecOn with
  | _ fuel ih =>
  intro cs x h
  rcases DataW.trod_slice Try.underlying39 h with ⟨h0, _⟩ | ⟨a, len, cap, elems, rest, n, hfu, hcs, _, _, hl, hm, hlen, hel, _, _⟩
  · exact ⟨none, .nil, 0, h0, ⟨[], .inl rfl, rfl⟩, Nat.zero_le _⟩
  · rw [show Try.prog.cellsOf 79 = 4 by kernel_rfl] at hel
    obtain ⟨L, h1, h2, h3, h4⟩ := sv_of (w := w) (x := a) (s := 4) (len := len) (E := fun cs => ∃ (tag : Int) (ds : List Value), cs = hdc true tag ++ ds ∧ DirC w ds) (fun i hi => by
      have he := hel i hi
      rw [List.getElem?_eq_getElem (by omega)] at he
      obtain ⟨cs', e1, e2⟩ := Option.bind_eq_some_iff.1 he
      obtain ⟨_, hl4, hc4⟩ := World.cells?_some e1
      refine ⟨cs', hl4, hc4, ?_⟩
      obtain ⟨xs, m, rfl, _, hl', hx, hf⟩ := DataW.trod_struct Try.underlying79 e2
      have hx2 : xs.length = 2 := hx
      obtain ⟨a0, a1, a2, a3, rfl⟩ := len4 hl4
      have f0 := hf 0 _ rfl
      have f1 := hf 1 _ rfl
      rw [List.getElem?_eq_getElem (by omega)] at f0 f1
      simp only [List.getElem_toArray, List.getElem_cons_zero, List.getElem_cons_succ, List.drop_zero, List.drop_succ_cons] at f0 f1
      rw [show Try.prog.cellsOf 3 = 1 by kernel_rfl] at f0
      rw [show Try.prog.cellsOf 42 = 3 by kernel_rfl] at f1
      obtain ⟨t, ht, _⟩ := fits_of_trod (.int .i64) _ m _ _ (by kernel_rfl) f0
      have ht : a0 = .int .i64 t := by injection ht
      exact ⟨t, [a1, a2, a3], by rw [ht]; rfl, dirC_of (n := m) (fun k hk => ih k (by omega)) f1⟩)
    obtain ⟨f, g1, g2⟩ := fov_of (fun cs hcs => (h2 cs hcs).2)
    exact ⟨some a, f, cap, by rw [hcs, g1, h1], ⟨L.flatten, svp_of h3 h4, g2⟩, by omega⟩
/-- What a tree's cells hold. -/
def TiffOk (w : World) (cs : Array Value) : Prop := ∃ o Ad cd f, cs = #[.int .i64 o, .slice Ad (Fo.len f) cd] ∧ FoS w (· < w.heap.size) false Ad f ∧ f.len ≤ maxLen
theorem tiff_arg {cs : Array Value} {d : DataW H} {ps : List MemPlace} (h : DataW.Trod enc Try.prog w base (fun _ => true) held 24 (.agg cs) d ps) : TiffOk w cs := by
  obtain ⟨fuel, h⟩ := h
  obtain ⟨xs, m, rfl, _, hl, hx, hf⟩ := DataW.trod_struct Try.underlying24 h
  have hx2 : xs.length = 2 := hx
  rw [show Try.prog.cellsOf 24 = 2 by kernel_rfl] at hl
  have hcs : (Value.agg cs).cells.toList = cs.toList := rfl
  rw [hcs] at hl hf
  obtain ⟨l, rfl⟩ : ∃ l : List Value, cs = l.toArray := ⟨cs.toList, by simp⟩
  simp only [List.toList_toArray] at hl hf
  obtain ⟨a, b, rfl⟩ := len2 hl
  have f0 := hf 0 _ rfl
  have f1 := hf 1 _ rfl
  rw [List.getElem?_eq_getElem (by omega)] at f0 f1
  simp only [List.getElem_toArray, List.getElem_cons_zero, List.getElem_cons_succ, List.drop_zero, List.drop_succ_cons] at f0 f1
  rw [show Try.prog.cellsOf 3 = 1 by kernel_rfl] at f0
  rw [show Try.prog.cellsOf 22 = 1 by kernel_rfl] at f1
  obtain ⟨o, ho, _⟩ := fits_of_trod (.int .i64) _ m _ _ (by kernel_rfl) f0
  have ho : a = .int .i64 o := by injection ho
  rcases DataW.trod_slice Try.underlying22 f1 with ⟨h0, _⟩ | ⟨ad, len, cap, elems, rest, n, hfu, hcs, _, _, hl, hm, hlen, hel, _, _⟩
  · have h0 : b = .slice none 0 0 := by injection h0
    exact ⟨o, none, 0, .nil, by rw [ho, h0]; rfl, ⟨[], .inl rfl, rfl⟩, Nat.zero_le _⟩
  · have hb : b = .slice (some ad) len cap := by injection hcs
    rw [show Try.prog.cellsOf 42 = 3 by kernel_rfl] at hel
    obtain ⟨L, h1, h2, h3, h4⟩ := sv_of (w := w) (x := ad) (s := 3) (len := len) (E := fun cs => ∃ (tag : Int) (ds : List Value), cs = hdc false tag ++ ds ∧ DirC w ds) (fun i hi => by
      have he := hel i hi
      rw [List.getElem?_eq_getElem (by omega)] at he
      obtain ⟨cs', e1, e2⟩ := Option.bind_eq_some_iff.1 he
      obtain ⟨_, hl4, hc4⟩ := World.cells?_some e1
      exact ⟨cs', hl4, hc4, 0, cs', rfl, dirC_of (n := n) (fun k _ => subs_of k) e2⟩)
    obtain ⟨f, g1, g2⟩ := fov_of (fun cs hcs => (h2 cs hcs).2)
    exact ⟨o, some ad, cap, f, by rw [ho, hb, g1, h1], ⟨L.flatten, svp_of h3 h4, g2⟩, by omega⟩
end
end Go.Proofs.Ytkepbobnjplpoaa
