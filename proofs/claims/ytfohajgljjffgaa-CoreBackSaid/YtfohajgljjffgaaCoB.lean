/- slices.DeleteFunc of segments. -/
import Derived.Test.YtfohajgljjffgaaCoA
namespace Go.Proofs.Ytfohajgljjffgaa
open Go.RowKit
open Go.Tin
set_option linter.unusedVariables false
set_option linter.unusedSimpArgs false


theorem wpl_storev {P : Program} {t : TypeId} {n : Nat} (rt : RT P t n) {ops : Array Oper} {rest : List Oper} {o : Oper} {a : Act} {w : World} {Q : Exit → Act → World → Prop} (hgd : o.guard = none) (x y : Operand) (ho : o.op = .store t x y)
    (g p : Nat) (hx : a.eval x = .pointer (some ⟨g, p, none⟩)) (cs : Array Value) (hy : a.eval y = .agg cs) (h1 : cs.all (·.oneCell') = true) (ty : TypeId) (hn : cs.size = n) (cur : Array Value) (hc : p + n ≤ cur.size) (hg : w.heap[g]? = some (.cells cur ty (0, 0)))
    (h : ∀ w', w'.heap[g]? = some (.cells (over cur p cs.toList) ty (0, 0)) → w.grownBy w' (some g) → wpList P ops Q rest (a.put o.dst undef) w') : wpList P ops Q (o :: rest) a w := by
  refine wpList_store_mid hgd t x y ho g p cs hx hy ?_ (by rw [rt.it, hn]) h1 ?_
  · intro j hj
    rw [cell_of_row w g (p + j) cur ty _ hg, Array.getElem?_eq_getElem (by omega)]
    exact ⟨rfl, frozen_of_row w g (p + j) cur ty hg⟩
  · refine h _ ?_ (grown_setCells g _ _ _ _ (World.grownBy.refl w _))
    rw [setCells_heap _ _ _ _ hg]
theorem zc_len (z : Array Value) (n : Nat) : (Builtin.zeroCells z n).toList.length = n * z.size := by
  rw [Array.length_toList, size_zeroCells]
theorem clrv_run {w : World} {g p n c : Nat} {cur : Array Value} (hn : 0 < n) (hh : w.heap[g]? = some (.cells cur 36 (0, 0))) (hc : p + n * 3 ≤ cur.size) (ty : TypeId) :
    ∃ w', (Builtin.clear_ #[27] ty #[.slice (some ⟨g, p, none⟩) n c]).run Try.prog w = .ok (.tuple #[]) w' ∧ w.grownBy w' (some g) ∧ ∃ vs : List Value, vs.length = n * 3 ∧ w'.heap[g]? = some (.cells (over cur p vs) 36 (0, 0)) := by
  have hzv : ∀ w, (zeroValue 36).run Try.prog w = .ok (.agg #[.int .i64 0, .slice none 0 0, .slice none 0 0]) w := fun w => by kernel_rfl
  obtain ⟨vs, hvs⟩ : ∃ vs, (Builtin.zeroCells (Value.agg #[.int .i64 0, .slice none 0 0, .slice none 0 0]).cells n).toList = vs := ⟨_, rfl⟩
  have hl : vs.length = n * 3 := by rw [← hvs, zc_len]; rfl
  have h1 : ∀ v ∈ vs, v.oneCell' = true := by
    intro v hv
    rw [← hvs] at hv
    obtain ⟨i, hi, rfl⟩ := List.getElem_of_mem hv
    simp only [Builtin.zeroCells, Value.cells, Array.getElem_toList, Array.getElem_map, Array.getElem_range]
    have h3 : i % 3 = 0 ∨ i % 3 = 1 ∨ i % 3 = 2 := by omega
    show ((#[Value.int .i64 0, .slice none 0 0, .slice none 0 0] : Array Value)[i % 3]!).oneCell' = true
    rcases h3 with h | h | h <;> rw [h] <;> rfl
  have hst := run_storeCells_cells (P := Try.prog) g p vs 0 w (fun j hj => by rw [Nat.add_zero, cell_of_row w g (p + j) cur _ _ hh, Array.getElem?_eq_getElem (by omega)]; rfl) (fun j hj => by rw [Nat.add_zero]; exact frozen_of_row w g (p + j) cur _ hh) h1
  rw [Nat.add_zero] at hst
  obtain ⟨m, rfl⟩ : ∃ m, n = m + 1 := ⟨n - 1, by omega⟩
  exact ⟨w.setCells g p vs, by simp [Builtin.clear_, run_underlying Try.underlying27, hzv, hvs, hst], grown_setCells g _ _ _ _ (World.grownBy.refl w _), vs, hl, setCells_heap _ _ _ _ hh⟩
theorem over_take {vs : List Value} {p m : Nat} {cur : Array Value} (h : p + vs.length ≤ cur.size) (hm : m ≤ p) : (over cur p vs).toList.take m = cur.toList.take m := by
  apply List.ext_getElem?
  intro j
  by_cases hj : j < m
  · rw [List.getElem?_take_of_lt hj, List.getElem?_take_of_lt hj, Array.getElem?_toList, Array.getElem?_toList, over_get vs p cur j h, if_neg (by omega)]
  · rw [List.getElem?_eq_none (by rw [List.length_take]; omega), List.getElem?_eq_none (by rw [List.length_take]; omega)]
theorem over_drop {vs : List Value} {p m : Nat} {cur : Array Value} (h : p + vs.length ≤ cur.size) (hm : p + vs.length ≤ m) : (over cur p vs).toList.drop m = cur.toList.drop m := by
  apply List.ext_getElem?
  intro j
  rw [List.getElem?_drop, List.getElem?_drop, Array.getElem?_toList, Array.getElem?_toList, over_get vs p cur (m + j) h, if_neg (by omega)]
theorem over_at {vs : List Value} {p : Nat} {cur : Array Value} (h : p + vs.length ≤ cur.size) : (over cur p vs).toList.take (p + vs.length) = cur.toList.take p ++ vs := by
  apply List.ext_getElem?
  intro j
  have hcl : cur.toList.length = cur.size := Array.length_toList
  by_cases hj : j < p + vs.length
  · rw [List.getElem?_take_of_lt hj, Array.getElem?_toList, over_get vs p cur j h]
    by_cases hp : j < p
    · rw [if_neg (by omega), List.getElem?_append_left (by rw [List.length_take]; omega), List.getElem?_take_of_lt hp, Array.getElem?_toList]
    · rw [if_pos (by omega), List.getElem?_append_right (by rw [List.length_take]; omega), List.length_take, Nat.min_eq_left (by omega)]
  · rw [List.getElem?_eq_none (by rw [List.length_take]; omega), List.getElem?_eq_none (by rw [List.length_append, List.length_take]; omega)]
set_option maxRecDepth 100000 in
set_option maxHeartbeats 4000000 in
theorem indexk_any (F : FuncId) (hf : ∀ (vs : Array Value) (W : World), (callFunc F vs).run Try.prog W = .ok (.enter F vs) W) (q : Sg → Bool) (A : Option Addr) (c : Nat) (L : List Sg) (w : World) (hs : SegS w A L) (hn : L.length ≤ 1000000)
    (hq : ∀ (m : Int) (A1 A2 : Option Addr) (d s : List Int) (c1 c2 : Nat) (W : World), PtS W (.slice A1 d.length c1) d → PtS W (.slice A2 s.length c2) s → Calls Try.prog F #[sgA m A1 d.length c1 A2 s.length c2] W fun e w' => e = .returned (.bool (q ⟨m, d, s⟩)) ∧ Below W.heap.size W w') :
    Calls Try.prog 41 #[.slice A L.length c, .func (.func F) #[] #[]] w fun e w' => Below w.heap.size w w' ∧ ((L.any q = false ∧ e = .returned (.int .i64 (-1))) ∨ ∃ (k : Nat) (x : Sg), k < L.length ∧ (L.take k).any q = false ∧ L[k]? = some x ∧ q x = true ∧ e = .returned (.int .i64 (k : Int))) := by
  have HS := Lib.hid hs
  have HQ := Lib.hid hq
  clear hs hq
  go_enter Try.func41, Try.ntmps41
  go_wp2_with fail
  go_loopw [8] (fun s8 wr => ∃ (i : Nat), i ≤ L.length ∧ s8 = .int .i64 (i : Int) ∧ (L.take i).any q = false ∧ Below w.heap.size w wr) (fun s8 _ => L.length - (intOf s8).toNat)
  case atStart => exact ⟨0, by omega, rfl, rfl, Below.refl _ _⟩
  case round =>
    obtain ⟨i, hi, rfl, hno, hb⟩ := hrel
    have HN := Lib.hid hno
    have HB := Lib.hid hb
    clear hno hb
    by_cases hil : i < L.length
    case neg =>
      obtain rfl : i = L.length := by omega
      go_wp2_with fail
      go_ret
      exact ⟨HB.out, .inl ⟨any_notG q HN.out, rfl⟩⟩
    have i1 : (i : Int) < (L.length : Int) := by omega
    obtain ⟨b, off, rfl, hlt, hc⟩ := (HS.out.keep HB.out).at_ (by omega)
    obtain ⟨m1, d1, s1, B1, e1, B2, e2, hx, _, _, _, hrg, hp1, hp2⟩ := hc i hil
    have HX := Lib.hid (take_nextG hx)
    have HX0 := Lib.hid hx
    have RG := Lib.hid hrg
    clear hx hrg hc
    go_wp2_with ((with_reducible refine wpl_loadv rtS ?_ (.tmp 14) ?_ b (off + i * 3) ?_ [.int .i64 m1, .slice B1 d1.length e1, .slice B2 s1.length e2] ?_ RG.out ?_); rfl; rfl; rfl; rfl; simp only [Act.put, List.setIfInBounds_toArray, List.set_cons_succ, List.set_cons_zero])
    refine Calls.mono (HQ.out m1 B1 B2 d1 s1 e1 e2 _ hp1 hp2) ?_
    cases hq : q ⟨m1, d1, s1⟩ with
    | true =>
      have HE := Lib.hid hq
      clear hq
      rintro e w' ⟨rfl, hb⟩
      go_wp2_with fail
      go_ret
      exact ⟨HB.out.trans (hb.mono HB.out.size), .inr ⟨i, _, hil, HN.out, HX0.out, HE.out, rfl⟩⟩
    | false =>
      have HE := Lib.hid hq
      clear hq
      rintro e w' ⟨rfl, hb⟩
      go_wp2_with fail
      exact ⟨⟨i + 1, by omega, rfl, by rw [HX.out, List.any_append, HN.out]; simpa using HE.out, HB.out.trans (hb.mono HB.out.size)⟩, by simp only [intOf]; omega⟩
theorem filt_any {q : Sg → Bool} {L : List Sg} (h : L.any q = false) : L.filter (fun s => !q s) = L := by
  rw [List.filter_eq_self]
  intro x hx
  cases hq : q x with
  | false => rfl
  | true =>
    have : L.any q = true := List.any_eq_true.2 ⟨x, hx, hq⟩
    rw [h] at this; cases this
theorem filt_next {q : Sg → Bool} {L : List Sg} {j : Nat} {x : Sg} (h : L[j]? = some x) : (L.take (j + 1)).filter (fun s => !q s) = (L.take j).filter (fun s => !q s) ++ (if q x = true then [] else [x]) := by
  rw [take_nextG h, List.filter_append]
  cases hq : q x <;> simp [hq]
set_option maxRecDepth 100000 in
set_option maxHeartbeats 8000000 in
theorem delete_any (F : FuncId) (hf : ∀ (vs : Array Value) (W : World), (callFunc F vs).run Try.prog W = .ok (.enter F vs) W) (q : Sg → Bool) (A : Option Addr) (c : Nat) (L : List Sg) (xs : List Value) (w : World) (B : Nat) (hB : B ≤ w.heap.size) (ho : OwnV 36 3 w B (.slice A L.length c) L.length xs) (hsv : SgV (fun v d => Own .u8 5 w B v d) xs L) (hby : BySg L) (hn : L.length ≤ 1000000)
    (hq : ∀ (m : Int) (A1 A2 : Option Addr) (d s : List Int) (c1 c2 : Nat) (W : World), PtS W (.slice A1 d.length c1) d → PtS W (.slice A2 s.length c2) s → Calls Try.prog F #[sgA m A1 d.length c1 A2 s.length c2] W fun e w' => e = .returned (.bool (q ⟨m, d, s⟩)) ∧ Below W.heap.size W w') :
    Calls Try.prog 25 #[.slice A L.length c, .func (.func F) #[] #[]] w fun e w' => ∃ A' c' ys, e = .returned (.slice A' (L.filter fun s => !q s).length c') ∧ OwnV 36 3 w' B (.slice A' (L.filter fun s => !q s).length c') (L.filter fun s => !q s).length ys ∧ SgV (fun v d => Own .u8 5 w' B v d) ys (L.filter fun s => !q s) ∧ Below B w w' := by
  have HI := Lib.hid (indexk_any F hf q A c L w (SegS.own ho hsv hby) hn hq)
  have HO := Lib.hid ho
  have HSV := Lib.hid hsv
  have HBY := Lib.hid hby
  have HQ := Lib.hid hq
  clear ho hsv hby hq
  go_enter Try.func25, Try.ntmps25
  go_wp2_with fail
  refine HI.out.mono ?_
  rintro e w1 ⟨hb1, ⟨hno, rfl⟩ | ⟨k, x, hk, hkn, hkx, hqx, rfl⟩⟩
  · have HF := Lib.hid (filt_any hno)
    clear hno
    go_wp2_with fail
    go_ret
    rw [HF.out]
    exact ⟨A, c, xs, rfl, HO.out.keep hb1, SgV.mono (fun _ _ h => h.keep hb1) HSV.out, hb1.mono hB⟩
  obtain ⟨N, hN⟩ : ∃ N, L.length = N := ⟨_, rfl⟩
  rw [hN] at HO hn hk ⊢
  have HN := Lib.hid hN
  clear hN
  obtain ⟨g, cur, rfl, hBg, hh, hnc, hcm, hcs, htk⟩ : ∃ g cur, A = some ⟨g, 0, none⟩ ∧ B ≤ g ∧ w1.heap[g]? = some (.cells cur 36 (0, 0)) ∧ N ≤ c ∧ c ≤ maxLen ∧ cur.size = c * 3 ∧ cur.toList.take (N * 3) = xs := by
    rcases (HO.out.keep hb1).2 with ⟨he, h0⟩ | ⟨g, cap, cur, he, h1, h2, h3, h4, h5, h6⟩
    · exfalso; omega
    · injection he with e1 _ e3
      subst e3
      exact ⟨g, cur, e1, h1, h2, h3, h4, h5, h6⟩
  have HB1 := Lib.hid (hb1.mono hB)
  have hB1 : B ≤ w1.heap.size := Nat.le_trans hB hb1.size
  have hne1 : ((k : Int) == -1) = false := by rw [beq_eq_false_iff_ne]; omega
  have HXL := Lib.hid (show xs.length = N * 3 by rw [HSV.out.len, HN.out])
  have HREL := Lib.hid (show ∃ (i j : Nat) (cu : Array Value), i < j ∧ j ≤ N ∧ i = ((L.take j).filter fun s => !q s).length ∧ Value.int .i64 (k : Int) = .int .i64 (i : Int) ∧ Value.int .i64 ((k : Int) + 1) = .int .i64 (j : Int) ∧ w1.heap[g]? = some (.cells cu 36 (0, 0)) ∧ cu.size = c * 3 ∧ SgV (fun v d => Own .u8 5 w1 B v d) (cu.toList.take (i * 3)) ((L.take j).filter fun s => !q s) ∧ (cu.toList.drop (j * 3)).take ((N - j) * 3) = xs.drop (j * 3) ∧ SgV (fun v d => Own .u8 5 w1 B v d) (xs.drop (j * 3)) (L.drop j) ∧ Below B w w1 by
    have hf1 : (L.take (k + 1)).filter (fun s => !q s) = L.take k := by rw [filt_next hkx, if_pos hqx, List.append_nil, filt_any hkn]
    have hsv1 := SgV.mono (fun _ _ h => Own.keep h hb1) HSV.out
    refine ⟨k, k + 1, cur, by omega, by omega, ?_, rfl, rfl, hh, hcs, ?_, ?_, hsv1.drop _, HB1.out⟩
    · rw [hf1, List.length_take, HN.out]; omega
    · rw [hf1, show cur.toList.take (k * 3) = xs.take (k * 3) by rw [← htk, List.take_take, Nat.min_eq_left (by omega)]]
      exact hsv1.take k
    · rw [← htk, List.drop_take]
      congr 1
      omega)
  clear hh htk hcs hkn hkx hqx hb1
  go_wp2_with fail
  go_loopw [5, 6] (fun s5 s6 wr => ∃ (i j : Nat) (cu : Array Value), i < j ∧ j ≤ N ∧ i = ((L.take j).filter fun s => !q s).length ∧ s5 = .int .i64 (i : Int) ∧ s6 = .int .i64 (j : Int) ∧ wr.heap[g]? = some (.cells cu 36 (0, 0)) ∧ cu.size = c * 3 ∧ SgV (fun v d => Own .u8 5 wr B v d) (cu.toList.take (i * 3)) ((L.take j).filter fun s => !q s) ∧ (cu.toList.drop (j * 3)).take ((N - j) * 3) = xs.drop (j * 3) ∧ SgV (fun v d => Own .u8 5 wr B v d) (xs.drop (j * 3)) (L.drop j) ∧ Below B w wr) (fun _ s6 _ => N - (intOf s6).toNat)
  case atStart => exact HREL.out
  case round =>
    obtain ⟨i, j, cu, hij, hjN, hi, rfl, rfl, hh, hcs, hs1, hdr, hs2, hb⟩ := hrel
    have HH := Lib.hid hh
    have HCS := Lib.hid hcs
    have HS1 := Lib.hid hs1
    have HDR := Lib.hid hdr
    have HS2 := Lib.hid hs2
    have HB := Lib.hid hb
    have HI2 := Lib.hid hi
    clear hh hs1 hdr hs2 hb hi hcs
    by_cases hjl : j < N
    case neg =>
      obtain rfl : j = N := by omega
      have hT : L.take j = L := List.take_of_length_le (Nat.le_of_eq HN.out)
      rw [hT] at HS1 HI2
      have hclr : ∃ w9, (Builtin.clear_ #[27] 0 #[.slice (cutA (some ⟨g, 0, none⟩) c i 3) (j - i) (c - i)]).run Try.prog wr = .ok (.tuple #[]) w9 ∧ wr.grownBy w9 (some g) ∧ ∃ vs : List Value, vs.length = (j - i) * 3 ∧ w9.heap[g]? = some (.cells (over cu (i * 3) vs) 36 (0, 0)) := by
        have he : cutA (some ⟨g, 0, none⟩) c i 3 = some ⟨g, i * 3, none⟩ := by
          unfold cutA
          rw [if_neg (by omega), Option.map_some, add_none, Nat.zero_add]
        rw [he]
        exact clrv_run (by omega) HH.out (by rw [HCS.out]; omega) 0
      obtain ⟨w9, hrun, hg9, vs, hvl, hh9⟩ := hclr
      have HRUN := Lib.hid hrun
      clear hrun
      go_wp2_with ((with_reducible refine Tin.wpl_cutn (P := Try.prog) (e := 36) (s := 3) Try.underlying27 sz3 ?_ (.tmp 36) (.tmp 37) ?_ (some ⟨g, 0, none⟩) j c i (i : Int) ?_ ?_ ?_ ?_ ?_); rfl; rfl; rfl; rfl; rfl; exact Nat.le_of_lt hij; simp only [Act.put, List.setIfInBounds_toArray, List.set_cons_succ, List.set_cons_zero])
      rw [HRUN.out]
      simp only [Result.andThen]
      rw [Oper.upon_value]
      have j9 : (i : Int) ≤ (c : Int) := by omega
      go_wp2_with fail
      go_ret
      have hbx : Below B wr w9 := ⟨hg9.os, hg9.tape, hg9.output, hg9.size, fun t ht => hg9.block t (by have := HB.out.size; omega) (fun e => by have := Option.some.inj e; omega)⟩
      refine ⟨some ⟨g, 0, none⟩, c, cu.toList.take (i * 3), by rw [← HI2.out]; rfl, ?_, SgV.mono (fun _ _ h => Own.kept h hg9 (own_cells_ne h HH.out (by decide))) HS1.out, HB.out.trans hbx⟩
      rw [← HI2.out]
      refine ⟨by rw [List.length_take, Array.length_toList, HCS.out]; omega, .inr ⟨g, c, _, rfl, hBg, hh9, by omega, hcm, by rw [over_size]; exact HCS.out, ?_⟩⟩
      exact over_take (by rw [hvl, HCS.out]; omega) (Nat.le_refl _)
    have i1 : (j : Int) < (N : Int) := by omega
    obtain ⟨⟨m1, d1, s1⟩, hy⟩ : ∃ y, L[j]? = some y := ⟨L[j]'(by rw [HN.out]; exact hjl), List.getElem?_eq_getElem _⟩
    have hy0 : (L.drop j)[0]? = some ⟨m1, d1, s1⟩ := by rw [List.getElem?_drop, Nat.add_zero]; exact hy
    obtain ⟨hlt0, hyy⟩ := List.getElem?_eq_some_iff.1 hy0
    obtain ⟨v, u, hx, hv, hu⟩ := HS2.out.at_ 0 hlt0
    rw [hyy] at hx hv hu
    have hnx := HS2.out.drop 1
    rw [List.drop_drop, List.drop_drop, show j * 3 + 1 * 3 = (j + 1) * 3 by omega] at hnx
    obtain ⟨A1, c1, rfl⟩ := own_form hv
    obtain ⟨A2, c2, rfl⟩ := own_form hu
    rw [Nat.zero_mul, List.drop_zero] at hx
    have hcell : ∀ t (z : Value), [.int .i64 m1, .slice A1 d1.length c1, .slice A2 s1.length c2][t]? = some z → cu[j * 3 + t]? = some z := fun t z hz => by
      have ht3 : t < 3 := (List.getElem?_eq_some_iff.1 hz).1
      rw [← hx, List.getElem?_take_of_lt ht3, ← HDR.out, List.getElem?_take_of_lt (by omega), List.getElem?_drop, Array.getElem?_toList] at hz
      exact hz
    have RG := Lib.hid (show wr.rangeAt g (j * 3) [.int .i64 m1, .slice A1 d1.length c1, .slice A2 s1.length c2] from fun t z hz => by rw [cell_of_row wr g (j * 3 + t) cu _ _ HH.out]; exact hcell t z hz)
    have hbs := HBY.out _ (List.mem_of_getElem? hy)
    obtain ⟨R0, hvb, hvz⟩ := alloc1 wr (.cells (srow m1 A1 d1.length c1 A2 s1.length c2) 36)
    have R1 := Lib.hid R0
    have HVB := Lib.hid hvb
    have P1 := Lib.hid (PtS.own (hv.keep hvb) hbs.1 hbs.2.2.1)
    have P2 := Lib.hid (PtS.own (hu.keep hvb) hbs.2.1 hbs.2.2.2)
    have HV := Lib.hid hv
    have HU := Lib.hid hu
    have HNX := Lib.hid hnx
    have HFN := Lib.hid (filt_next (q := q) hy)
    clear hy hy0 hyy hx hv hu hnx hcell hbs R0 hvb hvz hlt0
    have hB2 : B ≤ wr.heap.size := Nat.le_trans hB HB.out.size
    go_wp2_with (first | ((with_reducible refine wpl_loadv rtS ?_ (.tmp 24) ?_ g (j * 3) ?_ [.int .i64 m1, .slice A1 d1.length c1, .slice A2 s1.length c2] ?_ RG.out ?_); rfl; rfl; rfl; rfl; simp only [Act.put, List.setIfInBounds_toArray, List.set_cons_succ, List.set_cons_zero]) | ((with_reducible refine wpl_load_row rtS ?_ (.tmp 7) ?_ (wr.heap.size) ?_ 36 (srow m1 A1 d1.length c1 A2 s1.length c2) ?_ R1.out ?_); rfl; rfl; rfl; rfl; simp only [Act.put, List.setIfInBounds_toArray, List.set_cons_succ, List.set_cons_zero]))
    refine Calls.mono (HQ.out m1 A1 A2 d1 s1 c1 c2 _ P1.out P2.out) ?_
    cases hq : q ⟨m1, d1, s1⟩ with
    | true =>
      have HE := Lib.hid hq
      clear hq
      rintro e w2 ⟨rfl, hb2⟩
      have hbb := HVB.out.trans (hb2.mono HVB.out.size)
      have HBB := Lib.hid hbb
      clear hb2 hbb
      go_wp2_with fail
      have hft : (L.take (j + 1)).filter (fun s => !q s) = (L.take j).filter fun s => !q s := by rw [HFN.out, if_pos HE.out, List.append_nil]
      exact ⟨⟨i, j + 1, cu, by omega, by omega, by rw [hft]; exact HI2.out, rfl, rfl, (HBB.out.block _ (row_lt HH.out)).trans HH.out, HCS.out, by rw [hft]; exact SgV.mono (fun _ _ h => h.keep HBB.out) HS1.out, by
        have h := congrArg (List.drop 3) HDR.out
        rw [List.drop_take, List.drop_drop, List.drop_drop, show j * 3 + 3 = (j + 1) * 3 by omega, show (N - j) * 3 - 3 = (N - (j + 1)) * 3 by omega] at h
        exact h, SgV.mono (fun _ _ h => h.keep HBB.out) HNX.out, HB.out.trans (HBB.out.mono hB2)⟩, by simp only [intOf]; omega⟩
    | false =>
      have HE := Lib.hid hq
      clear hq
      rintro e w2 ⟨rfl, hb2⟩
      have hbb := HVB.out.trans (hb2.mono HVB.out.size)
      have HBB := Lib.hid hbb
      have R2 := Lib.hid ((hb2.block _ (row_lt R1.out)).trans R1.out)
      have HH2 := Lib.hid ((hbb.block _ (row_lt HH.out)).trans HH.out)
      clear hb2 hbb
      have hci : i * 3 + 3 ≤ cu.size := by rw [HCS.out]; omega
      go_wp2_with (first | ((with_reducible refine wpl_load_row rtS ?_ (.tmp 7) ?_ (wr.heap.size) ?_ 36 (srow m1 A1 d1.length c1 A2 s1.length c2) ?_ R2.out ?_); rfl; rfl; rfl; rfl; simp only [Act.put, List.setIfInBounds_toArray, List.set_cons_succ, List.set_cons_zero]) | (refine wpl_storev rtS rfl (.tmp 33) (.tmp 32) rfl g (i * 3) rfl (srow m1 A1 d1.length c1 A2 s1.length c2) rfl (srow_one _ _ _ _ _ _ _) 36 rfl cu hci HH2.out ?_; intro w7 hh7 hg7; have HH7 := Lib.hid hh7; have HG7 := Lib.hid hg7; clear hh7 hg7; (try simp only [Act.put])))
      have hft : (L.take (j + 1)).filter (fun s => !q s) = (L.take j).filter (fun s => !q s) ++ [⟨m1, d1, s1⟩] := by rw [HFN.out, if_neg (by rw [HE.out]; decide)]
      have hv3 : (srow m1 A1 d1.length c1 A2 s1.length c2).toList = [.int .i64 m1, .slice A1 d1.length c1, .slice A2 s1.length c2] := rfl
      have kp : ∀ {v : Value} {d : List Int}, Own .u8 5 wr B v d → Own .u8 5 w7 B v d := fun h => (h.keep HBB.out).kept HG7.out (own_cells_ne (h.keep HBB.out) HH2.out (by decide))
      refine ⟨⟨i + 1, j + 1, _, by omega, by omega, ?_, rfl, rfl, HH7.out, ?_, ?_, ?_, ?_, ?_⟩, by simp only [intOf]; omega⟩
      · rw [hft, List.length_append, ← HI2.out]; rfl
      · rw [over_size]; exact HCS.out
      · rw [hft, show (i + 1) * 3 = i * 3 + (srow m1 A1 d1.length c1 A2 s1.length c2).toList.length by rw [hv3]; simp; omega, over_at (by rw [hv3]; simpa using hci), hv3]
        exact (SgV.mono (fun _ _ h => kp h) HS1.out).app (.one (kp HV.out) (kp HU.out))
      · rw [over_drop (by rw [hv3]; simpa using hci) (by rw [hv3]; simp; omega)]
        have h := congrArg (List.drop 3) HDR.out
        rw [List.drop_take, List.drop_drop, List.drop_drop, show j * 3 + 3 = (j + 1) * 3 by omega, show (N - j) * 3 - 3 = (N - (j + 1)) * 3 by omega] at h
        exact h
      · exact SgV.mono (fun _ _ h => kp h) HNX.out
      · exact (HB.out.trans (HBB.out.mono hB2)).trans ⟨HG7.out.os, HG7.out.tape, HG7.out.output, HG7.out.size, fun t ht => HG7.out.block t (by have := HBB.out.size; omega) (fun e => by have := Option.some.inj e; omega)⟩
end Go.Proofs.Ytfohajgljjffgaa
