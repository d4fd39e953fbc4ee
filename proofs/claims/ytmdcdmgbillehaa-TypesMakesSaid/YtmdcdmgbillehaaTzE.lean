/- The contract of a ratio's bytes, as OfRatios makes them. -/
import Derived.Test.YtmdcdmgbillehaaTzD
namespace Go.Proofs.Ytmdcdmgbillehaa
open Go.RowKit
open Go.Tin
set_option linter.unusedVariables false
set_option linter.unusedSimpArgs false


theorem kpL_le (k n : Int) : (kpL k n).length ≤ 4 := by
  unfold kpL
  split
  · exact putL_le4 _ _ _
  · simp
set_option maxRecDepth 100000 in
set_option maxHeartbeats 8000000 in
theorem rat_any (k a b : Int) (g : Nat) (w : World) (hg : w.heap[g]? = some (.cells #[.int .i64 (szT k), .int .i64 (prT k), .int .i64 (isT k)] 58 (0, 0))) :
    Calls Try.prog 41 #[.agg #[.int .i64 a, .int .i64 b], .pointer (some ⟨g, 0, none⟩)] w fun e w' => ∃ A c, e = .returned (.tuple #[.slice A (rtL k a b).length c, .bool (rtQ k a b)]) ∧ Own .u8 5 w' w.heap.size (.slice A (rtL k a b).length c) (rtL k a b) ∧ Below w.heap.size w w' := by
  have HB := Lib.hid (ba (brefl w) (.cells #[.int .i64 a, .int .i64 b] 55))
  have HR := Lib.hid (heap_alloc_new w (.cells #[.int .i64 a, .int .i64 b] 55))
  have HG := Lib.hid (show (w.alloc (.cells #[.int .i64 a, .int .i64 b] 55)).heap[g]? = some (.cells #[.int .i64 (szT k), .int .i64 (prT k), .int .i64 (isT k)] 58 (0, 0)) by rw [Below.heap_alloc _ _ _ (row_lt hg)]; exact hg)
  have HD := Lib.hid (show rtL k a b = kpL k a ++ kpL k b ∧ rtQ k a b = (nmB k a && (nmB k b && (rpB a b || rsB a b))) from ⟨rfl, rfl⟩)
  have HK1 := Lib.hid (fun W => kput_any k a W)
  have HK2 := Lib.hid (fun W => kput_any k b W)
  have HL1 := Lib.hid (kpL_le k a)
  have HL2 := Lib.hid (kpL_le k b)
  generalize kpL k a = l1 at *
  generalize kpL k b = l2 at *
  have k0 := row_cell (v := .int .i64 a) HR.out 0 rfl
  clear hg
  go_enter Try.func41, Try.ntmps41
  go_wp2_with ((with_reducible refine wpl_load_row rtK ?_ (.tmp 1) ?_ g ?_ 58 #[.int .i64 (szT k), .int .i64 (prT k), .int .i64 (isT k)] ?_ HG.out ?_); rfl; rfl; rfl; rfl; simp only [Act.put, List.setIfInBounds_toArray, List.set_cons_succ, List.set_cons_zero])
  refine (HK1.out _).mono ?_
  rintro e w1 ⟨A1, c1, rfl, ho1, hb1⟩
  have O1 := Lib.hid (ho1.mono (show w.heap.size + 1 ≤ (w.alloc (.cells #[.int .i64 a, .int .i64 b] 55)).heap.size by simp))
  replace HR := Lib.hid ((hb1.block _ (row_lt HR.out)).trans HR.out)
  replace HG := Lib.hid ((hb1.block _ (row_lt HG.out)).trans HG.out)
  replace HB := Lib.hid (HB.out.trans (hb1.mono HB.out.size))
  clear ho1 hb1 k0
  have k1 := row_cell (v := .int .i64 b) HR.out 1 rfl
  go_wp2_with ((with_reducible refine wpl_load_row rtK ?_ (.tmp 1) ?_ g ?_ 58 #[.int .i64 (szT k), .int .i64 (prT k), .int .i64 (isT k)] ?_ HG.out ?_); rfl; rfl; rfl; rfl; simp only [Act.put, List.setIfInBounds_toArray, List.set_cons_succ, List.set_cons_zero])
  refine (HK2.out _).mono ?_
  rintro e w2 ⟨A2, c2, rfl, ho2, hb2⟩
  have hsz1 : w.heap.size + 1 ≤ w1.heap.size := row_lt HR.out
  have hs2 : w1.heap.size ≤ w2.heap.size := hb2.size
  replace O1 := Lib.hid (O1.out.keep hb2)
  have O2 := Lib.hid (ho2.mono HB.out.size)
  replace HR := Lib.hid ((hb2.block _ (row_lt HR.out)).trans HR.out)
  replace HB := Lib.hid (HB.out.trans (hb2.mono HB.out.size))
  clear ho2 hb2 k1 HG HK1 HK2
  have HX1 := Lib.hid (fun W => rplainq_any a b W)
  have HX2 := Lib.hid (fun W => rsignq_any a b W)
  generalize rpB a b = P at *
  generalize rsB a b = Q at *
  cases hp : nmB k a with
  | false =>
    have HE := Lib.hid (show rtQ k a b = false by rw [HD.out.2, hp]; rfl)
    clear hp
    generalize nmB k b = Bb at *
    go_wp2_with (at_builtin; refine Tin.wpl_app bt5 _ rfl (.tmp 23) (.tmp 24) rfl (w.heap.size + 1) _ l1 rfl O1.out A2 l2.length c2 l2 rfl O2.out.sl'.2 rfl (by have := HL1.out; have := HL2.out; omega) (by have := HL1.out; have := HL2.out; omega) (by omega) ?_; intro v3 w3 ho3 hg3 hw3; generalize hl3 : l1 ++ l2 = L3 at ho3; have HM3 := Lib.hid hl3; clear hl3; obtain ⟨A3, c3, rfl⟩ := own_form ho3; have O3 := Lib.hid ho3; have hb3 : Below w.heap.size w w3 := HB.out.grown hg3 HB.out.size (fun q hq => by have h1 := (World.ownsRow.lt O1.out _ hq).1; omega); replace HR := Lib.hid ((hg3.block w.heap.size (row_lt HR.out) (fun e => by have h1 := (World.ownsRow.lt O1.out _ e.symm).1; omega)).trans HR.out); replace HB := Lib.hid hb3; clear ho3 hg3 hw3 hb3)
    go_ret2
    rw [HD.out.1, HM3.out, HE.out]
    exact ⟨A3, c3, rfl, O3.out.mono (Nat.le_succ _), HB.out⟩
  | true =>
    cases hq : nmB k b with
    | false =>
      have HE := Lib.hid (show rtQ k a b = false by rw [HD.out.2, hp, hq]; rfl)
      clear hp hq
      go_wp2_with (at_builtin; refine Tin.wpl_app bt5 _ rfl (.tmp 23) (.tmp 24) rfl (w.heap.size + 1) _ l1 rfl O1.out A2 l2.length c2 l2 rfl O2.out.sl'.2 rfl (by have := HL1.out; have := HL2.out; omega) (by have := HL1.out; have := HL2.out; omega) (by omega) ?_; intro v3 w3 ho3 hg3 hw3; generalize hl3 : l1 ++ l2 = L3 at ho3; have HM3 := Lib.hid hl3; clear hl3; obtain ⟨A3, c3, rfl⟩ := own_form ho3; have O3 := Lib.hid ho3; have hb3 : Below w.heap.size w w3 := HB.out.grown hg3 HB.out.size (fun q hq => by have h1 := (World.ownsRow.lt O1.out _ hq).1; omega); replace HR := Lib.hid ((hg3.block w.heap.size (row_lt HR.out) (fun e => by have h1 := (World.ownsRow.lt O1.out _ e.symm).1; omega)).trans HR.out); replace HB := Lib.hid hb3; clear ho3 hg3 hw3 hb3)
      go_ret2
      rw [HD.out.1, HM3.out, HE.out]
      exact ⟨A3, c3, rfl, O3.out.mono (Nat.le_succ _), HB.out⟩
    | true =>
      have HE := Lib.hid (show rtQ k a b = (P || Q) by rw [HD.out.2, hp, hq]; rfl)
      clear hp hq
      go_wp2_with (first | (at_builtin; refine Tin.wpl_app bt5 _ rfl (.tmp 23) (.tmp 24) rfl (w.heap.size + 1) _ l1 rfl O1.out A2 l2.length c2 l2 rfl O2.out.sl'.2 rfl (by have := HL1.out; have := HL2.out; omega) (by have := HL1.out; have := HL2.out; omega) (by omega) ?_; intro v3 w3 ho3 hg3 hw3; generalize hl3 : l1 ++ l2 = L3 at ho3; have HM3 := Lib.hid hl3; clear hl3; obtain ⟨A3, c3, rfl⟩ := own_form ho3; have O3 := Lib.hid ho3; have hb3 : Below w.heap.size w w3 := HB.out.grown hg3 HB.out.size (fun q hq => by have h1 := (World.ownsRow.lt O1.out _ hq).1; omega); replace HR := Lib.hid ((hg3.block w.heap.size (row_lt HR.out) (fun e => by have h1 := (World.ownsRow.lt O1.out _ e.symm).1; omega)).trans HR.out); replace HB := Lib.hid hb3; clear ho3 hg3 hw3 hb3) | ((with_reducible refine wpl_load_row rtR ?_ (.tmp 2) ?_ (w.heap.size) ?_ 55 #[.int .i64 a, .int .i64 b] ?_ HR.out ?_); rfl; rfl; rfl; rfl; simp only [Act.put, List.setIfInBounds_toArray, List.set_cons_succ, List.set_cons_zero]))
      refine (HX1.out _).mono ?_
      rintro e w4 ⟨rfl, hb4⟩
      replace HR := Lib.hid ((hb4.block _ (row_lt HR.out)).trans HR.out)
      replace HB := Lib.hid (HB.out.trans (hb4.mono HB.out.size))
      replace O3 := Lib.hid (O3.out.keep hb4)
      clear hb4
      cases P with
      | true =>
        go_wp2_with fail
        go_ret2
        rw [HD.out.1, HM3.out, HE.out]
        exact ⟨A3, c3, rfl, O3.out.mono (Nat.le_succ _), HB.out⟩
      | false =>
        go_wp2_with ((with_reducible refine wpl_load_row rtR ?_ (.tmp 2) ?_ (w.heap.size) ?_ 55 #[.int .i64 a, .int .i64 b] ?_ HR.out ?_); rfl; rfl; rfl; rfl; simp only [Act.put, List.setIfInBounds_toArray, List.set_cons_succ, List.set_cons_zero])
        refine (HX2.out _).mono ?_
        rintro e w5 ⟨rfl, hb5⟩
        replace HB := Lib.hid (HB.out.trans (hb5.mono HB.out.size))
        replace O3 := Lib.hid (O3.out.keep hb5)
        clear hb5
        go_wp2_with fail
        go_ret2
        rw [HD.out.1, HM3.out, HE.out]
        exact ⟨A3, c3, rfl, O3.out.mono (Nat.le_succ _), HB.out⟩
end Go.Proofs.Ytmdcdmgbillehaa
