/- The contracts of Read and its reference, and of the reference's Write. -/
import Derived.Test.YthjmnahmejagmaaEnJ
namespace Go.Proofs.Ythjmnahmejagmaa
open Go.RowKit
open Go.Tin
set_option linter.unusedVariables false
set_option linter.unusedSimpArgs false


theorem room12 {a : Int} {n : Nat} (h : roomB a 12 (n : Int) = true) : 0 ≤ a ∧ a + 12 ≤ (n : Int) := by
  unfold roomB at h
  simp only [Bool.and_eq_true, decide_eq_true_eq] at h
  omega
theorem room12_f {a : Int} {n : Nat} (h : roomB a 12 (n : Int) = false) : a < 0 ∨ (n : Int) < a + 12 := by
  rcases Int.lt_or_le a 0 with h0 | h0
  · exact .inl h0
  · rcases Int.lt_or_le (n : Int) (a + 12) with h1 | h1
    · exact .inr h1
    · exfalso
      unfold roomB at h
      rw [decide_eq_true h0, decide_eq_true (show (0 : Int) ≤ 12 by decide), decide_eq_true (show a ≤ (n : Int) by omega), decide_eq_true (show (12 : Int) ≤ (n : Int) - a by omega)] at h
      cases h
theorem getB_or {n : Nat} {a s o : Int} (hs : szB s = true) (h0 : 0 ≤ a) (h1 : a ≤ (n : Int) - s) : getB n a s o = orB o := by
  unfold getB mayO
  rw [hs, decide_eq_true h0, decide_eq_true h1]
  simp
theorem getN_no {l : List Int} {a s o : Int} (h : orB o = false) : getN l a s o = 0 := by
  unfold getN
  rw [if_neg]
  unfold getB mayO
  rw [h]
  simp
set_option maxRecDepth 100000 in
set_option maxHeartbeats 8000000 in
theorem erd_any (A : Option Addr) (l : List Int) (c : Nat) (a o : Int) (w : World) (hs : Sl .u8 w A l) (hl : l.length ≤ 100000000) (hby : Byts l) :
    Calls Try.prog 19 #[.slice A l.length c, .int .i64 a, .int .i64 o] w fun e w' => e = .returned (.tuple #[.agg (erow (er0 l a o) (er1 l a o) (er2 l a o) (er3 l a o)), .bool (erB l a o)]) ∧ Below w.heap.size w w' := by
  obtain ⟨W, hW⟩ : ∃ W, W = w.alloc (.cells (erow 0 0 0 0) 26) := ⟨_, rfl⟩
  have HB := Lib.hid (show Below w.heap.size w W by rw [hW]; exact ba (brefl w) _)
  have HR := Lib.hid (show W.heap[w.heap.size]? = some (.cells (erow 0 0 0 0) 26 (0, 0)) by rw [hW]; exact heap_alloc_new w _)
  have HS := Lib.hid hs
  have HED := Lib.hid (show erB l a o = (roomB a 12 (l.length : Int) && orB o) ∧ er0 l a o = (if erB l a o then getN l a 2 o else 0) ∧ er1 l a o = (if erB l a o then getN l (a + 2) 2 o else 0) ∧ er2 l a o = (if erB l a o then getN l (a + 4) 4 o else 0) ∧ er3 l a o = (if erB l a o then getN l (a + 8) 4 o else 0) from ⟨rfl, rfl, rfl, rfl, rfl⟩)
  have HE0 := Lib.hid (show erB l a o = false → er0 l a o = 0 ∧ er1 l a o = 0 ∧ er2 l a o = 0 ∧ er3 l a o = 0 from fun h => ⟨by unfold er0; rw [h]; rfl, by unfold er1; rw [h]; rfl, by unfold er2; rw [h]; rfl, by unfold er3; rw [h]; rfl⟩)
  clear hs
  go_enter Try.func19, Try.ntmps19
  go_wp2_with fail
  rw [← hW]
  clear hW
  refine (room_any a 12 (l.length : Int) W (by omega)).mono ?_
  rintro e w1 ⟨rfl, rfl⟩
  cases hro : roomB a 12 (l.length : Int) with
  | false =>
    have HE := Lib.hid (show erB l a o = false by rw [HED.out.1, hro]; rfl)
    have HEz := Lib.hid (HE0.out HE.out)
    clear hro
    go_wp2_with ((with_reducible refine wpl_store_row rtE ?_ (.tmp 6) (.tmp 15) ?_ (w.heap.size) ?_ (erow 0 0 0 0) ?_ (erow_one _ _ _ _) 26 ?_ _ ?_ HR.out ?_); rfl; rfl; rfl; rfl; rfl; rfl; intro w7 hr7 hg7 hs7; (try simp only [Act.put]))
    rw [HEz.out.1, HEz.out.2.1, HEz.out.2.2.1, HEz.out.2.2.2, HE.out]
    exact bodyPost_ret (res_row_tmp rtE rfl _ _ w.heap.size 26 (erow 0 0 0 0) rfl (.bool false) rfl rfl hr7) rfl ⟨rfl, HB.out.grown hg7 HB.out.size (fun k hk => by cases hk; exact Nat.le_refl _)⟩
  | true =>
    obtain ⟨ha0, ha1⟩ := room12 hro
    have HRO := Lib.hid hro
    have HG0 := Lib.hid (getB_or (n := l.length) (a := a) (s := 2) (o := o) (by decide) (by omega) (by omega))
    have HG1 := Lib.hid (getB_or (n := l.length) (a := a + 2) (s := 2) (o := o) (by decide) (by omega) (by omega))
    have HG2 := Lib.hid (getB_or (n := l.length) (a := a + 2 + 2) (s := 4) (o := o) (by decide) (by omega) (by omega))
    have HG3 := Lib.hid (getB_or (n := l.length) (a := a + 2 + 2 + 4) (s := 4) (o := o) (by decide) (by omega) (by omega))
    have hg0 : w.heap.size < W.heap.size := row_lt HR.out
    obtain ⟨W2, hW2⟩ : ∃ W2, W2 = W.alloc (.cells (rrow A l.length c o a true) 65) := ⟨_, rfl⟩
    have HB2 := Lib.hid (show Below w.heap.size w W2 by rw [hW2]; exact ba HB.out _)
    have HR2 := Lib.hid (show W2.heap[w.heap.size]? = some (.cells (erow 0 0 0 0) 26 (0, 0)) by rw [hW2, Below.heap_alloc _ _ _ hg0]; exact HR.out)
    have HQ2 := Lib.hid (show W2.heap[W.heap.size]? = some (.cells (rrow A l.length c o a true) 65 (0, 0)) by rw [hW2]; exact heap_alloc_new W _)
    clear hro
    go_wp2_with fail
    rw [← hW2]
    clear hW2
    refine (next_any W.heap.size A l c o a 2 true W2 HQ2.out (HS.out.keep HB2.out) (by omega) hby ha0 (by omega) (by omega) (by omega)).mono ?_
    rintro e w3 ⟨rfl, hq3, hb3⟩
    have HQ3 := Lib.hid hq3
    have HR3 := Lib.hid ((hb3.block _ hg0).trans HR2.out)
    have HB3 := Lib.hid (HB2.out.trans (hb3.mono (Nat.le_of_lt hg0)))
    clear hq3 hb3 HQ2 HR2 HB2
    go_wp2_with fail
    refine (next_any W.heap.size A l c o (a + 2) 2 _ w3 HQ3.out (HS.out.keep HB3.out) (by omega) hby (by omega) (by omega) (by omega) (by omega)).mono ?_
    rintro e w4 ⟨rfl, hq4, hb4⟩
    have HQ4 := Lib.hid hq4
    have HR4 := Lib.hid ((hb4.block _ hg0).trans HR3.out)
    have HB4 := Lib.hid (HB3.out.trans (hb4.mono (Nat.le_of_lt hg0)))
    clear hq4 hb4 HQ3 HR3 HB3
    go_wp2_with fail
    refine (next_any W.heap.size A l c o (a + 2 + 2) 4 _ w4 HQ4.out (HS.out.keep HB4.out) (by omega) hby (by omega) (by omega) (by omega) (by omega)).mono ?_
    rintro e w5 ⟨rfl, hq5, hb5⟩
    have HQ5 := Lib.hid hq5
    have HR5 := Lib.hid ((hb5.block _ hg0).trans HR4.out)
    have HB5 := Lib.hid (HB4.out.trans (hb5.mono (Nat.le_of_lt hg0)))
    clear hq5 hb5 HQ4 HR4 HB4
    go_wp2_with fail
    refine (next_any W.heap.size A l c o (a + 2 + 2 + 4) 4 _ w5 HQ5.out (HS.out.keep HB5.out) (by omega) hby (by omega) (by omega) (by omega) (by omega)).mono ?_
    rintro e w6 ⟨rfl, hq6, hb6⟩
    have HQ6 := Lib.hid hq6
    have HR6 := Lib.hid ((hb6.block _ hg0).trans HR5.out)
    have HB6 := Lib.hid (HB5.out.trans (hb6.mono (Nat.le_of_lt hg0)))
    clear hq6 hb6 HQ5 HR5 HB5
    rw [HG0.out, HG1.out, HG2.out, HG3.out] at HQ6
    rw [show a + 2 + 2 = a + 4 by omega, show a + 4 + 4 = a + 8 by omega]
    have HNS := Lib.hid (show orB o = true → er0 l a o = getN l a 2 o ∧ er1 l a o = getN l (a + 2) 2 o ∧ er2 l a o = getN l (a + 4) 4 o ∧ er3 l a o = getN l (a + 8) 4 o from fun h => by
      have he : erB l a o = true := by rw [HED.out.1, HRO.out, h]; rfl
      refine ⟨?_, ?_, ?_, ?_⟩
      · rw [HED.out.2.1, he]; rfl
      · rw [HED.out.2.2.1, he]; rfl
      · rw [HED.out.2.2.2.1, he]; rfl
      · rw [HED.out.2.2.2.2, he]; rfl)
    generalize getN l a 2 o = N0 at *
    generalize getN l (a + 2) 2 o = N1 at *
    generalize getN l (a + 4) 4 o = N2 at *
    generalize getN l (a + 8) 4 o = N3 at *
    have hWw6 : W.heap.size < w6.heap.size := row_lt HQ6.out
    cases ho : orB o with
    | false =>
      have HE := Lib.hid (show erB l a o = false by rw [HED.out.1, ho]; simp)
      have HEz := Lib.hid (HE0.out HE.out)
      rw [ho] at HQ6
      replace HQ6 := Lib.hid (show w6.heap[W.heap.size]? = some (.cells (rrow A l.length c o (a + 2 + 2 + 4 + 4) false) 65 (0, 0)) from HQ6.out)
      clear ho
      go_wp2_with (first | ((with_reducible refine wpl_store_row rtE ?_ (.tmp 9) (.tmp 30) ?_ (w6.heap.size) ?_ (erow N0 N1 N2 N3) ?_ (erow_one _ _ _ _) 26 ?_ _ ?_ (heap_alloc_new w6 _) ?_); rfl; rfl; rfl; rfl; rfl; rfl; intro w7 hr hg hs; have hb : Below w6.heap.size w6 w7 := (ba (brefl w6) _).grown hg (by simp) (fun k hk => by cases hk; exact Nat.le_refl _); replace HQ6 := Lib.hid ((hb.block _ (row_lt HQ6.out)).trans HQ6.out); replace HR6 := Lib.hid ((hb.block _ (row_lt HR6.out)).trans HR6.out); replace HB6 := Lib.hid (HB6.out.trans (hb.mono HB6.out.size)); have R9 := Lib.hid hr; have kq := row_cell (v := .bool false) HQ6.out 3 rfl; clear hr hg hs hb; (try simp only [Act.put])) | ((with_reducible refine wpl_store_row rtE ?_ (.tmp 6) (.tmp 36) ?_ (w.heap.size) ?_ (erow 0 0 0 0) ?_ (erow_one _ _ _ _) 26 ?_ _ ?_ HR6.out ?_); rfl; rfl; rfl; rfl; rfl; rfl; intro w8 hr8 hg8 hs8; (try simp only [Act.put])))
      rw [HEz.out.1, HEz.out.2.1, HEz.out.2.2.1, HEz.out.2.2.2, HE.out]
      exact bodyPost_ret (res_row_tmp rtE rfl _ _ w.heap.size 26 (erow 0 0 0 0) rfl (.bool false) rfl rfl hr8) rfl ⟨rfl, HB6.out.grown hg8 HB6.out.size (fun k hk => by cases hk; exact Nat.le_refl _)⟩
    | true =>
      have HE := Lib.hid (show erB l a o = true by rw [HED.out.1, HRO.out, ho]; rfl)
      have HEy := Lib.hid (HNS.out ho)
      rw [ho] at HQ6
      replace HQ6 := Lib.hid (show w6.heap[W.heap.size]? = some (.cells (rrow A l.length c o (a + 2 + 2 + 4 + 4) true) 65 (0, 0)) from HQ6.out)
      clear ho
      go_wp2_with (first | ((with_reducible refine wpl_store_row rtE ?_ (.tmp 9) (.tmp 30) ?_ (w6.heap.size) ?_ (erow N0 N1 N2 N3) ?_ (erow_one _ _ _ _) 26 ?_ _ ?_ (heap_alloc_new w6 _) ?_); rfl; rfl; rfl; rfl; rfl; rfl; intro w7 hr hg hs; have hb : Below w6.heap.size w6 w7 := (ba (brefl w6) _).grown hg (by simp) (fun k hk => by cases hk; exact Nat.le_refl _); replace HQ6 := Lib.hid ((hb.block _ (row_lt HQ6.out)).trans HQ6.out); replace HR6 := Lib.hid ((hb.block _ (row_lt HR6.out)).trans HR6.out); replace HB6 := Lib.hid (HB6.out.trans (hb.mono HB6.out.size)); have R9 := Lib.hid hr; have kq := row_cell (v := .bool true) HQ6.out 3 rfl; clear hr hg hs hb; (try simp only [Act.put])) | ((with_reducible refine wpl_load_row rtE ?_ (.tmp 9) ?_ (w6.heap.size) ?_ 26 (erow N0 N1 N2 N3) ?_ R9.out ?_); rfl; rfl; rfl; rfl; simp only [Act.put, List.setIfInBounds_toArray, List.set_cons_succ, List.set_cons_zero]) | ((with_reducible refine wpl_store_row rtE ?_ (.tmp 6) (.tmp 37) ?_ (w.heap.size) ?_ (erow N0 N1 N2 N3) ?_ (erow_one _ _ _ _) 26 ?_ _ ?_ HR6.out ?_); rfl; rfl; rfl; rfl; rfl; rfl; intro w8 hr8 hg8 hs8; (try simp only [Act.put])))
      rw [HEy.out.1, HEy.out.2.1, HEy.out.2.2.1, HEy.out.2.2.2, HE.out]
      exact bodyPost_ret (res_row_tmp rtE rfl _ _ w.heap.size 26 (erow N0 N1 N2 N3) rfl (.bool true) rfl rfl hr8) rfl ⟨rfl, HB6.out.grown hg8 HB6.out.size (fun k hk => by cases hk; exact Nat.le_refl _)⟩
set_option maxRecDepth 100000 in
set_option maxHeartbeats 8000000 in
theorem rerd_any (A : Option Addr) (l : List Int) (c : Nat) (a o : Int) (w : World) (hs : Sl .u8 w A l) (hl : l.length ≤ 100000000) (hby : Byts l) :
    Calls Try.prog 20 #[.slice A l.length c, .int .i64 a, .int .i64 o] w fun e w' => e = .returned (.tuple #[.agg (erow (er0 l a o) (er1 l a o) (er2 l a o) (er3 l a o)), .bool (erB l a o)]) ∧ Below w.heap.size w w' := by
  obtain ⟨W, hW⟩ : ∃ W, W = w.alloc (.cells (erow 0 0 0 0) 26) := ⟨_, rfl⟩
  have HB := Lib.hid (show Below w.heap.size w W by rw [hW]; exact ba (brefl w) _)
  have HR := Lib.hid (show W.heap[w.heap.size]? = some (.cells (erow 0 0 0 0) 26 (0, 0)) by rw [hW]; exact heap_alloc_new w _)
  have HR0 := Lib.hid (show (w.alloc (.cells (erow 0 0 0 0) 26)).heap[w.heap.size]? = some (.cells (erow 0 0 0 0) 26 (0, 0)) from heap_alloc_new w _)
  have HB0 := Lib.hid (show Below w.heap.size w (w.alloc (.cells (erow 0 0 0 0) 26)) from ba (brefl w) _)
  have HS := Lib.hid (hs.keep HB.out)
  have HED := Lib.hid (show erB l a o = (roomB a 12 (l.length : Int) && orB o) ∧ er0 l a o = (if erB l a o then getN l a 2 o else 0) ∧ er1 l a o = (if erB l a o then getN l (a + 2) 2 o else 0) ∧ er2 l a o = (if erB l a o then getN l (a + 4) 4 o else 0) ∧ er3 l a o = (if erB l a o then getN l (a + 8) 4 o else 0) from ⟨rfl, rfl, rfl, rfl, rfl⟩)
  have HE0 := Lib.hid (show erB l a o = false → er0 l a o = 0 ∧ er1 l a o = 0 ∧ er2 l a o = 0 ∧ er3 l a o = 0 from fun h => ⟨by unfold er0; rw [h]; rfl, by unfold er1; rw [h]; rfl, by unfold er2; rw [h]; rfl, by unfold er3; rw [h]; rfl⟩)
  have HGA := Lib.hid (fun W (h : Sl .u8 W A l) a s => rget_any A l c a s o W h (by omega) hby)
  clear hs hby
  cases hro : roomB a 12 (l.length : Int) with
  | false =>
    have HE := Lib.hid (show erB l a o = false by rw [HED.out.1, hro]; rfl)
    have HEz := Lib.hid (HE0.out HE.out)
    have hf := room12_f hro
    clear hro
    by_cases h1 : a < 0
    · have d1 : decide (a < 0) = true := by simpa using h1
      clear h1 hf
      go_enter Try.func20, Try.ntmps20
      go_wp2_with ((with_reducible refine wpl_store_row rtE ?_ (.tmp 6) (.tmp 31) ?_ (w.heap.size) ?_ (erow 0 0 0 0) ?_ (erow_one _ _ _ _) 26 ?_ _ ?_ HR0.out ?_); rfl; rfl; rfl; rfl; rfl; rfl; intro w7 hr7 hg7 hs7; (try simp only [Act.put]))
      rw [HEz.out.1, HEz.out.2.1, HEz.out.2.2.1, HEz.out.2.2.2, HE.out]
      exact bodyPost_ret (res_row_tmp rtE rfl _ _ w.heap.size 26 (erow 0 0 0 0) rfl (.bool false) rfl rfl hr7) rfl ⟨rfl, HB0.out.grown hg7 HB0.out.size (fun k hk => by cases hk; exact Nat.le_refl _)⟩

    have d1 : decide (a < 0) = false := by simpa using h1
    by_cases h2 : (l.length : Int) < a
    · have d2 : decide ((l.length : Int) < a) = true := by simpa using h2
      clear h1 h2 hf
      go_enter Try.func20, Try.ntmps20
      go_wp2_with ((with_reducible refine wpl_store_row rtE ?_ (.tmp 6) (.tmp 31) ?_ (w.heap.size) ?_ (erow 0 0 0 0) ?_ (erow_one _ _ _ _) 26 ?_ _ ?_ HR0.out ?_); rfl; rfl; rfl; rfl; rfl; rfl; intro w7 hr7 hg7 hs7; (try simp only [Act.put]))
      rw [HEz.out.1, HEz.out.2.1, HEz.out.2.2.1, HEz.out.2.2.2, HE.out]
      exact bodyPost_ret (res_row_tmp rtE rfl _ _ w.heap.size 26 (erow 0 0 0 0) rfl (.bool false) rfl rfl hr7) rfl ⟨rfl, HB0.out.grown hg7 HB0.out.size (fun k hk => by cases hk; exact Nat.le_refl _)⟩

    have d2 : decide ((l.length : Int) < a) = false := by simpa using h2
    have d3 : decide ((l.length : Int) - a < 12) = true := by simp; omega
    have b1 : 0 ≤ (l.length : Int) - a := by omega
    have b2 : 0 ≤ a := by omega
    clear h1 h2 hf
    go_enter Try.func20, Try.ntmps20
    go_wp2_with ((with_reducible refine wpl_store_row rtE ?_ (.tmp 6) (.tmp 31) ?_ (w.heap.size) ?_ (erow 0 0 0 0) ?_ (erow_one _ _ _ _) 26 ?_ _ ?_ HR0.out ?_); rfl; rfl; rfl; rfl; rfl; rfl; intro w7 hr7 hg7 hs7; (try simp only [Act.put]))
    rw [HEz.out.1, HEz.out.2.1, HEz.out.2.2.1, HEz.out.2.2.2, HE.out]
    exact bodyPost_ret (res_row_tmp rtE rfl _ _ w.heap.size 26 (erow 0 0 0 0) rfl (.bool false) rfl rfl hr7) rfl ⟨rfl, HB0.out.grown hg7 HB0.out.size (fun k hk => by cases hk; exact Nat.le_refl _)⟩

  | true =>
    obtain ⟨ha0, ha1⟩ := room12 hro
    have HRO := Lib.hid hro
    have HG0 := Lib.hid (getB_or (n := l.length) (a := a) (s := 2) (o := o) (by decide) (by omega) (by omega))
    have HNN := Lib.hid (show er0 l a o = getN l a 2 o ∧ er1 l a o = getN l (a + 2) 2 o ∧ er2 l a o = getN l (a + 4) 4 o ∧ er3 l a o = getN l (a + 8) 4 o from by
      cases ho : orB o with
      | true =>
        have he : erB l a o = true := by rw [HED.out.1, hro, ho]; rfl
        refine ⟨?_, ?_, ?_, ?_⟩
        · rw [HED.out.2.1, he]; rfl
        · rw [HED.out.2.2.1, he]; rfl
        · rw [HED.out.2.2.2.1, he]; rfl
        · rw [HED.out.2.2.2.2, he]; rfl
      | false =>
        have he : erB l a o = false := by rw [HED.out.1, ho]; simp
        obtain ⟨z0, z1, z2, z3⟩ := HE0.out he
        rw [z0, z1, z2, z3, getN_no ho, getN_no ho, getN_no ho, getN_no ho]
        exact ⟨rfl, rfl, rfl, rfl⟩)
    have HE := Lib.hid (show erB l a o = orB o by rw [HED.out.1, hro]; rfl)
    have d1 : decide (a < 0) = false := by simp; omega
    have d2 : decide ((l.length : Int) < a) = false := by simp; omega
    have d3 : decide ((l.length : Int) - a < 12) = false := by simp; omega
    have b1 : 0 ≤ (l.length : Int) - a := by omega
    clear hro
    go_enter Try.func20, Try.ntmps20
    go_wp2_with fail
    rw [← hW]
    clear hW HR0 HB0
    refine (HGA.out W HS.out a 2).mono ?_
    rintro e w1 ⟨rfl, hb1⟩
    replace HR := Lib.hid ((hb1.block _ (row_lt HR.out)).trans HR.out)
    replace HS := Lib.hid (HS.out.keep hb1)
    replace HB := Lib.hid (HB.out.trans (hb1.mono HB.out.size))
    clear hb1
    rw [HG0.out]
    go_wp2_with fail
    refine (HGA.out w1 HS.out (a + 2) 2).mono ?_
    rintro e w2 ⟨rfl, hb2⟩
    replace HR := Lib.hid ((hb2.block _ (row_lt HR.out)).trans HR.out)
    replace HS := Lib.hid (HS.out.keep hb2)
    replace HB := Lib.hid (HB.out.trans (hb2.mono HB.out.size))
    clear hb2
    go_wp2_with fail
    refine (HGA.out w2 HS.out (a + 4) 4).mono ?_
    rintro e w3 ⟨rfl, hb3⟩
    replace HR := Lib.hid ((hb3.block _ (row_lt HR.out)).trans HR.out)
    replace HS := Lib.hid (HS.out.keep hb3)
    replace HB := Lib.hid (HB.out.trans (hb3.mono HB.out.size))
    clear hb3
    go_wp2_with fail
    refine (HGA.out w3 HS.out (a + 8) 4).mono ?_
    rintro e w4 ⟨rfl, hb4⟩
    replace HR := Lib.hid ((hb4.block _ (row_lt HR.out)).trans HR.out)
    replace HB := Lib.hid (HB.out.trans (hb4.mono HB.out.size))
    clear hb4
    rw [← HNN.out.1, ← HNN.out.2.1, ← HNN.out.2.2.1, ← HNN.out.2.2.2, ← HE.out]
    clear HNN HE HGA HG0 HED HE0
    obtain ⟨N0, h0⟩ : ∃ x, x = er0 l a o := ⟨_, rfl⟩
    obtain ⟨N1, h1⟩ : ∃ x, x = er1 l a o := ⟨_, rfl⟩
    obtain ⟨N2, h2⟩ : ∃ x, x = er2 l a o := ⟨_, rfl⟩
    obtain ⟨N3, h3⟩ : ∃ x, x = er3 l a o := ⟨_, rfl⟩
    obtain ⟨Eb, h4⟩ : ∃ x, x = erB l a o := ⟨_, rfl⟩
    rw [← h0, ← h1, ← h2, ← h3, ← h4]
    have HQ := Lib.hid (show er0 l a o = N0 ∧ er1 l a o = N1 ∧ er2 l a o = N2 ∧ er3 l a o = N3 ∧ erB l a o = Eb from ⟨h0.symm, h1.symm, h2.symm, h3.symm, h4.symm⟩)
    clear h0 h1 h2 h3 h4
    go_wp2_with ((with_reducible refine wpl_store_row rtE ?_ (.tmp 6) (.tmp 67) ?_ (w.heap.size) ?_ (erow N0 N1 N2 N3) ?_ (erow_one _ _ _ _) 26 ?_ _ ?_ HR.out ?_); rfl; rfl; rfl; rfl; rfl; rfl; intro w8 hr8 hg8 hs8; (try simp only [Act.put]))
    rw [HQ.out.1, HQ.out.2.1, HQ.out.2.2.1, HQ.out.2.2.2.1, HQ.out.2.2.2.2]
    exact bodyPost_ret (res_row_tmp rtE rfl _ _ w.heap.size 26 (erow N0 N1 N2 N3) rfl _ rfl rfl hr8) rfl ⟨rfl, HB.out.grown hg8 HB.out.size (fun k hk => by cases hk; exact Nat.le_refl _)⟩
end Go.Proofs.Ythjmnahmejagmaa
