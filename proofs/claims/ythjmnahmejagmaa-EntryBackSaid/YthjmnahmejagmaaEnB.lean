/- The contract of the entry of a tag and a value. -/
import Derived.Test.YthjmnahmejagmaaEnA
import Derived.Test.YthjmnahmejagmaaTyJ
import Derived.Test.YthjmnahmejagmaaApz
import Derived.Test.YthjmnahmejagmaaOcF
namespace Go.Proofs.Ythjmnahmejagmaa
open Go.RowKit
open Go.Tin
set_option linter.unusedVariables false
set_option linter.unusedSimpArgs false


theorem rtE : RT Try.prog 26 4 := RT.of Try.underlying26 rfl (by kernel_rfl)
abbrev erow (a b c d : Int) : Array Value := #[.int .i64 a, .int .i64 b, .int .i64 c, .int .i64 d]
theorem erow_one (a b c d : Int) : (erow a b c d).all (·.oneCell') = true := by simp [Value.oneCell']
/-- Has a value an entry, and what its slot is. -/
def eB (tag t c : Int) (l : List Int) (o : Int) : Bool := putB tag 2 o && (decide (0 < (byV t c l o).length) && decide ((byV t c l o).length ≤ 4))
def eN (t c : Int) (l : List Int) (o : Int) : Int := getN (byV t c l o ++ List.replicate (4 - (byV t c l o).length) 0) 0 4 o
theorem byV_byts {l : List Int} (h : Byts l) (t c o : Int) : Byts (byV t c l o) := by
  unfold byV
  split
  · exact turn_byts h _ _
  · intro x hx; simp at hx
theorem byV_le (t c : Int) (l : List Int) (o : Int) : (byV t c l o).length ≤ l.length := by
  unfold byV
  split
  · exact turn_le _ _ _
  · simp
set_option maxRecDepth 100000 in
set_option maxHeartbeats 8000000 in
theorem eof_any (tag t c : Int) (A : Option Addr) (l : List Int) (cap : Nat) (o : Int) (w : World) (hs : Sl .u8 w A l) (hl : l.length ≤ 1000000000) (hby : Byts l) :
    Calls Try.prog 9 #[.int .i64 tag, .agg #[.int .i64 t, .int .i64 c, .slice A l.length cap], .int .i64 o] w fun e w' => e = .returned (.tuple #[.agg (erow (on (eB tag t c l o) tag) (on (eB tag t c l o) t) (on (eB tag t c l o) c) (on (eB tag t c l o) (eN t c l o))), .bool (eB tag t c l o)]) ∧ Below w.heap.size w w' := by
  obtain ⟨W, hW⟩ : ∃ W, W = (w.alloc (.cells (vrow t c A l.length cap) 24)).alloc (.cells (erow 0 0 0 0) 26) := ⟨_, rfl⟩
  have HB := Lib.hid (show Below w.heap.size w W by rw [hW]; exact ba (ba (brefl w) _) _)
  have HX := Lib.hid (show W.heap[w.heap.size]? = some (.cells (vrow t c A l.length cap) 24 (0, 0)) by rw [hW, Below.heap_alloc _ _ _ (by simp)]; exact heap_alloc_new w _)
  have HR := Lib.hid (show W.heap[w.heap.size + 1]? = some (.cells (erow 0 0 0 0) 26 (0, 0)) by
    have := heap_alloc_new (w.alloc (.cells (vrow t c A l.length cap) 24)) (.cells (erow 0 0 0 0) 26)
    rw [hW]
    simpa using this)
  have hsz : W.heap.size = w.heap.size + 2 := by rw [hW]; simp
  have HS := Lib.hid (hs.keep HB.out)
  have HBT := Lib.hid (byt_any t c A l cap o W HS.out hl hby)
  have HY1 := Lib.hid (byV_byts hby t c o)
  have HY2 := Lib.hid (byV_le t c l o)
  have HED := Lib.hid (show eB tag t c l o = (putB tag 2 o && (decide (0 < (byV t c l o).length) && decide ((byV t c l o).length ≤ 4))) ∧ eN t c l o = getN (byV t c l o ++ List.replicate (4 - (byV t c l o).length) 0) 0 4 o from ⟨rfl, rfl⟩)
  clear hs hby
  generalize byV t c l o = L at *
  go_enter Try.func9, Try.ntmps9
  have HX0 := Lib.hid (show ((w.alloc (.cells (vrow t c A l.length cap) 24)).alloc (.cells (erow 0 0 0 0) 26)).heap[w.heap.size]? = some (.cells (vrow t c A l.length cap) 24 (0, 0)) by rw [← hW]; exact HX.out)
  go_wp2_with ((with_reducible refine wpl_load_row rtV ?_ (.tmp 4) ?_ (w.heap.size) ?_ 24 (vrow t c A l.length cap) ?_ HX0.out ?_); rfl; rfl; rfl; rfl; simp only [Act.put, List.setIfInBounds_toArray, List.set_cons_succ, List.set_cons_zero])
  rw [← hW]
  clear hW HX0
  refine HBT.out.mono ?_
  rintro e w1 ⟨A1, c1, rfl, ho1, hb1⟩
  have HX1 := Lib.hid ((hb1.block _ (row_lt HX.out)).trans HX.out)
  have HR1 := Lib.hid ((hb1.block _ (row_lt HR.out)).trans HR.out)
  have HB1 := Lib.hid (HB.out.trans (hb1.mono HB.out.size))
  have HO1 := Lib.hid ho1
  have hs1 : W.heap.size ≤ w1.heap.size := hb1.size
  clear ho1 hb1 HX HR HB HS HBT
  go_wp2_with fail
  refine (put_any tag 2 o w1).mono ?_
  rintro e w2 ⟨A2, c2, rfl, -, hb2⟩
  have HX2 := Lib.hid ((hb2.block _ (row_lt HX1.out)).trans HX1.out)
  have HR2 := Lib.hid ((hb2.block _ (row_lt HR1.out)).trans HR1.out)
  have HB2 := Lib.hid (HB1.out.trans (hb2.mono HB1.out.size))
  have HO2 := Lib.hid (HO1.out.keep hb2)
  have hs2 : w1.heap.size ≤ w2.heap.size := hb2.size
  clear hb2 HX1 HR1 HB1 HO1
  generalize putL tag 2 o = PL at *
  by_cases h : putB tag 2 o = true ∧ 0 < L.length ∧ L.length ≤ 4
  case neg =>
    have HE := Lib.hid (show eB tag t c l o = false by
      rw [HED.out.1]
      cases hp : putB tag 2 o with
      | false => rfl
      | true =>
        rw [hp] at h
        by_cases h0 : 0 < L.length
        · rw [decide_eq_false (show ¬ L.length ≤ 4 from fun hh => h ⟨rfl, h0, hh⟩)]; simp
        · rw [decide_eq_false h0]; simp)
    cases hp : putB tag 2 o with
    | false =>
      clear h
      go_wp2_with ((with_reducible refine wpl_store_row rtE ?_ (.tmp 6) (.tmp 34) ?_ (w.heap.size + 1) ?_ (erow 0 0 0 0) ?_ (erow_one _ _ _ _) 26 ?_ _ ?_ HR2.out ?_); rfl; rfl; rfl; rfl; rfl; rfl; intro w7 hr7 hg7 hs7; (try simp only [Act.put]))
      rw [HE.out]
      exact bodyPost_ret (res_row_tmp rtE rfl _ _ (w.heap.size + 1) 26 (erow 0 0 0 0) rfl (.bool false) rfl rfl hr7) rfl ⟨rfl, HB2.out.grown hg7 HB2.out.size (fun k hk => by have e' : w.heap.size + 1 = k := Option.some.inj hk; omega)⟩

    | true =>
      by_cases h0 : 0 < L.length
      · have d0 : ((L.length : Int) == 0) = false := by rw [beq_eq_false_iff_ne]; omega
        have d4 : decide (4 < (L.length : Int)) = true := by
          rw [hp] at h
          have : ¬ L.length ≤ 4 := fun hh => h ⟨rfl, h0, hh⟩
          simp; omega
        clear h h0
        go_wp2_with ((with_reducible refine wpl_store_row rtE ?_ (.tmp 6) (.tmp 34) ?_ (w.heap.size + 1) ?_ (erow 0 0 0 0) ?_ (erow_one _ _ _ _) 26 ?_ _ ?_ HR2.out ?_); rfl; rfl; rfl; rfl; rfl; rfl; intro w7 hr7 hg7 hs7; (try simp only [Act.put]))
        rw [HE.out]
        exact bodyPost_ret (res_row_tmp rtE rfl _ _ (w.heap.size + 1) 26 (erow 0 0 0 0) rfl (.bool false) rfl rfl hr7) rfl ⟨rfl, HB2.out.grown hg7 HB2.out.size (fun k hk => by have e' : w.heap.size + 1 = k := Option.some.inj hk; omega)⟩

      · have d0 : ((L.length : Int) == 0) = true := by rw [beq_iff_eq]; omega
        clear h h0
        go_wp2_with ((with_reducible refine wpl_store_row rtE ?_ (.tmp 6) (.tmp 34) ?_ (w.heap.size + 1) ?_ (erow 0 0 0 0) ?_ (erow_one _ _ _ _) 26 ?_ _ ?_ HR2.out ?_); rfl; rfl; rfl; rfl; rfl; rfl; intro w7 hr7 hg7 hs7; (try simp only [Act.put]))
        rw [HE.out]
        exact bodyPost_ret (res_row_tmp rtE rfl _ _ (w.heap.size + 1) 26 (erow 0 0 0 0) rfl (.bool false) rfl rfl hr7) rfl ⟨rfl, HB2.out.grown hg7 HB2.out.size (fun k hk => by have e' : w.heap.size + 1 = k := Option.some.inj hk; omega)⟩

  obtain ⟨hp, h0, h4⟩ := h
  have HE := Lib.hid (show eB tag t c l o = true by
    rw [HED.out.1, hp, decide_eq_true h0, decide_eq_true h4]
    rfl)
  have HEN := Lib.hid (HED.out.2)
  have d0 : ((L.length : Int) == 0) = false := by rw [beq_eq_false_iff_ne]; omega
  have d4 : decide (4 < (L.length : Int)) = false := by simp; omega
  have HP := Lib.hid hp
  rw [hp]
  clear hp
  have hsub : (4 : Int) - (L.length : Int) = ((4 - L.length : Nat) : Int) := by omega
  go_wp2_with (first | ((with_reducible refine wpl_appz bt5 Try.underlying3 _ ?_ (.tmp 36) (.tmp 39) ?_ W.heap.size (.slice A1 L.length c1) L ?_ HO2.out h0 (4 - L.length) ?_ ?_ ?_ ?_ ?_ ?_); rfl; rfl; rfl; rfl; omega; omega; omega; omega; intro v3 w3 ho3 hg3 hw3))
  obtain ⟨A3, c3, rfl⟩ := own_form ho3
  have HX3 := Lib.hid ((hg3.block _ (row_lt HX2.out) (fun e => by have h1 := (World.ownsRow.lt HO2.out _ e.symm).1; omega)).trans HX2.out)
  have HR3 := Lib.hid ((hg3.block _ (row_lt HR2.out) (fun e => by have h1 := (World.ownsRow.lt HO2.out _ e.symm).1; omega)).trans HR2.out)
  have HB3 := Lib.hid (HB2.out.grown hg3 HB2.out.size (fun k hk => by have h1 := (World.ownsRow.lt HO2.out _ hk).1; omega))
  have HO3 := Lib.hid ho3
  clear ho3 hg3 hw3 HX2 HR2 HB2 HO2
  have hbz : Byts (L ++ List.replicate (4 - L.length) 0) := by
    intro x hx
    rw [List.mem_append] at hx
    rcases hx with hx | hx
    · exact HY1.out x hx
    · rw [List.eq_of_mem_replicate hx]; decide
  refine (get_any A3 (L ++ List.replicate (4 - L.length) 0) c3 0 4 o w3 HO3.out.sl'.2 (by simp; omega) hbz).mono ?_
  rintro e w4 ⟨rfl, hb4⟩
  have HX4 := Lib.hid ((hb4.block _ (row_lt HX3.out)).trans HX3.out)
  have HR4 := Lib.hid ((hb4.block _ (row_lt HR3.out)).trans HR3.out)
  have HB4 := Lib.hid (HB3.out.trans (hb4.mono HB3.out.size))
  rw [← HEN.out]
  clear hb4 HX3 HR3 HB3 HO3 hbz
  have k0 := row_cell (v := .int .i64 t) HX4.out 0 rfl
  have k1 := row_cell (v := .int .i64 c) HX4.out 1 rfl
  obtain ⟨EN, hEN⟩ : ∃ x, x = eN t c l o := ⟨_, rfl⟩
  rw [← hEN]
  have HENQ := Lib.hid hEN
  clear hEN
  go_wp2_with ((with_reducible refine wpl_store_row rtE ?_ (.tmp 6) (.tmp 51) ?_ (w.heap.size + 1) ?_ (erow tag t c EN) ?_ (erow_one _ _ _ _) 26 ?_ _ ?_ HR4.out ?_); rfl; rfl; rfl; rfl; rfl; rfl; intro w7 hr7 hg7 hs7; (try simp only [Act.put]))
  rw [HE.out, ← HENQ.out]
  exact bodyPost_ret (res_row_tmp rtE rfl _ _ (w.heap.size + 1) 26 (erow tag t c EN) rfl (.bool true) rfl rfl hr7) rfl ⟨rfl, HB4.out.grown hg7 HB4.out.size (fun k hk => by have e' : w.heap.size + 1 = k := Option.some.inj hk; omega)⟩
end Go.Proofs.Ythjmnahmejagmaa
