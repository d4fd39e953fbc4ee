/- The contract of the reference's Write. -/
import Derived.Test.YthjmnahmejagmaaEnK
namespace Go.Proofs.Ythjmnahmejagmaa
open Go.RowKit
open Go.Tin
set_option linter.unusedVariables false
set_option linter.unusedSimpArgs false


theorem ew4 (a b c d o : Int) : ewB a b c d o = (putB a 2 o && (putB b 2 o && (putB c 4 o && putB d 4 o))) ∧ (ewB a b c d o = true → ewL a b c d o = putL a 2 o ++ putL b 2 o ++ putL c 4 o ++ putL d 4 o) := by
  have h : ewB a b c d o = ((((true && putB a 2 o) && putB b 2 o) && putB c 4 o) && putB d 4 o) := rfl
  refine ⟨by rw [h]; simp [Bool.and_assoc], fun he => ?_⟩
  unfold ewL
  rw [he]
  show [] ++ putL a 2 o ++ putL b 2 o ++ putL c 4 o ++ putL d 4 o = _
  simp
theorem own_far {k k' : IntKind} {e e' : TypeId} {w w' : World} {B G n c : Nat} {A : Option Addr} {l l' : List Int} {v : Value} (h : Own k e w B (.slice A n c) l) (hg : w.grownBy w' v.ownBlock) (h' : Own k' e' w G v l') (hl : ∀ q, (Value.slice A n c).ownBlock = some q → q < G) : Own k e w' B (.slice A n c) l := by
  refine h.kept hg ?_
  cases hq : (Value.slice A n c).ownBlock with
  | none => exact .inl rfl
  | some q =>
    refine .inr fun e => ?_
    have h1 := hl q hq
    have h2 := (World.ownsRow.lt h' q e.symm).1
    omega
set_option maxRecDepth 100000 in
set_option maxHeartbeats 8000000 in
theorem rewr_any (a b c d o : Int) (w : World) :
    Calls Try.prog 22 #[.agg (erow a b c d), .int .i64 o] w fun e w' => ∃ A' c', e = .returned (.tuple #[.slice A' (ewL a b c d o).length c', .bool (ewB a b c d o)]) ∧ Own .u8 5 w' w.heap.size (.slice A' (ewL a b c d o).length c') (ewL a b c d o) ∧ Below w.heap.size w w' := by
  have HB := Lib.hid (ba (brefl w) (.cells (erow a b c d) 26))
  have RX := Lib.hid (heap_alloc_new w (.cells (erow a b c d) 26))
  have HED := Lib.hid (ew4 a b c d o)
  have HE0 := Lib.hid (show ewB a b c d o = false → ewL a b c d o = [] from fun h => by unfold ewL; rw [h]; rfl)
  have k0 := row_cell (v := .int .i64 a) RX.out 0 rfl
  have HP1 := Lib.hid (fun W => rput_any a 2 o W)
  have HP2 := Lib.hid (fun W => rput_any b 2 o W)
  have HP3 := Lib.hid (fun W => rput_any c 4 o W)
  have HP4 := Lib.hid (fun W => rput_any d 4 o W)
  have HL1 := Lib.hid (putL_le4 a 2 o)
  have HL2 := Lib.hid (putL_le4 b 2 o)
  have HL3 := Lib.hid (putL_le4 c 4 o)
  have HL4 := Lib.hid (putL_le4 d 4 o)
  generalize putL a 2 o = l1 at *
  generalize putL b 2 o = l2 at *
  generalize putL c 4 o = l3 at *
  generalize putL d 4 o = l4 at *
  generalize putB a 2 o = p1 at *
  generalize putB b 2 o = p2 at *
  generalize putB c 4 o = p3 at *
  generalize putB d 4 o = p4 at *
  go_enter Try.func22, Try.ntmps22
  go_wp2_with fail
  refine (HP1.out _).mono ?_
  rintro e w1 ⟨A1, c1, rfl, ho1, hb1⟩
  have O1 := Lib.hid (ho1.mono HB.out.size)
  replace RX := Lib.hid ((hb1.block _ (row_lt RX.out)).trans RX.out)
  replace HB := Lib.hid (HB.out.trans (hb1.mono HB.out.size))
  clear ho1 hb1 k0
  have k1 := row_cell (v := .int .i64 b) RX.out 1 rfl
  go_wp2_with fail
  refine (HP2.out _).mono ?_
  rintro e w2 ⟨A2, c2, rfl, ho2, hb2⟩
  replace O1 := Lib.hid (O1.out.keep hb2)
  have O2 := Lib.hid (ho2.mono HB.out.size)
  replace RX := Lib.hid ((hb2.block _ (row_lt RX.out)).trans RX.out)
  replace HB := Lib.hid (HB.out.trans (hb2.mono HB.out.size))
  clear ho2 hb2 k1
  have k2 := row_cell (v := .int .i64 c) RX.out 2 rfl
  go_wp2_with fail
  refine (HP3.out _).mono ?_
  rintro e w3 ⟨A3, c3, rfl, ho3, hb3⟩
  replace O1 := Lib.hid (O1.out.keep hb3)
  replace O2 := Lib.hid (O2.out.keep hb3)
  have O3 := Lib.hid (ho3.mono HB.out.size)
  replace RX := Lib.hid ((hb3.block _ (row_lt RX.out)).trans RX.out)
  replace HB := Lib.hid (HB.out.trans (hb3.mono HB.out.size))
  clear ho3 hb3 k2
  have k3 := row_cell (v := .int .i64 d) RX.out 3 rfl
  go_wp2_with fail
  refine (HP4.out _).mono ?_
  rintro e w4 ⟨A4, c4, rfl, ho4, hb4⟩
  replace O1 := Lib.hid (O1.out.keep hb4)
  replace O2 := Lib.hid (O2.out.keep hb4)
  replace O3 := Lib.hid (O3.out.keep hb4)
  have O4 := Lib.hid (ho4.mono HB.out.size)
  replace HB := Lib.hid (HB.out.trans (hb4.mono HB.out.size))
  clear ho4 hb4 k3 HP1 HP2 HP3 HP4
  by_cases hall : p1 = true ∧ p2 = true ∧ p3 = true ∧ p4 = true
  case neg =>
    have HE := Lib.hid (show ewB a b c d o = false by
      rw [HED.out.1]
      cases p1 <;> cases p2 <;> cases p3 <;> cases p4 <;> first | rfl | exact absurd ⟨rfl, rfl, rfl, rfl⟩ hall)
    have step : p1 = false ∨ (p1 = true ∧ (p2 = false ∨ (p2 = true ∧ (p3 = false ∨ (p3 = true ∧ p4 = false))))) := by
      cases p1 <;> cases p2 <;> cases p3 <;> cases p4 <;> simp at hall ⊢
    have HEL := Lib.hid (HE0.out HE.out)
    clear hall HED
    rcases step with h1 | ⟨h1, h2 | ⟨h2, h3 | ⟨h3, h4⟩⟩⟩
    · subst h1
      go_wp2_with fail
      go_ret2
      rw [HE.out, HEL.out]
      exact ⟨none, 0, rfl, Own.nil_ _ _ _ _, HB.out⟩

    · subst h1 h2
      go_wp2_with fail
      go_ret2
      rw [HE.out, HEL.out]
      exact ⟨none, 0, rfl, Own.nil_ _ _ _ _, HB.out⟩

    · subst h1 h2 h3
      go_wp2_with fail
      go_ret2
      rw [HE.out, HEL.out]
      exact ⟨none, 0, rfl, Own.nil_ _ _ _ _, HB.out⟩

    · subst h1 h2 h3 h4
      go_wp2_with fail
      go_ret2
      rw [HE.out, HEL.out]
      exact ⟨none, 0, rfl, Own.nil_ _ _ _ _, HB.out⟩

  obtain ⟨h1, h2, h3, h4⟩ := hall
  subst h1 h2 h3 h4
  have HE := Lib.hid (show ewB a b c d o = true by rw [HED.out.1]; rfl)
  have HEL := Lib.hid (HED.out.2 HE.out)
  clear HED HE0
  have N0 := Lib.hid (Own.new0 (k := .u8) (e := 5) w4)
  have HBw := Lib.hid HB.out.size
  have hz := Lib.hid (show w4.heap.size ≤ (w4.alloc (.cells #[] 5)).heap.size by simp)
  have q1 := Lib.hid (O1.out.alloc (.cells #[] 5))
  have q2 := Lib.hid (O2.out.alloc (.cells #[] 5))
  have q3 := Lib.hid (O3.out.alloc (.cells #[] 5))
  have q4 := Lib.hid (O4.out.alloc (.cells #[] 5))
  replace HB := Lib.hid (ba HB.out (.cells #[] 5))
  have l41 := O1.out
  have l42 := O2.out
  have l43 := O3.out
  have l44 := O4.out
  have HLW := Lib.hid (show (∀ q, (Value.slice A1 l1.length c1).ownBlock = some q → q < w4.heap.size) ∧ (∀ q, (Value.slice A2 l2.length c2).ownBlock = some q → q < w4.heap.size) ∧ (∀ q, (Value.slice A3 l3.length c3).ownBlock = some q → q < w4.heap.size) ∧ (∀ q, (Value.slice A4 l4.length c4).ownBlock = some q → q < w4.heap.size) from ⟨fun q hq => (World.ownsRow.lt l41 q hq).2, fun q hq => (World.ownsRow.lt l42 q hq).2, fun q hq => (World.ownsRow.lt l43 q hq).2, fun q hq => (World.ownsRow.lt l44 q hq).2⟩)
  clear l41 l42 l43 l44 O1 O2 O3 O4
  go_wp2_with (first | (at_builtin; refine Tin.wpl_app bt5 _ rfl (.tmp 56) (.tmp 57) rfl w4.heap.size _ [] rfl N0.out A1 l1.length c1 l1 rfl q1.out.sl'.2 rfl (by have := HL1.out; have := HL2.out; have := HL3.out; have := HL4.out; have := List.length_nil (α := Int); omega) (by have := HL1.out; have := HL2.out; have := HL3.out; have := HL4.out; have := List.length_nil (α := Int); omega) hz.out ?_; intro v5 w5 ho5 hg5 hw5; generalize hl5 : [] ++ l1 = L5 at ho5; have HM5 := Lib.hid hl5; have HN5 := Lib.hid (show L5.length ≤ 4 by rw [← hl5, List.length_append]; have := HL1.out; have := HL2.out; have := HL3.out; have := HL4.out; have := List.length_nil (α := Int); omega); clear hl5; obtain ⟨A5, c5, rfl⟩ := own_form ho5; have N1 := Lib.hid ho5; replace q2 := Lib.hid (own_far q2.out hg5 N0.out HLW.out.2.1); replace q3 := Lib.hid (own_far q3.out hg5 N0.out HLW.out.2.2.1); replace q4 := Lib.hid (own_far q4.out hg5 N0.out HLW.out.2.2.2); replace HB := Lib.hid (HB.out.grown hg5 HB.out.size (fun k hk => Nat.le_trans HBw.out (World.ownsRow.lt N0.out k hk).1)); have hz5 := Lib.hid (Nat.le_trans hz.out hg5.size); clear ho5 hg5 hw5) | (at_builtin; refine Tin.wpl_app bt5 _ rfl (.tmp 58) (.tmp 59) rfl w4.heap.size _ L5 rfl N1.out A2 l2.length c2 l2 rfl q2.out.sl'.2 rfl (by have := HL1.out; have := HL2.out; have := HL3.out; have := HL4.out; have := HN5.out; omega) (by have := HL1.out; have := HL2.out; have := HL3.out; have := HL4.out; have := HN5.out; omega) hz5.out ?_; intro v6 w6 ho6 hg6 hw6; generalize hl6 : L5 ++ l2 = L6 at ho6; have HM6 := Lib.hid hl6; have HN6 := Lib.hid (show L6.length ≤ 8 by rw [← hl6, List.length_append]; have := HL1.out; have := HL2.out; have := HL3.out; have := HL4.out; have := HN5.out; omega); clear hl6; obtain ⟨A6, c6, rfl⟩ := own_form ho6; have N2 := Lib.hid ho6; replace q3 := Lib.hid (own_far q3.out hg6 N1.out HLW.out.2.2.1); replace q4 := Lib.hid (own_far q4.out hg6 N1.out HLW.out.2.2.2); replace HB := Lib.hid (HB.out.grown hg6 HB.out.size (fun k hk => Nat.le_trans HBw.out (World.ownsRow.lt N1.out k hk).1)); have hz6 := Lib.hid (Nat.le_trans hz5.out hg6.size); clear ho6 hg6 hw6) | (at_builtin; refine Tin.wpl_app bt5 _ rfl (.tmp 60) (.tmp 61) rfl w4.heap.size _ L6 rfl N2.out A3 l3.length c3 l3 rfl q3.out.sl'.2 rfl (by have := HL1.out; have := HL2.out; have := HL3.out; have := HL4.out; have := HN6.out; omega) (by have := HL1.out; have := HL2.out; have := HL3.out; have := HL4.out; have := HN6.out; omega) hz6.out ?_; intro v7 w7 ho7 hg7 hw7; generalize hl7 : L6 ++ l3 = L7 at ho7; have HM7 := Lib.hid hl7; have HN7 := Lib.hid (show L7.length ≤ 12 by rw [← hl7, List.length_append]; have := HL1.out; have := HL2.out; have := HL3.out; have := HL4.out; have := HN6.out; omega); clear hl7; obtain ⟨A7, c7, rfl⟩ := own_form ho7; have N3 := Lib.hid ho7; replace q4 := Lib.hid (own_far q4.out hg7 N2.out HLW.out.2.2.2); replace HB := Lib.hid (HB.out.grown hg7 HB.out.size (fun k hk => Nat.le_trans HBw.out (World.ownsRow.lt N2.out k hk).1)); have hz7 := Lib.hid (Nat.le_trans hz6.out hg7.size); clear ho7 hg7 hw7) | (at_builtin; refine Tin.wpl_app bt5 _ rfl (.tmp 62) (.tmp 63) rfl w4.heap.size _ L7 rfl N3.out A4 l4.length c4 l4 rfl q4.out.sl'.2 rfl (by have := HL1.out; have := HL2.out; have := HL3.out; have := HL4.out; have := HN7.out; omega) (by have := HL1.out; have := HL2.out; have := HL3.out; have := HL4.out; have := HN7.out; omega) hz7.out ?_; intro v8 w8 ho8 hg8 hw8; generalize hl8 : L7 ++ l4 = L8 at ho8; have HM8 := Lib.hid hl8; have HN8 := Lib.hid (show L8.length ≤ 16 by rw [← hl8, List.length_append]; have := HL1.out; have := HL2.out; have := HL3.out; have := HL4.out; have := HN7.out; omega); clear hl8; obtain ⟨A8, c8, rfl⟩ := own_form ho8; have N4 := Lib.hid ho8; replace HB := Lib.hid (HB.out.grown hg8 HB.out.size (fun k hk => Nat.le_trans HBw.out (World.ownsRow.lt N3.out k hk).1)); have hz8 := Lib.hid (Nat.le_trans hz7.out hg8.size); clear ho8 hg8 hw8))
  go_ret2
  rw [HE.out, HEL.out]
  have e8 : l1 ++ l2 ++ l3 ++ l4 = L8 := by rw [← HM8.out, ← HM7.out, ← HM6.out, ← HM5.out]; simp
  rw [e8]
  exact ⟨A8, c8, rfl, N4.out.mono HBw.out, HB.out⟩
end Go.Proofs.Ythjmnahmejagmaa
