/- The contract of OfNumbers. -/
import Derived.Test.YtmdcdmgbillehaaTzB
namespace Go.Proofs.Ytmdcdmgbillehaa
open Go.RowKit
open Go.Tin
set_option linter.unusedVariables false
set_option linter.unusedSimpArgs false


theorem nu_is (k : Int) : ((isT k != 1) && (isT k != 2)) = !nuT k := by
  by_cases h : k < 0 ∨ 12 < k
  · unfold nuT
    rw [(kd_no h).2.2, (kd_no h).1]
    rfl
  · rcases n13 (show 0 ≤ k by omega) (by omega) with rfl | rfl | rfl | rfl | rfl | rfl | rfl | rfl | rfl | rfl | rfl | rfl | rfl <;> decide
set_option maxRecDepth 100000 in
set_option maxHeartbeats 8000000 in
theorem onum_any (k : Int) (A : Option Addr) (l : List Int) (cap : Nat) (w : World) (hs : Sl .i64 w A l) (hl : l.length ≤ 1000000) :
    Calls Try.prog 8 #[.int .i64 k, .slice A l.length cap] w fun e w' => ∃ A' c', e = .returned (.tuple #[.agg (vrow (on (ronB k l) k) (on (ronB k l) (l.length : Int)) A' (ronL k l).length c'), .bool (ronB k l)]) ∧ Own .u8 5 w' w.heap.size (.slice A' (ronL k l).length c') (ronL k l) ∧ Below w.heap.size w w' := by
  have HBX := Lib.hid (ba (brefl w) (.cells (vrow 0 0 none 0 0) 27))
  have HRX := Lib.hid (heap_alloc_new w (.cells (vrow 0 0 none 0 0) 27))
  have HS := Lib.hid hs
  have HED := Lib.hid (show ronB k l = (nuT k && rofB k (l.length : Int) l) ∧ ronL k l = (if ronB k l then rofL k (l.length : Int) l else []) from ⟨rfl, rfl⟩)
  have HE0 := Lib.hid (show ronB k l = false → ronL k l = [] ∧ on (ronB k l) k = 0 ∧ on (ronB k l) (l.length : Int) = 0 from fun h => ⟨by unfold ronL; rw [h]; rfl, by rw [h]; rfl, by rw [h]; rfl⟩)
  have HNU := Lib.hid (nu_is k)
  clear hs
  go_enter Try.func8, Try.ntmps8
  go_wp2_with fail
  refine (of_any k _).mono ?_
  rintro e w1 ⟨rfl, hb⟩
  have HR1 := Lib.hid ((hb.block _ (row_lt HRX.out)).trans HRX.out)
  have HB1 := Lib.hid (HBX.out.trans (hb.mono HBX.out.size))
  clear hb HBX HRX
  have hlt : w.heap.size < w1.heap.size := row_lt HR1.out
  have HB := Lib.hid (ba HB1.out (.cells #[.int .i64 (szT k), .int .i64 (prT k), .int .i64 (isT k)] 58))
  have HR := Lib.hid (show (w1.alloc (.cells #[.int .i64 (szT k), .int .i64 (prT k), .int .i64 (isT k)] 58)).heap[w.heap.size]? = some (.cells (vrow 0 0 none 0 0) 27 (0, 0)) by rw [Below.heap_alloc _ _ _ hlt]; exact HR1.out)
  have HKR := Lib.hid (heap_alloc_new w1 (.cells #[.int .i64 (szT k), .int .i64 (prT k), .int .i64 (isT k)] 58))
  have HS2 := Lib.hid (HS.out.keep HB.out)
  have HM := Lib.hid (made_any k A l cap (w1.alloc (.cells #[.int .i64 (szT k), .int .i64 (prT k), .int .i64 (isT k)] 58)) HS2.out hl)
  by_cases h1 : isT k = 1
  · have d1 : (isT k != 1) = false := by simpa using h1
    have HN := Lib.hid (show nuT k = true by have := HNU.out; rw [d1] at this; simpa using this)
    clear h1
    have HE := Lib.hid (show ronB k l = rofB k (l.length : Int) l by rw [HED.out.1, HN.out]; rfl)
    have HEL := Lib.hid (show ronL k l = rofL k (l.length : Int) l by
      rw [HED.out.2, HE.out]
      unfold rofL
      cases rofB k (l.length : Int) l <;> rfl)
    go_wp2_with ((with_reducible refine wpl_load_row rtK ?_ (.tmp 6) ?_ (w1.heap.size) ?_ 58 #[.int .i64 (szT k), .int .i64 (prT k), .int .i64 (isT k)] ?_ HKR.out ?_); rfl; rfl; rfl; rfl; simp only [Act.put, List.setIfInBounds_toArray, List.set_cons_succ, List.set_cons_zero])
    refine HM.out.mono ?_
    rintro e w2 ⟨A2, c2, rfl, ho2, hb2⟩
    have HR2 := Lib.hid ((hb2.block _ (row_lt HR.out)).trans HR.out)
    have HB2 := Lib.hid (HB.out.trans (hb2.mono HB.out.size))
    have HO2 := Lib.hid ho2
    clear ho2 hb2
    rw [← HEL.out] at HO2
    rw [← HEL.out, ← HE.out]
    generalize hx : on (ronB k l) k = x1 at *
    generalize hy : on (ronB k l) (l.length : Int) = x2 at *
    generalize hz : ronL k l = R at *
    have HX := Lib.hid (show on (ronB k l) k = x1 ∧ on (ronB k l) (l.length : Int) = x2 ∧ ronL k l = R from ⟨hx, hy, hz⟩)
    clear hx hy hz
    go_wp2_with ((with_reducible refine wpl_store_row rtV ?_ (.tmp 4) (.tmp 23) ?_ (w.heap.size) ?_ (vrow x1 x2 A2 R.length c2) ?_ (vrow_one _ _ _ _ _) 27 ?_ _ ?_ HR2.out ?_); rfl; rfl; rfl; rfl; rfl; rfl; intro w7 hr7 hg7 hs7; (try simp only [Act.put]))
    rw [HX.out.1, HX.out.2.1, HX.out.2.2]
    exact bodyPost_ret (res_row_tmp rtV rfl _ _ w.heap.size 27 (vrow x1 x2 A2 R.length c2) rfl _ rfl rfl hr7) rfl ⟨A2, c2, rfl, (HO2.out.mono (Nat.le_trans (Nat.le_of_lt hlt) (by simp))).kept hg7 (by
      cases hq : (Value.slice A2 R.length c2).ownBlock with
      | none => exact .inl rfl
      | some q => exact .inr (fun e => by have h1 := (World.ownsRow.lt HO2.out q hq).1; have e' : q = w.heap.size := Option.some.inj e; have h2 : w1.heap.size ≤ (w1.alloc (.cells #[.int .i64 (szT k), .int .i64 (prT k), .int .i64 (isT k)] 58)).heap.size := (by simp); omega)), HB2.out.grown hg7 HB2.out.size (fun k hk => by cases hk; exact Nat.le_refl _)⟩

  have d1 : (isT k != 1) = true := by simpa using h1
  by_cases h2 : isT k = 2
  · have d2 : (isT k != 2) = false := by simpa using h2
    have HN := Lib.hid (show nuT k = true by have := HNU.out; rw [d1, d2] at this; simpa using this)
    clear h1 h2
    have HE := Lib.hid (show ronB k l = rofB k (l.length : Int) l by rw [HED.out.1, HN.out]; rfl)
    have HEL := Lib.hid (show ronL k l = rofL k (l.length : Int) l by
      rw [HED.out.2, HE.out]
      unfold rofL
      cases rofB k (l.length : Int) l <;> rfl)
    go_wp2_with ((with_reducible refine wpl_load_row rtK ?_ (.tmp 6) ?_ (w1.heap.size) ?_ 58 #[.int .i64 (szT k), .int .i64 (prT k), .int .i64 (isT k)] ?_ HKR.out ?_); rfl; rfl; rfl; rfl; simp only [Act.put, List.setIfInBounds_toArray, List.set_cons_succ, List.set_cons_zero])
    refine HM.out.mono ?_
    rintro e w2 ⟨A2, c2, rfl, ho2, hb2⟩
    have HR2 := Lib.hid ((hb2.block _ (row_lt HR.out)).trans HR.out)
    have HB2 := Lib.hid (HB.out.trans (hb2.mono HB.out.size))
    have HO2 := Lib.hid ho2
    clear ho2 hb2
    rw [← HEL.out] at HO2
    rw [← HEL.out, ← HE.out]
    generalize hx : on (ronB k l) k = x1 at *
    generalize hy : on (ronB k l) (l.length : Int) = x2 at *
    generalize hz : ronL k l = R at *
    have HX := Lib.hid (show on (ronB k l) k = x1 ∧ on (ronB k l) (l.length : Int) = x2 ∧ ronL k l = R from ⟨hx, hy, hz⟩)
    clear hx hy hz
    go_wp2_with ((with_reducible refine wpl_store_row rtV ?_ (.tmp 4) (.tmp 23) ?_ (w.heap.size) ?_ (vrow x1 x2 A2 R.length c2) ?_ (vrow_one _ _ _ _ _) 27 ?_ _ ?_ HR2.out ?_); rfl; rfl; rfl; rfl; rfl; rfl; intro w7 hr7 hg7 hs7; (try simp only [Act.put]))
    rw [HX.out.1, HX.out.2.1, HX.out.2.2]
    exact bodyPost_ret (res_row_tmp rtV rfl _ _ w.heap.size 27 (vrow x1 x2 A2 R.length c2) rfl _ rfl rfl hr7) rfl ⟨A2, c2, rfl, (HO2.out.mono (Nat.le_trans (Nat.le_of_lt hlt) (by simp))).kept hg7 (by
      cases hq : (Value.slice A2 R.length c2).ownBlock with
      | none => exact .inl rfl
      | some q => exact .inr (fun e => by have h1 := (World.ownsRow.lt HO2.out q hq).1; have e' : q = w.heap.size := Option.some.inj e; have h2 : w1.heap.size ≤ (w1.alloc (.cells #[.int .i64 (szT k), .int .i64 (prT k), .int .i64 (isT k)] 58)).heap.size := (by simp); omega)), HB2.out.grown hg7 HB2.out.size (fun k hk => by cases hk; exact Nat.le_refl _)⟩

  have d2 : (isT k != 2) = true := by simpa using h2
  have HN := Lib.hid (show nuT k = false by have := HNU.out; rw [d1, d2] at this; simpa using this)
  have HE := Lib.hid (show ronB k l = false by rw [HED.out.1, HN.out]; rfl)
  have HEz := Lib.hid (HE0.out HE.out)
  clear h1 h2
  go_wp2_with ((with_reducible refine wpl_store_row rtV ?_ (.tmp 4) (.tmp 17) ?_ (w.heap.size) ?_ (vrow 0 0 none 0 0) ?_ (vrow_one _ _ _ _ _) 27 ?_ _ ?_ HR.out ?_); rfl; rfl; rfl; rfl; rfl; rfl; intro w7 hr7 hg7 hs7; (try simp only [Act.put]))
  rw [HEz.out.2.1, HEz.out.2.2, HEz.out.1, HE.out]
  exact bodyPost_ret (res_row_tmp rtV rfl _ _ w.heap.size 27 (vrow 0 0 none 0 0) rfl (.bool false) rfl rfl hr7) rfl ⟨none, 0, rfl, Own.nil_ _ _ _ _, HB.out.grown hg7 HB.out.size (fun k hk => by cases hk; exact Nat.le_refl _)⟩
end Go.Proofs.Ytmdcdmgbillehaa
