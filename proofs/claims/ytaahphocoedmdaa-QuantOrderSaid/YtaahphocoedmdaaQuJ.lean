/- The contract of the reference of Base. -/
import Derived.Test.YtaahphocoedmdaaQuI
import Derived.Test.YtaahphocoedmdaaZgF
namespace Go.Proofs.Ytaahphocoedmdaa
open Go.RowKit
open Go.Tin
set_option linter.unusedVariables false
set_option linter.unusedSimpArgs false


def secL : List Int := [17, 18, 18, 24, 21, 24, 47, 26, 26, 47, 99, 66, 56, 66]
theorem base1_at : ∀ i, i < 64 → nth base1 i = if i < 14 then nth secL i else 99 := by decide
set_option maxRecDepth 100000 in
set_option maxHeartbeats 4000000 in
theorem rbase_0 (w : World) : Calls Try.prog 11 #[.int .i64 0] w fun e w' => e = .returned (.agg (arr .i64 (fromL (baseK 0)))) ∧ Below w.heap.size w w' := by
  have HL := Lib.hid (fromL_len (baseK 0))
  go_enter Try.func11, Try.ntmps11
  go_wp2_with fail
  generalize hW0 : (((w.alloc _).alloc _).alloc _).alloc _ = W0 at *
  obtain ⟨g0, g1, g2, g3, hB0, hz0⟩ : W0.heap[w.heap.size]? = some (.cells (arr .i64 zer) 23 (0, 0)) ∧ W0.heap[w.heap.size + 1]? = some (.cells (arr .i64 base0) 3 (0, 0)) ∧ W0.heap[w.heap.size + 2]? = some (.cells (arr .i64 secL) 3 (0, 0)) ∧ W0.heap[w.heap.size + 3]? = some (.cells (arr .i64 zer) 23 (0, 0)) ∧ Below w.heap.size w W0 ∧ W0.heap.size = w.heap.size + 4 := by
    rw [← hW0]
    exact alloc4 w (.cells (arr .i64 zer) 23) (.cells (arr .i64 base0) 3) (.cells (arr .i64 secL) 3) (.cells (arr .i64 zer) 23)
  have e0 : fromP (baseK 0) 0 = zer := fromP_zero _
  rw [← e0] at g3
  clear hW0 e0
  go_loopw [6] (fun s6 wr => ∃ (i : Nat), i ≤ 64 ∧ s6 = .int .i64 (i : Int) ∧ wr.heap[w.heap.size]? = some (.cells (arr .i64 zer) 23 (0, 0)) ∧ wr.heap[w.heap.size + 1]? = some (.cells (arr .i64 base0) 3 (0, 0)) ∧ wr.heap[w.heap.size + 2]? = some (.cells (arr .i64 secL) 3 (0, 0)) ∧ wr.heap[w.heap.size + 3]? = some (.cells (arr .i64 (fromP (baseK 0) i)) 23 (0, 0)) ∧ Below w.heap.size w wr ∧ w.heap.size + 4 ≤ wr.heap.size) (fun s6 _ => 64 - (intOf s6).toNat)
  case atStart => exact ⟨0, by omega, rfl, g0, g1, g2, g3, hB0, by omega⟩
  case round =>
    clear g0 g1 g2 g3 hB0 hz0
    obtain ⟨i, hi, rfl, g0, g1, g2, g3, hB, hz⟩ := hrel
    by_cases hi64 : i < 64
    · have i1 : (i : Int) < 64 := by omega
      obtain ⟨z0, z1⟩ := zig_bd i hi64
      obtain ⟨Z, hZ⟩ := Int.eq_ofNat_of_zero_le z0
      have hZ64 : Z < 64 := by omega
      have G0 := Lib.hid g0
      have G1 := Lib.hid g1
      have G2 := Lib.hid g2
      have G3 := Lib.hid g3
      clear g0 g1 g2 g3
      have HA := Lib.hid (rat_any i hi64 wr)
      rw [hZ] at HA
      have c3 : wr.cell? ⟨w.heap.size + 1 + 1 + 1, Z, none⟩ = some (.int .i64 (nth (fromP (baseK 0) i) Z)) := row_cell (g := w.heap.size + 3) G3.out Z (arr_get Z (by rw [fromP_len]; exact hZ64))
      have f3 : wr.frozen? ⟨w.heap.size + 1 + 1 + 1, Z, none⟩ = false := frozen_of_row wr (w.heap.size + 3) Z _ _ G3.out
      have HS := Lib.hid (show (wr.setCell ⟨w.heap.size + 3, Z, none⟩ (.int .i64 (nth (baseK 0) i))).heap[w.heap.size + 3]? = some (.cells (arr .i64 (fromP (baseK 0) (i + 1))) 23 (0, 0)) by
        rw [← fromP_set (baseK 0) i hi64, hZ]
        exact blk_set G3.out Z _)
      clear hZ z0 z1
      have k0 := row_cell G1.out i (arr_get i (by rw [show base0.length = 64 from by kernel_rfl]; exact hi64))
      have eb : baseK 0 = base0 := rfl
      rw [eb] at HS
      clear eb
      go_wp2_with (refine HA.out.mono ?_; rintro e w1 ⟨rfl, rfl⟩)
      go_roundw
      case rel => exact ⟨i + 1, by omega, by go_num, (other1 (by omega)).trans G0.out, (other1 (by omega)).trans G1.out, (other1 (by omega)).trans G2.out, HS.out, bset hB _ _ _ (by omega), by simpa [World.setCell] using hz⟩
      case measure => simp [intOf]; omega
    · obtain rfl : i = 64 := by omega
      have G0 := Lib.hid g0
      rw [fromP_end] at g3
      have G3 := Lib.hid g3
      clear g0 g1 g2 g3
      go_wp2_with (first | ((with_reducible refine wpl_load_row rtB ?_ (.tmp 5) ?_ (w.heap.size + 3) ?_ 23 (arr .i64 (fromL (baseK 0))) ?_ ?_ ?_); rfl; rfl; rfl; simp [HL.out]; exact G3.out; simp only [Act.put, List.setIfInBounds_toArray, List.set_cons_succ, List.set_cons_zero]) | ((with_reducible refine wpl_store_row rtB ?_ (.tmp 2) (.tmp 32) ?_ (w.heap.size) ?_ (arr .i64 (fromL (baseK 0))) ?_ arr_one 23 ?_ _ ?_ G0.out ?_); rfl; rfl; rfl; rfl; simp [HL.out]; simp [zer_len]; intro w6 hr6 hg6 hs6; (try simp only [Act.put])))
      exact bodyPost_ret (res_arr at27 rfl _ _ w.heap.size 23 rfl HL.out hr6) rfl ⟨rfl, hB.grown hg6 hB.size (fun k hk => by cases hk; omega)⟩

set_option maxRecDepth 100000 in
set_option maxHeartbeats 4000000 in
theorem rbase_1 (w : World) : Calls Try.prog 11 #[.int .i64 1] w fun e w' => e = .returned (.agg (arr .i64 (fromL (baseK 1)))) ∧ Below w.heap.size w w' := by
  have HL := Lib.hid (fromL_len (baseK 1))
  go_enter Try.func11, Try.ntmps11
  go_wp2_with fail
  generalize hW0 : (((w.alloc _).alloc _).alloc _).alloc _ = W0 at *
  obtain ⟨g0, g1, g2, g3, hB0, hz0⟩ : W0.heap[w.heap.size]? = some (.cells (arr .i64 zer) 23 (0, 0)) ∧ W0.heap[w.heap.size + 1]? = some (.cells (arr .i64 base0) 3 (0, 0)) ∧ W0.heap[w.heap.size + 2]? = some (.cells (arr .i64 secL) 3 (0, 0)) ∧ W0.heap[w.heap.size + 3]? = some (.cells (arr .i64 zer) 23 (0, 0)) ∧ Below w.heap.size w W0 ∧ W0.heap.size = w.heap.size + 4 := by
    rw [← hW0]
    exact alloc4 w (.cells (arr .i64 zer) 23) (.cells (arr .i64 base0) 3) (.cells (arr .i64 secL) 3) (.cells (arr .i64 zer) 23)
  have e0 : fromP (baseK 1) 0 = zer := fromP_zero _
  rw [← e0] at g3
  clear hW0 e0
  go_loopw [6] (fun s6 wr => ∃ (i : Nat), i ≤ 64 ∧ s6 = .int .i64 (i : Int) ∧ wr.heap[w.heap.size]? = some (.cells (arr .i64 zer) 23 (0, 0)) ∧ wr.heap[w.heap.size + 1]? = some (.cells (arr .i64 base0) 3 (0, 0)) ∧ wr.heap[w.heap.size + 2]? = some (.cells (arr .i64 secL) 3 (0, 0)) ∧ wr.heap[w.heap.size + 3]? = some (.cells (arr .i64 (fromP (baseK 1) i)) 23 (0, 0)) ∧ Below w.heap.size w wr ∧ w.heap.size + 4 ≤ wr.heap.size) (fun s6 _ => 64 - (intOf s6).toNat)
  case atStart => exact ⟨0, by omega, rfl, g0, g1, g2, g3, hB0, by omega⟩
  case round =>
    clear g0 g1 g2 g3 hB0 hz0
    obtain ⟨i, hi, rfl, g0, g1, g2, g3, hB, hz⟩ := hrel
    by_cases hi64 : i < 64
    · have i1 : (i : Int) < 64 := by omega
      obtain ⟨z0, z1⟩ := zig_bd i hi64
      obtain ⟨Z, hZ⟩ := Int.eq_ofNat_of_zero_le z0
      have hZ64 : Z < 64 := by omega
      have G0 := Lib.hid g0
      have G1 := Lib.hid g1
      have G2 := Lib.hid g2
      have G3 := Lib.hid g3
      clear g0 g1 g2 g3
      have HA := Lib.hid (rat_any i hi64 wr)
      rw [hZ] at HA
      have c3 : wr.cell? ⟨w.heap.size + 1 + 1 + 1, Z, none⟩ = some (.int .i64 (nth (fromP (baseK 1) i) Z)) := row_cell (g := w.heap.size + 3) G3.out Z (arr_get Z (by rw [fromP_len]; exact hZ64))
      have f3 : wr.frozen? ⟨w.heap.size + 1 + 1 + 1, Z, none⟩ = false := frozen_of_row wr (w.heap.size + 3) Z _ _ G3.out
      have HS := Lib.hid (show (wr.setCell ⟨w.heap.size + 3, Z, none⟩ (.int .i64 (nth (baseK 1) i))).heap[w.heap.size + 3]? = some (.cells (arr .i64 (fromP (baseK 1) (i + 1))) 23 (0, 0)) by
        rw [← fromP_set (baseK 1) i hi64, hZ]
        exact blk_set G3.out Z _)
      clear hZ z0 z1
      have eb : baseK 1 = base1 := rfl
      have hb1 := base1_at i hi64
      rw [← eb] at hb1
      by_cases h14 : i < 14
      · have i2 : (i : Int) < 14 := by omega
        have k0 := row_cell G2.out i (arr_get i (show i < secL.length from h14))
        rw [if_pos h14] at hb1
        rw [hb1] at HS
        clear eb hb1
        go_wp2_with (refine HA.out.mono ?_; rintro e w1 ⟨rfl, rfl⟩)
        go_roundw
        case rel => exact ⟨i + 1, by omega, by go_num, (other1 (by omega)).trans G0.out, (other1 (by omega)).trans G1.out, (other1 (by omega)).trans G2.out, HS.out, bset hB _ _ _ (by omega), by simpa [World.setCell] using hz⟩
        case measure => simp [intOf]; omega
      · have i2 : (14 : Int) ≤ (i : Int) := by omega
        rw [if_neg h14] at hb1
        rw [hb1] at HS
        clear eb hb1
        go_wp2_with (refine HA.out.mono ?_; rintro e w1 ⟨rfl, rfl⟩)
        go_roundw
        case rel => exact ⟨i + 1, by omega, by go_num, (other1 (by omega)).trans G0.out, (other1 (by omega)).trans G1.out, (other1 (by omega)).trans G2.out, HS.out, bset hB _ _ _ (by omega), by simpa [World.setCell] using hz⟩
        case measure => simp [intOf]; omega
    · obtain rfl : i = 64 := by omega
      have G0 := Lib.hid g0
      rw [fromP_end] at g3
      have G3 := Lib.hid g3
      clear g0 g1 g2 g3
      go_wp2_with (first | ((with_reducible refine wpl_load_row rtB ?_ (.tmp 5) ?_ (w.heap.size + 3) ?_ 23 (arr .i64 (fromL (baseK 1))) ?_ ?_ ?_); rfl; rfl; rfl; simp [HL.out]; exact G3.out; simp only [Act.put, List.setIfInBounds_toArray, List.set_cons_succ, List.set_cons_zero]) | ((with_reducible refine wpl_store_row rtB ?_ (.tmp 2) (.tmp 32) ?_ (w.heap.size) ?_ (arr .i64 (fromL (baseK 1))) ?_ arr_one 23 ?_ _ ?_ G0.out ?_); rfl; rfl; rfl; rfl; simp [HL.out]; simp [zer_len]; intro w6 hr6 hg6 hs6; (try simp only [Act.put])))
      exact bodyPost_ret (res_arr at27 rfl _ _ w.heap.size 23 rfl HL.out hr6) rfl ⟨rfl, hB.grown hg6 hB.size (fun k hk => by cases hk; omega)⟩
end Go.Proofs.Ytaahphocoedmdaa
