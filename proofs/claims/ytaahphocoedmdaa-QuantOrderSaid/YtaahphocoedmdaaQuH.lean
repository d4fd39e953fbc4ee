/- The contracts of flat and scaled, of bases and Base. -/
import Derived.Test.YtaahphocoedmdaaQuG
namespace Go.Proofs.Ytaahphocoedmdaa
open Go.RowKit
open Go.Tin
set_option linter.unusedVariables false
set_option linter.unusedSimpArgs false


def flatL (n : Int) : List Int := eachL (fun _ _ => n) zer zer
theorem flatL_len (n : Int) : (flatL n).length = 64 := eachL_len _ _ _
set_option maxRecDepth 100000 in
set_option maxHeartbeats 4000000 in
theorem flat_any (n : Int) (w : World) : Calls Try.prog 24 #[.int .i64 n] w fun e w' => e = .returned (.agg (arr .i64 (flatL n))) ∧ Below w.heap.size w w' := by
  have HL := Lib.hid (flatL_len n)
  go_enter Try.func24, Try.ntmps24
  go_wp2_with fail
  generalize hW0 : (w.alloc _).alloc _ = W0 at *
  obtain ⟨g0, g1, hB0, hz0⟩ : W0.heap[w.heap.size]? = some (.cells (arr .i64 zer) 23 (0, 0)) ∧ W0.heap[w.heap.size + 1]? = some (.cells (arr .i64 zer) 23 (0, 0)) ∧ Below w.heap.size w W0 ∧ W0.heap.size = w.heap.size + 2 := by
    rw [← hW0]
    exact alloc2 w (.cells (arr .i64 zer) 23) (.cells (arr .i64 zer) 23)
  have e0 : eachT (fun _ _ => n) zer zer 0 = zer := tell_zero _ _
  rw [← e0] at g1
  clear hW0 e0
  go_loopw [4] (fun s4 wr => ∃ (i : Nat), i ≤ 64 ∧ s4 = .int .i64 (i : Int) ∧ wr.heap[w.heap.size]? = some (.cells (arr .i64 zer) 23 (0, 0)) ∧ wr.heap[w.heap.size + 1]? = some (.cells (arr .i64 (eachT (fun _ _ => n) zer zer i)) 23 (0, 0)) ∧ Below w.heap.size w wr ∧ w.heap.size + 2 ≤ wr.heap.size) (fun s4 _ => 64 - (intOf s4).toNat)
  case atStart => exact ⟨0, by omega, rfl, g0, g1, hB0, by omega⟩
  case round =>
    clear g0 g1 hB0 hz0
    obtain ⟨i, hi, rfl, g0, g1, hB, hz⟩ := hrel
    by_cases hi64 : i < 64
    · have i1 : (i : Int) < 64 := by omega
      have G0 := Lib.hid g0
      have G1 := Lib.hid g1
      clear g0 g1
      have c3 : wr.cell? ⟨w.heap.size + 1, i, none⟩ = some (.int .i64 0) := by
        rw [row_cell (g := w.heap.size + 1) G1.out i (arr_get i (by simp; exact hi64))]
        unfold eachT
        rw [nth_tell _ _ _ _ hi64, if_neg (by omega)]
      have f3 : wr.frozen? ⟨w.heap.size + 1, i, none⟩ = false := frozen_of_row wr (w.heap.size + 1) i _ _ G1.out
      go_wp2_with fail
      go_roundw
      case rel => exact ⟨i + 1, by omega, by go_num, (other1 (by omega)).trans G0.out, told1 (g := w.heap.size + 1) i G1.out _ rfl (by omega), bset hB _ _ _ (by omega), by simpa [World.setCell] using hz⟩
      case measure => simp [intOf]; omega
    · obtain rfl : i = 64 := by omega
      have G0 := Lib.hid g0
      have e5 : eachT (fun _ _ => n) zer zer 64 = flatL n := tell_all _ _
      rw [e5] at g1
      have G1 := Lib.hid g1
      clear g0 g1 e5
      go_wp2_with (first | ((with_reducible refine wpl_load_row rtB ?_ (.tmp 3) ?_ (w.heap.size + 1) ?_ 23 (arr .i64 (flatL n)) ?_ ?_ ?_); rfl; rfl; rfl; simp [HL.out]; exact G1.out; simp only [Act.put, List.setIfInBounds_toArray, List.set_cons_succ, List.set_cons_zero]) | ((with_reducible refine wpl_store_row rtB ?_ (.tmp 2) (.tmp 12) ?_ (w.heap.size) ?_ (arr .i64 (flatL n)) ?_ arr_one 23 ?_ _ ?_ G0.out ?_); rfl; rfl; rfl; rfl; simp [HL.out]; simp [zer_len]; intro w6 hr6 hg6 hs6; (try simp only [Act.put])))
      exact bodyPost_ret (res_arr at27 rfl _ _ w.heap.size 23 rfl HL.out hr6) rfl ⟨rfl, hB.grown hg6 hB.size (fun k hk => by cases hk; omega)⟩

set_option maxRecDepth 100000 in
set_option maxHeartbeats 4000000 in
theorem scaledn_any (n : Int) (w : World) : Calls Try.prog 25 #[.int .i64 n] w fun e w' => e = .returned (.int .i64 (nth (scL (flatL 16) n) 5)) ∧ Below w.heap.size w w' := by
  have HF := Lib.hid (flat_any 16)
  have HS := Lib.hid (fun W => scaled_any (flatL 16) (flatL_len 16) n W)
  have HL := Lib.hid (scL_len (flatL 16) n)
  generalize scL (flatL 16) n = r at *
  generalize scE (flatL 16) n = er at *
  generalize flatL 16 = f at *
  go_enter Try.func25, Try.ntmps25
  go_wp2_with fail
  refine (HF.out w).mono ?_
  rintro e w1 ⟨rfl, hb1⟩
  go_wp2_with fail
  refine (HS.out w1).mono ?_
  rintro e w2 ⟨rfl, hb2⟩
  have hB := bt hb1 hb2
  clear hb1 hb2
  have hB3 : Below w.heap.size w (w2.alloc (.cells (arr .i64 zer) 23)) := ba hB _
  go_wp2_with (((with_reducible refine wpl_store_row rtB ?_ (.tmp 3) (.tmp 9) ?_ (w2.heap.size) ?_ (arr .i64 r) ?_ arr_one 23 ?_ _ ?_ (heap_alloc_new _ _) ?_); rfl; rfl; rfl; rfl; simp [HL.out]; simp [zer_len]; intro w6 hr6 hg6 hs6; (try simp only [Act.put])); have k0 := row_cell hr6 5 (arr_get 5 (by rw [HL.out]; decide)); clear hr6)
  go_ret
  exact ⟨rfl, hB3.grown hg6 (by simp; have := hB.size; omega) (fun k hk => by cases hk; exact hB.size)⟩
end Go.Proofs.Ytaahphocoedmdaa
