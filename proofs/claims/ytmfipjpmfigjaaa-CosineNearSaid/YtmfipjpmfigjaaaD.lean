/- The contracts of made and of the functions that read the grid. -/
import Derived.Test.YtmfipjpmfigjaaaB
namespace Go.Proofs.Ytmfipjpmfigjaaa
open Go.RowKit
open Go.Tin
set_option linter.unusedVariables false
set_option linter.unusedSimpArgs false

/-- The grid's numbers, row by row. -/
def gridF (i : Nat) : Int := facN (i / 8) (i % 8)
def gridL : List Int := full 64 gridF
theorem at26 : AT Try.prog 26 3 .i64 64 := ⟨Try.underlying26, Try.underlying3, by kernel_rfl, by kernel_rfl⟩
theorem at25 : AT Try.prog 25 3 .i64 64 := ⟨Try.underlying25, Try.underlying3, by kernel_rfl, by kernel_rfl⟩
theorem rt42 : RT Try.prog 42 64 := RT.of Try.underlying42 rfl (by kernel_rfl)

set_option maxRecDepth 100000 in
set_option maxHeartbeats 4000000 in
theorem made_any (w : World) : Calls Try.prog 20 #[] w fun e w' => e = .returned (.agg (arr .i64 gridL)) ∧ Below w.heap.size w w' := by
  go_enter Try.func20, Try.ntmps20
  go_wp2_with fail
  generalize hW0 : w.alloc _ = W0 at *
  have hz0 : W0.heap[w.heap.size]? = some (.cells (arr .i64 (tell 64 gridF 0)) 42 (0, 0)) := by
    rw [← hW0, ← arr_zero]
    exact heap_alloc_new w _
  have hB : Below w.heap.size w W0 := by rw [← hW0]; exact ba (brefl w) _
  have hg : w.heap.size < W0.heap.size := by rw [← hW0]; simp
  clear hW0
  go_loopw [3] (fun s3 wr => ∃ (u : Nat), u ≤ 8 ∧ s3 = .int .i64 (u : Int) ∧ wr.heap[w.heap.size]? = some (.cells (arr .i64 (tell 64 gridF (8 * u))) 42 (0, 0)) ∧ Below w.heap.size w wr ∧ w.heap.size < wr.heap.size) (fun s3 _ => 8 - (intOf s3).toNat)
  case atStart => exact ⟨0, by omega, rfl, hz0, hB, hg⟩
  case round =>
    clear hz0 hB hg
    obtain ⟨u, hu, rfl, hh, hB, hg⟩ := hrel
    have HH := Lib.hid hh
    clear hh
    by_cases hu8 : u < 8
    · have u1 : (u : Int) < 8 := by omega
      go_wp2_with fail
      go_loopw [6] (fun s6 wr => ∃ (x : Nat), x ≤ 8 ∧ s6 = .int .i64 (x : Int) ∧ wr.heap[w.heap.size]? = some (.cells (arr .i64 (tell 64 gridF (8 * u + x))) 42 (0, 0)) ∧ Below w.heap.size w wr ∧ w.heap.size < wr.heap.size) (fun s6 _ => 8 - (intOf s6).toNat)
      case atStart => exact ⟨0, by omega, rfl, HH.out, hB, hg⟩
      case round =>
        clear HH hB hg
        obtain ⟨x, hx, rfl, hh, hB, hg⟩ := hrel
        have HH := Lib.hid hh
        clear hh
        by_cases hx8 : x < 8
        · have x1 : (x : Int) < 8 := by omega
          go_wp2_with fail
          have hc := fac_any u x (by omega) (by omega) wr.drew
          refine Tin.reg_begin 0 8 (by rfl) (by kernel_rfl) ?_
          refine Tin.reg_quiets [0, 1, 2, 3, 5] _ 3 rfl (by simp only [Tin.pick, List.map_cons, List.map_nil, Array.getD_eq_getD_getElem?, List.getElem?_toArray, List.getElem?_cons_zero, List.getElem?_cons_succ, Option.getD_some]; rfl) (by kernel_rfl) (by kernel_rfl) ?_
          repeat (first | go_big_quiet_step (fail))
          refine wpQuiet_nil ?_
          refine Tin.reg_one 4 _ rfl (by kernel_rfl) ?_
          try simp only [List.getElem_toArray, List.getElem_cons_succ, List.getElem_cons_zero]
          go_wp2_with fail
          refine Calls.mono hc ?_
          clear hc
          rintro e w4 ⟨rfl, hb4⟩
          have hb4w : Below wr.heap.size wr w4 := ⟨hb4.os, hb4.tape, hb4.output, hb4.size, hb4.block⟩
          go_wp2_with fail
          refine ⟨0, hb4.mono (Nat.zero_le _), Nat.le_refl _, ?_⟩
          have h4 := (hb4w.block _ hg).trans HH.out
          have c2 := row_cell h4 (u * 8 + x) (arr_get (u * 8 + x) (by rw [tell_len]; omega))
          have c3 := frozen_of_row w4 _ (u * 8 + x) _ _ h4
          have hset : (w4.setCell ⟨w.heap.size, u * 8 + x, none⟩ (.int .i64 (facN u x))).heap[w.heap.size]? = some (.cells (arr .i64 (tell 64 gridF (8 * u + (x + 1)))) 42 (0, 0)) := by
            rw [blk_set h4, show facN u x = gridF (u * 8 + x) by unfold gridF; rw [show (u * 8 + x) / 8 = u by omega, show (u * 8 + x) % 8 = x by omega], show u * 8 + x = 8 * u + x by omega, tell_set _ _ _ (by omega)]; rfl
          have HSet := Lib.hid hset
          have hbw := bt hB hb4w
          have hz4 := Nat.lt_of_lt_of_le hg hb4w.size
          clear hset h4
          refine Tin.reg_quiets [6] _ 1 rfl (by simp only [Tin.pick, List.map_cons, List.map_nil, Array.getD_eq_getD_getElem?, List.getElem?_toArray, List.getElem?_cons_zero, List.getElem?_cons_succ, Option.getD_some]; rfl) (by kernel_rfl) (by kernel_rfl) ?_
          repeat (first | go_big_quiet_step (fail))
          refine wpQuiet_nil ?_
          refine Tin.reg_one 7 _ rfl (by kernel_rfl) ?_
          try simp only [List.getElem_toArray, List.getElem_cons_succ, List.getElem_cons_zero]
          go_wp2_with fail
          refine ⟨0, ⟨rfl, rfl, rfl, by simp [World.setCell], fun i hi => absurd hi (Nat.not_lt_zero _)⟩, Nat.le_refl _, ?_⟩
          refine Tin.reg_done (by kernel_rfl) ?_
          go_wp2_with fail
          go_roundw
          case rel => exact ⟨x + 1, by omega, by go_num, HSet.out, hbw.setCell (by show w.heap.size ≤ w.heap.size; omega) _, by simpa [World.setCell] using hz4⟩
          case measure => simp [intOf]; omega
        · obtain rfl : x = 8 := by omega
          go_wp2_with fail
          go_roundw
          case rel => exact ⟨u + 1, by omega, by go_num, HH.out, hB, hg⟩
          case measure => simp [intOf]; omega
    · obtain rfl : u = 8 := by omega
      go_wp2_with (first | ((with_reducible refine wpl_load_row rt42 ?_ (.tmp 0) rfl w.heap.size rfl 42 _ ?_ HH.out ?_); rfl; simp; simp only [Act.put, List.setIfInBounds_toArray, List.set_cons_succ, List.set_cons_zero]) | ((with_reducible refine wpl_store_row rt42 rfl (.tmp 0) (.tmp 18) rfl w.heap.size rfl _ rfl arr_one 42 ?_ _ ?_ HH.out ?_); simp; simp; intro w5 hr5 hg5 hs5))
      exact bodyPost_ret (res_row rt42 rfl _ _ w.heap.size 42 _ rfl (by simp) hr5) rfl ⟨by rw [show tell 64 gridF (8 * 8) = gridL from tell_all 64 gridF], hB.grown hg5 hB.size (fun k hk => by cases hk; omega)⟩
end Go.Proofs.Ytmfipjpmfigjaaa
