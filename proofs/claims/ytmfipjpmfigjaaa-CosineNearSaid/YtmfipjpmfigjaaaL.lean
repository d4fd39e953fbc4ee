/- The contracts of the reference's Forward and Inverse. -/
import Derived.Test.YtmfipjpmfigjaaaK
namespace Go.Proofs.Ytmfipjpmfigjaaa
open Go.RowKit
open Go.Tin
set_option linter.unusedVariables false
set_option linter.unusedSimpArgs false

set_option maxRecDepth 100000 in
set_option maxHeartbeats 4000000 in
theorem ref13_any (l : List Int) (hl : l.length = 64) (hno : l.any bigB = false) (w : World) : Calls Try.prog 13 #[.agg (arr .i64 l)] w fun e w' => e = .returned (.agg (arr .i64 (full 64 (refF fwdF l)))) ∧ Below w.heap.size w w' := by
  have hc : ∀ (q n : Nat) (W : World), q < 8 → n < 8 → Calls Try.prog 8 #[.int .i64 (q : Int), .int .i64 (n : Int)] W fun e w' => e = .returned (.int .i64 (fwdF q n)) ∧ Below W.heap.size W w' := fun q n W hq hn => by
    unfold fwdF
    rw [if_pos ⟨hq, hn⟩]
    exact rfac_any q n (by omega) (by omega) W
  have HL := Lib.hid hl
  have HC := Lib.hid hc
  have HO := Lib.hid (fun q p y => outS_bd fwdF l q p (nth_bd l hno) fwdF_bd y)
  have HI := Lib.hid (fun q p y n => innS_bd fwdF l q p y (nth_bd l hno) fwdF_bd n)
  have HP := Lib.hid (fun i a b => mul_bd2 (nth_bd l hno i) (fwdF_bd a b) (by decide) (by decide))
  have HB := Lib.hid fwdF_bd
  generalize fwdF = F at *
  clear hl hno hc
  go_enter Try.func13, Try.ntmps13
  go_wp2_with fail
  obtain ⟨f0, f1, f2⟩ := three w (.cells (arr .i64 l) 26) (.cells (Array.replicate 64 (.int .i64 0)) 26) (.cells (Array.replicate 64 (.int .i64 0)) 26)
  have hB0 := ba (ba (ba (brefl w) (.cells (arr .i64 l) 26)) (.cells (Array.replicate 64 (.int .i64 0)) 26)) (.cells (Array.replicate 64 (.int .i64 0)) 26)
  have hz0 : (((w.alloc (.cells (arr .i64 l) 26)).alloc (.cells (Array.replicate 64 (.int .i64 0)) 26)).alloc (.cells (Array.replicate 64 (.int .i64 0)) 26)).heap.size = w.heap.size + 3 := by simp
  rw [← arr_rep] at f1
  rw [arr_zero .i64 64 (refF F l)] at f2
  generalize hW0 : ((w.alloc _).alloc _).alloc _ = W0
  replace f0 : W0.heap[w.heap.size]? = some (.cells (arr .i64 l) 26 (0, 0)) := by rw [← hW0]; exact f0
  replace f1 : W0.heap[w.heap.size + 1]? = some (.cells (arr .i64 (List.replicate 64 0)) 26 (0, 0)) := by rw [← hW0]; exact f1
  replace f2 : W0.heap[w.heap.size + 1 + 1]? = some (.cells (arr .i64 (tell 64 (refF F l) 0)) 26 (0, 0)) := by rw [← hW0]; exact f2
  replace hB0 : Below w.heap.size w W0 := by rw [← hW0]; exact hB0
  replace hz0 : w.heap.size + 3 ≤ W0.heap.size := by rw [← hW0]; exact Nat.le_of_eq hz0.symm
  clear hW0
  go_loopw [4] (fun s4 wr => ∃ (p : Nat), p ≤ 8 ∧ s4 = .int .i64 (p : Int) ∧ wr.heap[w.heap.size]? = some (.cells (arr .i64 l) 26 (0, 0)) ∧ wr.heap[w.heap.size + 1]? = some (.cells (arr .i64 (List.replicate 64 0)) 26 (0, 0)) ∧ wr.heap[w.heap.size + 1 + 1]? = some (.cells (arr .i64 (tell 64 (refF F l) (8 * p))) 26 (0, 0)) ∧ Below w.heap.size w wr ∧ w.heap.size + 3 ≤ wr.heap.size) (fun s4 _ => 8 - (intOf s4).toNat)
  case atStart => exact ⟨0, by omega, rfl, f0, f1, f2, hB0, hz0⟩
  case round =>
    clear f0 f1 f2 hB0 hz0
    obtain ⟨p, hpp, rfl, f0, f1, f2, hB, hz⟩ := hrel
    have H0 := Lib.hid f0
    have H1 := Lib.hid f1
    have H2 := Lib.hid f2
    clear f0 f1 f2
    by_cases hp8 : p < 8
    · have r1 : (p : Int) < 8 := by omega
      go_wp2_with fail
      go_loopw [5] (fun s5 wr => ∃ (q : Nat), q ≤ 8 ∧ s5 = .int .i64 (q : Int) ∧ wr.heap[w.heap.size]? = some (.cells (arr .i64 l) 26 (0, 0)) ∧ wr.heap[w.heap.size + 1]? = some (.cells (arr .i64 (List.replicate 64 0)) 26 (0, 0)) ∧ wr.heap[w.heap.size + 1 + 1]? = some (.cells (arr .i64 (tell 64 (refF F l) (8 * p + q))) 26 (0, 0)) ∧ Below w.heap.size w wr ∧ w.heap.size + 3 ≤ wr.heap.size) (fun s5 _ => 8 - (intOf s5).toNat)
      case atStart => exact ⟨0, by omega, rfl, H0.out, H1.out, H2.out, hB, hz⟩
      case round =>
        clear H0 H1 H2 hB hz
        obtain ⟨q, hqq, rfl, f0, f1, f2, hB, hz⟩ := hrel
        have H0 := Lib.hid f0
        have H1 := Lib.hid f1
        have H2 := Lib.hid f2
        clear f0 f1 f2
        by_cases hq8 : q < 8
        · have t1 : (q : Int) < 8 := by omega
          go_wp2_with fail
          have hrr := brefl wr
          obtain ⟨w1, rfl⟩ : ∃ w1, w1 = wr := ⟨wr, rfl⟩
          go_loopw [6, 7] (fun s6 s7 wr => ∃ (y : Nat), y ≤ 8 ∧ s6 = .int .i64 (outS F l q p y) ∧ s7 = .int .i64 (y : Int) ∧ Below w1.heap.size w1 wr) (fun _ s7 _ => 8 - (intOf s7).toNat)
          case atStart => exact ⟨0, by omega, rfl, rfl, hrr⟩
          case round =>
            clear hrr
            obtain ⟨y, hy, rfl, rfl, hby⟩ := hrel
            have ho := HO.out q p y
            have ho1 : -2251799813685248 ≤ outS F l q p y := by omega
            have ho2 : outS F l q p y ≤ 2251799813685248 := by omega
            clear ho
            by_cases hy8 : y < 8
            · have y1 : (y : Int) < 8 := by omega
              go_wp2_with fail
              go_loopw [6, 8] (fun s6 s8 wr => ∃ (n : Nat), n ≤ 8 ∧ s6 = .int .i64 (outS F l q p y + innS F l q p y n) ∧ s8 = .int .i64 (n : Int) ∧ Below w1.heap.size w1 wr) (fun _ s8 _ => 8 - (intOf s8).toNat)
              case atStart => exact ⟨0, by omega, by simp [innS], rfl, hby⟩
              case round =>
                clear hby
                obtain ⟨n, hn, rfl, rfl, hb1⟩ := hrel
                have hi := HI.out q p y n
                have hi1 : -281474976710656 ≤ innS F l q p y n := by omega
                have hi2 : innS F l q p y n ≤ 281474976710656 := by omega
                clear hi
                by_cases hn8 : n < 8
                · have n1 : (n : Int) < 8 := by omega
                  have hp1 := HP.out (8 * y + n) q n
                  have hp2 := mul_bd2 hp1 (HB.out p y) (by decide) (by decide)
                  have x1 : -1073741824 ≤ nth l (8 * y + n) * F q n := by omega
                  have x2 : nth l (8 * y + n) * F q n ≤ 1073741824 := by omega
                  have x3 : -35184372088832 ≤ nth l (8 * y + n) * F q n * F p y := by omega
                  have x4 : nth l (8 * y + n) * F q n * F p y ≤ 35184372088832 := by omega
                  clear hp1 hp2
                  have hlw : w.heap.size < wr.heap.size := by have := hb1.size; omega
                  have h0 := (hb1.block _ (show w.heap.size < _ by omega)).trans H0.out
                  have kb : ∀ p : Bel wr.heap.size wr.drew, p.w'.cell? ⟨w.heap.size, 8 * y + n, none⟩ = some (.int .i64 (nth l (8 * y + n))) := fun p => (p.h.cell (p := ⟨w.heap.size, 8 * y + n, none⟩) hlw).trans (blk_cell h0 (8 * y + n) (by rw [HL.out]; omega))
                  clear h0
                  have C9 := Lib.hid (fun W => HC.out q n W hq8 hn8)
                  have C13 := Lib.hid (fun W => HC.out p y W hp8 hy8)
                  go_wp2_with fail
                  refine Tin.reg_begin wr.heap.size 17 (by rfl) (by kernel_rfl) ?_
                  refine Tin.reg_quiets [0, 1, 2, 3, 4, 5, 6, 7, 8, 11, 12] _ 6 rfl (by simp only [Tin.pick, List.map_cons, List.map_nil, Array.getD_eq_getD_getElem?, List.getElem?_toArray, List.getElem?_cons_zero, List.getElem?_cons_succ, Option.getD_some]; rfl) (by kernel_rfl) (by kernel_rfl) ?_
                  repeat (first | go_big_quiet_step (fail))
                  refine wpQuiet_nil ?_
                  clear kb
                  refine Tin.reg_one 9 _ rfl (by kernel_rfl) ?_
                  try simp only [List.getElem_toArray, List.getElem_cons_succ, List.getElem_cons_zero]
                  go_wp2_with fail
                  refine Calls.mono (C9.out wr.drew) ?_
                  rintro e v9 ⟨rfl, hd9⟩
                  go_wp2_with fail
                  have hw9 : Below wr.heap.size wr v9 := ⟨hd9.os, hd9.tape, hd9.output, hd9.size, hd9.block⟩
                  have hs9 := hw9.size
                  refine ⟨wr.heap.size, hd9, Nat.le_refl _, ?_⟩
                  refine Tin.reg_quiets [10] _ 4 rfl (by simp only [Tin.pick, List.map_cons, List.map_nil, Array.getD_eq_getD_getElem?, List.getElem?_toArray, List.getElem?_cons_zero, List.getElem?_cons_succ, Option.getD_some]; rfl) (by kernel_rfl) (by kernel_rfl) ?_
                  repeat (first | go_big_quiet_step (fail))
                  refine wpQuiet_nil ?_
                  refine Tin.reg_one 13 _ rfl (by kernel_rfl) ?_
                  try simp only [List.getElem_toArray, List.getElem_cons_succ, List.getElem_cons_zero]
                  go_wp2_with fail
                  refine Calls.mono (C13.out v9) ?_
                  rintro e v13 ⟨rfl, hd13⟩
                  go_wp2_with fail
                  have hw13 := bt hw9 hd13
                  refine ⟨wr.heap.size, hd13.mono hs9, Nat.le_refl _, ?_⟩
                  refine Tin.reg_quiets [14, 15, 16] _ 0 rfl (by simp only [Tin.pick, List.map_cons, List.map_nil, Array.getD_eq_getD_getElem?, List.getElem?_toArray, List.getElem?_cons_zero, List.getElem?_cons_succ, Option.getD_some]; rfl) (by kernel_rfl) (by kernel_rfl) ?_
                  repeat (first | go_big_quiet_step (fail))
                  refine wpQuiet_nil ?_
                  refine Tin.reg_done (by kernel_rfl) ?_
                  go_wp2_with fail
                  go_roundw
                  case rel => exact ⟨n + 1, by omega, by rw [innS, ← Int.add_assoc], by go_num, bt hb1 hw13⟩
                  case measure => simp [intOf]; omega
                · obtain rfl : n = 8 := by omega
                  go_wp2_with fail
                  go_roundw
                  case rel => exact ⟨y + 1, by omega, by rw [outS], by go_num, hb1⟩
                  case measure => simp [intOf]; omega
            · obtain rfl : y = 8 := by omega
              have f2 := (hby.block _ (show w.heap.size + 1 + 1 < _ by omega)).trans H2.out
              have c2 := row_cell f2 (8 * p + q) (arr_get (8 * p + q) (by rw [tell_len]; omega))
              have c3 := frozen_of_row wr _ (8 * p + q) _ _ f2
              have hset : (wr.setCell ⟨w.heap.size + 1 + 1, 8 * p + q, none⟩ (.int .i64 (rnd (outS F l q p 8)))).heap[w.heap.size + 1 + 1]? = some (.cells (arr .i64 (tell 64 (refF F l) (8 * p + (q + 1)))) 26 (0, 0)) := by
                rw [blk_set f2, show rnd (outS F l q p 8) = refF F l (8 * p + q) by unfold refF; rw [show (8 * p + q) % 8 = q by omega, show (8 * p + q) / 8 = p by omega], tell_set _ _ _ (by omega)]
                rfl
              have HSet := Lib.hid hset
              have h0 := Lib.hid ((hby.block _ (show w.heap.size < _ by omega)).trans H0.out)
              have h1 := Lib.hid ((hby.block _ (show w.heap.size + 1 < _ by omega)).trans H1.out)
              have hbw := bt hB hby
              have hzw := Nat.le_trans hz hby.size
              have hrd := Lib.hid (rounded_any (outS F l q p 8) (by omega) (by omega) wr)
              clear f2 hset
              go_wp2_with fail
              refine Calls.mono hrd.out ?_
              rintro e w' ⟨rfl, rfl⟩
              go_wp2_with fail
              go_roundw
              case rel => exact ⟨q + 1, by omega, by go_num, by rw [heap_setCell_other _ _ _ _ (by show w.heap.size ≠ w.heap.size + 1 + 1; omega)]; exact h0.out, by rw [heap_setCell_other _ _ _ _ (by show w.heap.size + 1 ≠ w.heap.size + 1 + 1; omega)]; exact h1.out, HSet.out, hbw.setCell (by show w.heap.size ≤ w.heap.size + 1 + 1; omega) _, by simp [World.setCell]; omega⟩
              case measure => simp [intOf]; omega
        · obtain rfl : q = 8 := by omega
          go_wp2_with fail
          go_roundw
          case rel => exact ⟨p + 1, by omega, by go_num, H0.out, H1.out, by rw [Nat.mul_succ]; exact H2.out, hB, hz⟩
          case measure => simp [intOf]; omega
    · obtain rfl : p = 8 := by omega
      go_wp2_with (first | ((with_reducible refine wpl_load_row rt26 ?_ (.tmp 3) rfl (w.heap.size + 1 + 1) rfl 26 _ ?_ H2.out ?_); rfl; simp; simp only [Act.put, List.setIfInBounds_toArray, List.set_cons_succ, List.set_cons_zero]) | ((with_reducible refine wpl_store_row rt26 rfl (.tmp 2) (.tmp 48) rfl (w.heap.size + 1) rfl _ rfl arr_one 26 ?_ _ ?_ H1.out ?_); simp; simp; intro w5 hr5 hg5 hs5))
      exact bodyPost_ret (res_row rt26 rfl _ _ (w.heap.size + 1) 26 _ rfl (by simp) hr5) rfl ⟨by rw [show tell 64 (refF F l) (8 * 8) = full 64 (refF F l) from tell_all 64 _], hB.grown hg5 hB.size (fun k hk => by cases hk; omega)⟩
end Go.Proofs.Ytmfipjpmfigjaaa
