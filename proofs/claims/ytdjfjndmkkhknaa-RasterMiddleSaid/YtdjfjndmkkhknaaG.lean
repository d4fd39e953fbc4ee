/- The walk of mean. -/
import Derived.Test.YtdjfjndmkkhknaaF
namespace Go.Proofs.Ytdjfjndmkkhknaa
open Go.RowKit
open Go.Tin
set_option linter.unusedVariables false
set_option linter.unusedSimpArgs false

theorem rt46 : RT Try.prog 46 3 := RT.of Try.underlying46 rfl (by kernel_rfl)
set_option maxRecDepth 100000 in
set_option maxHeartbeats 2000000 in
theorem mean_any (W H : Int) (x0 m y0 k : Nat) (A : Option Addr) (l : List Int) (c : Nat) (w : World) (hsl : Sl .u8 w A l) (hlc : l.length ≤ c) (hby : Byts l) (hm : mayB W H l.length = true) (hm0 : 0 < m) (hk0 : 0 < k) (hx : ((x0 : Int) + (m : Int)) ≤ W) (hy : ((y0 : Int) + (k : Int)) ≤ H) :
    Calls Try.prog 28 #[.agg #[.int .i64 W, .int .i64 H, .slice A l.length c], .int .i64 (x0 : Int), .int .i64 ((x0 : Int) + (m : Int)), .int .i64 (y0 : Int), .int .i64 ((y0 : Int) + (k : Int))] w fun e w' => e = .returned (.agg (arr .u8 (meanL l W x0 m y0 k))) ∧ Below w.heap.size w w' := by
  obtain ⟨hW, hH, hn⟩ := mayB_t hm
  have hcall : ∀ (Wd : World) (j i : Nat), Below w.heap.size w Wd → j < k → i < m → Calls Try.prog 24 #[.agg #[.int .i64 W, .int .i64 H, .slice A l.length c], .int .i64 ((x0 : Int) + (i : Int)), .int .i64 ((y0 : Int) + (j : Int))] Wd fun e w' => e = .returned (.agg (arr .u8 (col l (pp W (x0 + i) (y0 + j))))) ∧ Below Wd.heap.size Wd w' :=
    fun Wd j i hb hj hi => by
      have h := at_any W H ((x0 + i : Nat) : Int) ((y0 + j : Nat) : Int) A l c Wd (hsl.keep hb) hlc hW hH hn ⟨by omega, by omega⟩ ⟨by omega, by omega⟩
      exact h
  have HC := Lib.hid hcall
  have hm1 : m ≤ 4096 := by omega
  have hk1 : k ≤ 4096 := by omega
  have hx1 : x0 + m ≤ 4096 := by omega
  have hy1 : y0 + k ≤ 4096 := by omega
  have HB := Lib.hid hby
  clear hcall hn hm hsl hW hH hx hy hby
  go_enter Try.func28, Try.ntmps28
  go_wp2_with fail
  generalize hW0 : ((w.alloc _).alloc _).alloc _ = W0 at *
  have a0 : W0.heap[w.heap.size]? = some (.cells #[.int .i64 W, .int .i64 H, .slice A l.length c] 46 (0, 0)) := by
    rw [← hW0, Below.heap_alloc _ _ _ (by simp; omega), Below.heap_alloc _ _ _ (by simp)]
    exact heap_alloc_new w _
  have r0 : W0.heap[w.heap.size + 1]? = some (.cells (arr .u8 [0, 0, 0]) 27 (0, 0)) := by
    rw [← hW0, Below.heap_alloc _ _ _ (by simp)]
    exact heap_alloc2_new w _ _
  have s0 : W0.heap[w.heap.size + 1 + 1]? = some (.cells (arr .i64 (sums l W x0 m y0 0 0 0)) 52 (0, 0)) := by
    rw [← hW0, sums_zero]
    have h := fun X Y Z => heap_alloc_new ((w.alloc X).alloc Y) Z
    simp only [World.size_alloc] at h
    exact h _ _ _
  have b0 : Below w.heap.size w W0 := by rw [← hW0]; exact ba (ba (ba (brefl w) _) _) _
  have z0 : w.heap.size + 3 ≤ W0.heap.size := by rw [← hW0]; simp
  clear hW0
  go_loopw [12] (fun s12 wr => ∃ j : Nat, j ≤ k ∧ s12 = .int .i64 ((y0 : Int) + (j : Int)) ∧ wr.heap[w.heap.size]? = some (.cells #[.int .i64 W, .int .i64 H, .slice A l.length c] 46 (0, 0)) ∧ wr.heap[w.heap.size + 1]? = some (.cells (arr .u8 [0, 0, 0]) 27 (0, 0)) ∧ wr.heap[w.heap.size + 1 + 1]? = some (.cells (arr .i64 (sums l W x0 m y0 j 0 0)) 52 (0, 0)) ∧ Below w.heap.size w wr ∧ w.heap.size + 3 ≤ wr.heap.size) (fun s12 _ => y0 + k - (intOf s12).toNat)
  case atStart => exact ⟨0, by omega, rfl, a0, r0, s0, b0, z0⟩
  case round =>
    clear a0 r0 s0 b0 z0
    obtain ⟨j, hj, rfl, ha, hr, hs, hb, hz⟩ := hrel
    have HA := Lib.hid ha
    have HR := Lib.hid hr
    have HS := Lib.hid hs
    clear ha hr hs
    by_cases hjk : j < k
    · have hj1 : ((y0 : Int) + (j : Int)) < ((y0 : Int) + (k : Int)) := by omega
      go_wp2_with fail
      go_loopw [13] (fun s13 wr => ∃ i : Nat, i ≤ m ∧ s13 = .int .i64 ((x0 : Int) + (i : Int)) ∧ wr.heap[w.heap.size]? = some (.cells #[.int .i64 W, .int .i64 H, .slice A l.length c] 46 (0, 0)) ∧ wr.heap[w.heap.size + 1]? = some (.cells (arr .u8 [0, 0, 0]) 27 (0, 0)) ∧ wr.heap[w.heap.size + 1 + 1]? = some (.cells (arr .i64 (sums l W x0 m y0 j i 0)) 52 (0, 0)) ∧ Below w.heap.size w wr ∧ w.heap.size + 3 ≤ wr.heap.size) (fun s13 _ => x0 + m - (intOf s13).toNat)
      case atStart => exact ⟨0, by omega, rfl, HA.out, HR.out, HS.out, hb, hz⟩
      case round =>
        clear HA HR HS hb hz
        obtain ⟨i, hi, rfl, ha, hr, hs, hb, hz⟩ := hrel
        by_cases him : i < m
        · have hi1 : ((x0 : Int) + (i : Int)) < ((x0 : Int) + (m : Int)) := by omega
          have HA := Lib.hid ha
          have HR := Lib.hid hr
          have HS := Lib.hid hs
          clear hr hs
          have k0 := row_cell ha 0 rfl
          have k1 := row_cell ha 1 rfl
          have k2 := row_cell ha 2 rfl
          clear ha
          go_wp2_with fail
          refine (HC.out wr j i hb hjk him).mono ?_
          rintro e w1 ⟨rfl, hb1⟩
          have HA1 := Lib.hid ((hb1.block _ (show w.heap.size < _ by omega)).trans HA.out)
          have HR1 := Lib.hid ((hb1.block _ (show w.heap.size + 1 < _ by omega)).trans HR.out)
          have HS1 := Lib.hid ((hb1.block _ (show w.heap.size + 1 + 1 < _ by omega)).trans HS.out)
          have hbb := bt hb hb1
          have hzz : w.heap.size + 3 ≤ w1.heap.size := Nat.le_trans hz hb1.size
          clear k0 k1 k2 HA HR HS
          go_wp2_with fail
          go_loopw [35] (fun s35 wr => ∃ t : Nat, t ≤ 3 ∧ s35 = .int .i64 (t : Int) ∧ wr.heap[w.heap.size]? = some (.cells #[.int .i64 W, .int .i64 H, .slice A l.length c] 46 (0, 0)) ∧ wr.heap[w.heap.size + 1]? = some (.cells (arr .u8 [0, 0, 0]) 27 (0, 0)) ∧ wr.heap[w.heap.size + 1 + 1]? = some (.cells (arr .i64 (sums l W x0 m y0 j i t)) 52 (0, 0)) ∧ Below w.heap.size w wr ∧ w.heap.size + 3 ≤ wr.heap.size) (fun s35 _ => 3 - (intOf s35).toNat)
          case atStart => exact ⟨0, by omega, rfl, HA1.out, HR1.out, HS1.out, hbb, hzz⟩
          case round =>
            clear HA1 HR1 HS1 hbb hzz hb hz hb1
            obtain ⟨t, ht, rfl, ha, hr, hs, hb, hz⟩ := hrel
            have HA := Lib.hid ha
            have HR := Lib.hid hr
            clear ha hr
            by_cases ht3 : t < 3
            · have ht1 : (t : Int) < 3 := by omega
              have ht0 : (0 : Int) ≤ (t : Int) := by omega
              have hix := fun Wd => idx_run at27 (col_len l (pp W (x0 + i) (y0 + j))) .i64 t ht3 Wd
              have hct : nth (col l (pp W (x0 + i) (y0 + j))) t = nth l (pp W (x0 + i) (y0 + j) + t) := by
                rcases (by omega : t = 0 ∨ t = 1 ∨ t = 2) with rfl | rfl | rfl <;> rfl
              rw [hct] at hix
              have c1 := blk_cell hs t (by rw [sums_len]; exact ht3)
              have c3 := frozen_of_row wr _ t _ _ hs
              have hset : (wr.setCell ⟨w.heap.size + 1 + 1, t, none⟩ (.int .i64 (nth (sums l W x0 m y0 j i t) t + nth l (pp W (x0 + i) (y0 + j) + t)))).heap[w.heap.size + 1 + 1]? = some (.cells (arr .i64 (sums l W x0 m y0 j i (t + 1))) 52 (0, 0)) := by rw [blk_set hs, sums_set _ _ _ _ _ _ _ _ ht3]
              have HSet := Lib.hid hset
              have sb := sums_bd l HB.out W x0 m y0 j i t t ht3 hm1 (by omega) (by omega)
              have nb := HB.out (pp W (x0 + i) (y0 + j) + t)
              obtain ⟨sb0, sb1⟩ := sb
              obtain ⟨nb0, nb1⟩ := nb
              clear hs hset hct
              generalize nth (sums l W x0 m y0 j i t) t = sv at *
              generalize nth l (pp W (x0 + i) (y0 + j) + t) = nv at *
              generalize col l (pp W (x0 + i) (y0 + j)) = cv at *
              go_wp2_with fail
              go_roundw
              case rel => exact ⟨t + 1, by omega, by go_num, by rw [heap_setCell_other _ _ _ _ (by show w.heap.size ≠ w.heap.size + 1 + 1; omega)]; exact HA.out, by rw [heap_setCell_other _ _ _ _ (by show w.heap.size + 1 ≠ w.heap.size + 1 + 1; omega)]; exact HR.out, HSet.out, hb.setCell (by show w.heap.size ≤ w.heap.size + 1 + 1; omega) _, by simp [World.setCell]; omega⟩
              case measure => simp [intOf]; omega
            · have ht1 : (3 : Int) ≤ (t : Int) := by omega
              obtain rfl : t = 3 := by omega
              rw [sums_next] at hs
              have HS := Lib.hid hs
              clear hs
              go_wp2_with fail
              go_roundw
              case rel => exact ⟨i + 1, by omega, by go_num, HA.out, HR.out, HS.out, hb, hz⟩
              case measure => simp [intOf]; omega
        · have hi1 : ((x0 : Int) + (m : Int)) ≤ ((x0 : Int) + (i : Int)) := by omega
          obtain rfl : i = m := by omega
          rw [sums_row] at hs
          have HA := Lib.hid ha
          have HR := Lib.hid hr
          have HS := Lib.hid hs
          clear ha hr hs
          go_wp2_with fail
          go_roundw
          case rel => exact ⟨j + 1, by omega, by go_num, HA.out, HR.out, HS.out, hb, hz⟩
          case measure => simp [intOf]; omega
    · have hj1 : ((y0 : Int) + (k : Int)) ≤ ((y0 : Int) + (j : Int)) := by omega
      obtain rfl : j = k := by omega
      have e1 : (x0 : Int) + (m : Int) - (x0 : Int) = (m : Int) := by omega
      have e2 : (y0 : Int) + (j : Int) - (y0 : Int) = (j : Int) := by omega
      obtain ⟨q0, q1⟩ := mk_bd m j hm0 hk0 hm1 hk1
      go_wp2_with ((with_reducible refine wpl_load_arr at52 rfl (.tmp 11) rfl (w.heap.size + 1 + 1) rfl 52 (sums_len l W x0 m y0 j 0 0) HS.out ?_); simp only [Act.put, List.setIfInBounds_toArray, List.set_cons_succ, List.set_cons_zero])
      go_loopw [55] (fun s55 wr => ∃ t : Nat, t ≤ 3 ∧ s55 = .int .i64 (t : Int) ∧ wr.heap[w.heap.size + 1]? = some (.cells (arr .u8 (tell 3 (meanF l W x0 m y0 j) t)) 27 (0, 0)) ∧ Below w.heap.size w wr) (fun s55 _ => 3 - (intOf s55).toNat)
      case atStart => exact ⟨0, by omega, rfl, by rw [tell_zero]; exact HR.out, hb⟩
      case round =>
        clear HR HS HA hb hz
        obtain ⟨t, ht, rfl, hr, hb⟩ := hrel
        by_cases ht3 : t < 3
        · have ht1 : (t : Int) < 3 := by omega
          have ht0 : (0 : Int) ≤ (t : Int) := by omega
          have hix := fun Wd => idx_run at52 (sums_len l W x0 m y0 j 0 0) .i64 t ht3 Wd
          rw [sums_mean l W x0 m y0 j t ht3] at hix
          have c1 := blk_cell hr t (by rw [tell_len]; exact ht3)
          have c3 := frozen_of_row wr _ t _ _ hr
          have mb := meanF_bd l HB.out W x0 m y0 j t hm0 hk0
          have hset : (wr.setCell ⟨w.heap.size + 1, t, none⟩ (.int .u8 (meanF l W x0 m y0 j t))).heap[w.heap.size + 1]? = some (.cells (arr .u8 (tell 3 (meanF l W x0 m y0 j) (t + 1))) 27 (0, 0)) := by rw [blk_set hr, tell_set _ _ _ ht3]
          rw [meanF_eq] at hset mb
          have HSet := Lib.hid hset
          have sb := bsum_bd l HB.out W t x0 m y0 j
          have s1 : bsum l W t x0 m y0 j ≤ 10000000000 := by
            have : ((m * j : Nat) : Int) ≤ 16777216 := by rw [Int.natCast_mul]; exact q1
            omega
          have s0 := sb.1
          obtain ⟨mb0, mb1⟩ := mb
          clear hr hset sb e1 e2
          generalize bsum l W t x0 m y0 j = sv at *
          go_wp2_with fail
          go_roundw
          case rel => exact ⟨t + 1, by omega, by go_num, HSet.out, hb.setCell (by show w.heap.size ≤ w.heap.size + 1; omega) _⟩
          case measure => simp [intOf]; omega
        · have ht1 : (3 : Int) ≤ (t : Int) := by omega
          obtain rfl : t = 3 := by omega
          rw [tell_all] at hr
          have hr' : wr.heap[w.heap.size + 1]? = some (.cells (arr .u8 (meanL l W x0 m y0 j)) 27 (0, 0)) := hr
          have HR := Lib.hid hr'
          clear hr hr'
          have ML : (meanL l W x0 m y0 j).length = 3 := by simp [meanL]
          go_wp2_with (first | ((with_reducible refine wpl_load_arr at27 rfl (.tmp 10) rfl (w.heap.size + 1) rfl 27 ML HR.out ?_); simp only [Act.put, List.setIfInBounds_toArray, List.set_cons_succ, List.set_cons_zero]) | ((with_reducible refine wpl_store_arr at27 rfl (.tmp 10) (.tmp 70) rfl (w.heap.size + 1) rfl rfl 27 ML _ (by rw [arr_size]; exact ML) HR.out ?_); intro w5 hr5 hg5 hs5; simp only [Act.put]))
          exact bodyPost_ret (res_arr at27 rfl _ _ (w.heap.size + 1) 27 rfl ML hr5) rfl ⟨rfl, hb.grown hg5 hb.size (fun k hk => by cases hk; omega)⟩
end Go.Proofs.Ytdjfjndmkkhknaa
