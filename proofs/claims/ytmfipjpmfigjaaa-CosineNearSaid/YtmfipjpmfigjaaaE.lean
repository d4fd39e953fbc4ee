/- The contracts of the functions that read the grid, and of rows. -/
import Derived.Test.YtmfipjpmfigjaaaD
namespace Go.Proofs.Ytmfipjpmfigjaaa
open Go.RowKit
open Go.Tin
set_option linter.unusedVariables false
set_option linter.unusedSimpArgs false

set_option maxRecDepth 100000 in
set_option maxHeartbeats 2000000 in
theorem fwd1_any (a b g : Nat) (ha : a < 8) (hb : b < 8) (w : World) (hg : w.heap[g]? = some (.cells (arr .i64 gridL) 42 (0, 0))) :
    Calls Try.prog 22 (#[] ++ (#[.int .i64 (a : Int), .int .i64 (b : Int)] ++ #[.pointer (some ⟨g, 0, none⟩)])) w fun e w' => e = .returned (.int .i64 (facN a b)) ∧ Below w.heap.size w w' := by
  have a1 : (a : Int) < 8 := by omega
  have b1 : (b : Int) < 8 := by omega
  have c2 := row_cell hg (a * 8 + b) (arr_get (a * 8 + b) (by show _ < (full 64 gridF).length; rw [full_len]; omega))
  have hv : nth gridL (a * 8 + b) = facN a b := by
    show nth (full 64 gridF) _ = _
    rw [nth_full _ _ _ (by omega)]
    unfold gridF
    rw [show (a * 8 + b) / 8 = a by omega, show (a * 8 + b) % 8 = b by omega]
  rw [hv] at c2
  clear hv hg
  go_enter Try.func22, Try.ntmps22
  go_wp2_with fail
  go_ret
  exact ⟨rfl, brefl w⟩

set_option maxRecDepth 100000 in
set_option maxHeartbeats 2000000 in
theorem inv1_any (a b g : Nat) (ha : a < 8) (hb : b < 8) (w : World) (hg : w.heap[g]? = some (.cells (arr .i64 gridL) 42 (0, 0))) :
    Calls Try.prog 23 (#[] ++ (#[.int .i64 (a : Int), .int .i64 (b : Int)] ++ #[.pointer (some ⟨g, 0, none⟩)])) w fun e w' => e = .returned (.int .i64 (facN b a)) ∧ Below w.heap.size w w' := by
  have a1 : (a : Int) < 8 := by omega
  have b1 : (b : Int) < 8 := by omega
  have c2 := row_cell hg (b * 8 + a) (arr_get (b * 8 + a) (by show _ < (full 64 gridF).length; rw [full_len]; omega))
  have hv : nth gridL (b * 8 + a) = facN b a := by
    show nth (full 64 gridF) _ = _
    rw [nth_full _ _ _ (by omega)]
    unfold gridF
    rw [show (b * 8 + a) / 8 = b by omega, show (b * 8 + a) % 8 = a by omega]
  rw [hv] at c2
  clear hv hg
  go_enter Try.func23, Try.ntmps23
  go_wp2_with fail
  go_ret
  exact ⟨rfl, brefl w⟩

/-- Three blocks made one behind the other. -/
theorem three (w : World) (o0 o1 o2 : Obj) : (((w.alloc o0).alloc o1).alloc o2).heap[w.heap.size]? = some o0 ∧ (((w.alloc o0).alloc o1).alloc o2).heap[w.heap.size + 1]? = some o1 ∧
    (((w.alloc o0).alloc o1).alloc o2).heap[w.heap.size + 1 + 1]? = some o2 := by
  refine ⟨?_, ?_, ?_⟩
  · rw [Below.heap_alloc _ _ _ (by simp <;> omega), Below.heap_alloc _ _ _ (by simp)]
    exact heap_alloc_new w o0
  · rw [Below.heap_alloc _ _ _ (by simp)]
    exact heap_alloc2_new w o0 o1
  · have h := heap_alloc_new ((w.alloc o0).alloc o1) o2
    simp only [World.size_alloc] at h
    exact h

theorem rt25 : RT Try.prog 25 64 := RT.of Try.underlying25 rfl (by kernel_rfl)
theorem rt26 : RT Try.prog 26 64 := RT.of Try.underlying26 rfl (by kernel_rfl)
/-- The sum of so many products of a row. -/
def dot (F : Nat → Nat → Int) (l : List Int) (row to : Nat) : Nat → Int
  | 0 => 0
  | n + 1 => dot F l row to n + nth l (8 * row + n) * F to n
def rowsL (F : Nat → Nat → Int) (l : List Int) : List Int := full 64 fun i => dot F l (i % 8) (i / 8) 8
/-- So much of it: all of the rows below, and so many of the next one. -/
def partL (F : Nat → Nat → Int) (l : List Int) (row to : Nat) : List Int := full 64 fun i => if i % 8 < row ∨ (i % 8 = row ∧ i / 8 < to) then dot F l (i % 8) (i / 8) 8 else 0
theorem partL_len (F : Nat → Nat → Int) (l : List Int) (row to : Nat) : (partL F l row to).length = 64 := by simp [partL]
theorem partL_zero (F : Nat → Nat → Int) (l : List Int) : partL F l 0 0 = List.replicate 64 0 := by
  rw [← tell_zero 64 (fun _ => 0)]
  exact full_congr _ _ _ fun i hi => by simp
theorem partL_row (F : Nat → Nat → Int) (l : List Int) (row : Nat) : partL F l row 8 = partL F l (row + 1) 0 :=
  full_congr _ _ _ fun i hi => by
    have h8 : i / 8 < 8 := by omega
    by_cases h1 : i % 8 < row
    · rw [if_pos (.inl h1), if_pos (.inl (by omega))]
    · by_cases h2 : i % 8 = row
      · rw [if_pos (.inr ⟨h2, h8⟩), if_pos (.inl (by omega))]
      · rw [if_neg (by omega), if_neg (by omega)]
theorem partL_all (F : Nat → Nat → Int) (l : List Int) : partL F l 8 0 = rowsL F l :=
  full_congr _ _ _ fun i hi => by rw [if_pos (.inl (by omega))]
theorem partL_set (F : Nat → Nat → Int) (l : List Int) (row to : Nat) (hr : row < 8) (ht : to < 8) : (partL F l row to).set (8 * to + row) (dot F l row to 8) = partL F l row (to + 1) := by
  unfold partL
  apply List.ext_getElem
  · simp [full]
  · intro q h1 h2
    rw [List.getElem_set]
    simp only [full, List.getElem_map, List.getElem_range]
    by_cases hq : 8 * to + row = q
    · have e1 : q % 8 = row := by omega
      have e2 : q / 8 = to := by omega
      rw [if_pos hq, if_pos (.inr ⟨e1, by omega⟩), e1, e2]
    · rw [if_neg hq]
      by_cases h : q % 8 < row ∨ (q % 8 = row ∧ q / 8 < to)
      · rw [if_pos h, if_pos (by omega)]
      · rw [if_neg h, if_neg (by omega)]
theorem dot_bd (F : Nat → Nat → Int) (l : List Int) (K : Int) (row to : Nat) (hK : ∀ i a b, - K ≤ nth l i * F a b ∧ nth l i * F a b ≤ K) : ∀ n : Nat, - ((n : Int) * K) ≤ dot F l row to n ∧ dot F l row to n ≤ (n : Int) * K
  | 0 => by simp [dot]
  | n + 1 => by
    have h := dot_bd F l K row to hK n
    have h2 := hK (8 * row + n) to n
    rw [dot, show ((n + 1 : Nat) : Int) = (n : Int) + 1 from rfl, Int.add_mul, Int.one_mul]
    omega

set_option maxRecDepth 100000 in
set_option maxHeartbeats 4000000 in
theorem rows_any (F : Nat → Nat → Int) (l : List Int) (hl : l.length = 64) (K : Int) (hK : ∀ i a b, - K ≤ nth l i * F a b ∧ nth l i * F a b ≤ K) (hK0 : 0 ≤ K) (hK1 : K ≤ 562949953421312)
    (hb : ∀ a b, - 32768 ≤ F a b ∧ F a b ≤ 32768) (f : FuncId) (first cap : Array Value) (w : World)
    (hcf : ∀ (vs : Array Value) (W : World), (callFunc f vs).run Try.prog W = .ok (.enter f vs) W)
    (hcall : ∀ (W : World) (a b : Nat), Below w.heap.size w W → a < 8 → b < 8 → Calls Try.prog f (first ++ (#[.int .i64 (a : Int), .int .i64 (b : Int)] ++ cap)) W fun e w' => e = .returned (.int .i64 (F a b)) ∧ Below W.heap.size W w') :
    Calls Try.prog 27 #[.agg (arr .i64 l), .func (.func f) first cap] w fun e w' => e = .returned (.agg (arr .i64 (rowsL F l))) ∧ Below w.heap.size w w' := by
  have HC := Lib.hid hcall
  have HK := Lib.hid hK
  have HL := Lib.hid hl
  have HF := Lib.hid hb
  have HD := Lib.hid (fun row to n => dot_bd F l K row to hK n)
  clear hcall hK hl hb
  go_enter Try.func27, Try.ntmps27
  go_wp2_with fail
  obtain ⟨f0, f1, f2⟩ := three w (.cells (arr .i64 l) 25) (.cells (Array.replicate 64 (.int .i64 0)) 25) (.cells (Array.replicate 64 (.int .i64 0)) 25)
  have hB0 := ba (ba (ba (brefl w) (.cells (arr .i64 l) 25)) (.cells (Array.replicate 64 (.int .i64 0)) 25)) (.cells (Array.replicate 64 (.int .i64 0)) 25)
  have hz0 : (((w.alloc (.cells (arr .i64 l) 25)).alloc (.cells (Array.replicate 64 (.int .i64 0)) 25)).alloc (.cells (Array.replicate 64 (.int .i64 0)) 25)).heap.size = w.heap.size + 3 := by simp
  rw [← arr_rep] at f1 f2
  generalize hW0 : ((w.alloc _).alloc _).alloc _ = W0
  replace f0 : W0.heap[w.heap.size]? = some (.cells (arr .i64 l) 25 (0, 0)) := by rw [← hW0]; exact f0
  replace f1 : W0.heap[w.heap.size + 1]? = some (.cells (arr .i64 (List.replicate 64 0)) 25 (0, 0)) := by rw [← hW0]; exact f1
  replace f2 : W0.heap[w.heap.size + 1 + 1]? = some (.cells (arr .i64 (partL F l 0 0)) 25 (0, 0)) := by rw [← hW0, partL_zero]; exact f2
  replace hB0 : Below w.heap.size w W0 := by rw [← hW0]; exact hB0
  replace hz0 : w.heap.size + 3 ≤ W0.heap.size := by rw [← hW0]; exact Nat.le_of_eq hz0.symm
  clear hW0
  go_loopw [10] (fun s10 wr => ∃ (row : Nat), row ≤ 8 ∧ s10 = .int .i64 (row : Int) ∧ wr.heap[w.heap.size]? = some (.cells (arr .i64 l) 25 (0, 0)) ∧ wr.heap[w.heap.size + 1]? = some (.cells (arr .i64 (List.replicate 64 0)) 25 (0, 0)) ∧ wr.heap[w.heap.size + 1 + 1]? = some (.cells (arr .i64 (partL F l row 0)) 25 (0, 0)) ∧ Below w.heap.size w wr ∧ w.heap.size + 3 ≤ wr.heap.size) (fun s10 _ => 8 - (intOf s10).toNat)
  case atStart => exact ⟨0, by omega, rfl, f0, f1, f2, hB0, hz0⟩
  case round =>
    clear f0 f1 f2 hB0 hz0
    obtain ⟨row, hrow, rfl, f0, f1, f2, hB, hz⟩ := hrel
    have H0 := Lib.hid f0
    have H1 := Lib.hid f1
    have H2 := Lib.hid f2
    clear f0 f1 f2
    by_cases hr8 : row < 8
    · have r1 : (row : Int) < 8 := by omega
      go_wp2_with fail
      go_loopw [13] (fun s13 wr => ∃ (to : Nat), to ≤ 8 ∧ s13 = .int .i64 (to : Int) ∧ wr.heap[w.heap.size]? = some (.cells (arr .i64 l) 25 (0, 0)) ∧ wr.heap[w.heap.size + 1]? = some (.cells (arr .i64 (List.replicate 64 0)) 25 (0, 0)) ∧ wr.heap[w.heap.size + 1 + 1]? = some (.cells (arr .i64 (partL F l row to)) 25 (0, 0)) ∧ Below w.heap.size w wr ∧ w.heap.size + 3 ≤ wr.heap.size) (fun s13 _ => 8 - (intOf s13).toNat)
      case atStart => exact ⟨0, by omega, rfl, H0.out, H1.out, H2.out, hB, hz⟩
      case round =>
        clear H0 H1 H2 hB hz
        obtain ⟨to, hto, rfl, f0, f1, f2, hB, hz⟩ := hrel
        have H0 := Lib.hid f0
        have H1 := Lib.hid f1
        have H2 := Lib.hid f2
        clear f0 f1 f2
        by_cases ht8 : to < 8
        · have t1 : (to : Int) < 8 := by omega
          go_wp2_with fail
          have hrr := brefl wr
          obtain ⟨w1, rfl⟩ : ∃ w1, w1 = wr := ⟨wr, rfl⟩
          go_loopw [8, 16] (fun s8 s16 wr => ∃ (n : Nat), n ≤ 8 ∧ s8 = .int .i64 (dot F l row to n) ∧ s16 = .int .i64 (n : Int) ∧ Below w1.heap.size w1 wr) (fun _ s16 _ => 8 - (intOf s16).toNat)
          case atStart => exact ⟨0, by omega, rfl, rfl, hrr⟩
          case round =>
            clear hrr
            obtain ⟨n, hn, rfl, rfl, hb1⟩ := hrel
            have hd := HD.out row to n
            have hd1 : - 4503599627370496 ≤ dot F l row to n := by
              have : (n : Int) * K ≤ 8 * K := Int.mul_le_mul_of_nonneg_right (by omega) hK0
              omega
            have hd2 : dot F l row to n ≤ 4503599627370496 := by
              have : (n : Int) * K ≤ 8 * K := Int.mul_le_mul_of_nonneg_right (by omega) hK0
              omega
            clear hd
            by_cases hn8 : n < 8
            · have n1 : (n : Int) < 8 := by omega
              have hp := HK.out (8 * row + n) to n
              have hp1 : - 562949953421312 ≤ nth l (8 * row + n) * F to n := by omega
              have hp2 : nth l (8 * row + n) * F to n ≤ 562949953421312 := by omega
              clear hp
              have h0 := (hb1.block _ (show w.heap.size < _ by omega)).trans H0.out
              have hlw : w.heap.size < wr.heap.size := by have := hb1.size; omega
              have kb : ∀ p : Bel wr.heap.size wr.drew, p.w'.cell? ⟨w.heap.size, 8 * row + n, none⟩ = some (.int .i64 (nth l (8 * row + n))) := fun p => (p.h.cell (p := ⟨w.heap.size, 8 * row + n, none⟩) hlw).trans (blk_cell h0 (8 * row + n) (by rw [HL.out]; omega))
              clear h0
              have hbw := bt hB hb1
              have hc := HC.out wr.drew to n ⟨hbw.os, hbw.tape, hbw.output, hbw.size, hbw.block⟩ ht8 hn8
              have HC1 := Lib.hid hc
              clear hc
              go_wp2_with fail
              refine Tin.reg_begin wr.heap.size 14 (by rfl) (by kernel_rfl) ?_
              refine Tin.reg_quiets [0, 1, 2, 3, 4, 5, 6, 7, 8, 9] _ 4 rfl (by simp only [Tin.pick, List.map_cons, List.map_nil, Array.getD_eq_getD_getElem?, List.getElem?_toArray, List.getElem?_cons_zero, List.getElem?_cons_succ, Option.getD_some]; rfl) (by kernel_rfl) (by kernel_rfl) ?_
              repeat (first | go_big_quiet_step (fail))
              refine wpQuiet_nil ?_
              refine Tin.reg_one 10 _ rfl (by kernel_rfl) ?_
              try simp only [List.getElem_toArray, List.getElem_cons_succ, List.getElem_cons_zero]
              go_wp2_with fail
              refine Calls.mono HC1.out ?_
              rintro e w4 ⟨rfl, hb4⟩
              have hb4w : Below wr.heap.size wr w4 := ⟨hb4.os, hb4.tape, hb4.output, hb4.size, hb4.block⟩
              clear kb
              go_wp2_with fail
              refine ⟨wr.heap.size, hb4, Nat.le_refl _, ?_⟩
              refine Tin.reg_quiets [11, 12, 13] _ 0 rfl (by simp only [Tin.pick, List.map_cons, List.map_nil, Array.getD_eq_getD_getElem?, List.getElem?_toArray, List.getElem?_cons_zero, List.getElem?_cons_succ, Option.getD_some]; rfl) (by kernel_rfl) (by kernel_rfl) ?_
              repeat (first | go_big_quiet_step (fail))
              refine wpQuiet_nil ?_
              refine Tin.reg_done (by kernel_rfl) ?_
              go_wp2_with fail
              go_roundw
              case rel => exact ⟨n + 1, by omega, rfl, by go_num, bt hb1 hb4w⟩
              case measure => simp [intOf]; omega
            · obtain rfl : n = 8 := by omega
              have f2 := (hb1.block _ (show w.heap.size + 1 + 1 < _ by omega)).trans H2.out
              have c2 := row_cell f2 (8 * to + row) (arr_get (8 * to + row) (by rw [partL_len]; omega))
              have c3 := frozen_of_row wr _ (8 * to + row) _ _ f2
              have hset : (wr.setCell ⟨w.heap.size + 1 + 1, 8 * to + row, none⟩ (.int .i64 (dot F l row to 8))).heap[w.heap.size + 1 + 1]? = some (.cells (arr .i64 (partL F l row (to + 1))) 25 (0, 0)) := by rw [blk_set f2, partL_set _ _ _ _ hr8 ht8]
              have HSet := Lib.hid hset
              have h0 := Lib.hid ((hb1.block _ (show w.heap.size < _ by omega)).trans H0.out)
              have h1 := Lib.hid ((hb1.block _ (show w.heap.size + 1 < _ by omega)).trans H1.out)
              have hbw := bt hB hb1
              have hzw := Nat.le_trans hz hb1.size
              clear f2 hset
              go_wp2_with fail
              go_roundw
              case rel => exact ⟨to + 1, by omega, by go_num, by rw [heap_setCell_other _ _ _ _ (by show w.heap.size ≠ w.heap.size + 1 + 1; omega)]; exact h0.out, by rw [heap_setCell_other _ _ _ _ (by show w.heap.size + 1 ≠ w.heap.size + 1 + 1; omega)]; exact h1.out, HSet.out, hbw.setCell (by show w.heap.size ≤ w.heap.size + 1 + 1; omega) _, by simp [World.setCell]; omega⟩
              case measure => simp [intOf]; omega
        · obtain rfl : to = 8 := by omega
          go_wp2_with fail
          go_roundw
          case rel => exact ⟨row + 1, by omega, by go_num, H0.out, H1.out, by rw [← partL_row]; exact H2.out, hB, hz⟩
          case measure => simp [intOf]; omega
    · obtain rfl : row = 8 := by omega
      go_wp2_with (first | ((with_reducible refine wpl_load_row rt25 ?_ (.tmp 5) rfl (w.heap.size + 1 + 1) rfl 25 _ ?_ H2.out ?_); rfl; simp [partL_len]; simp only [Act.put, List.setIfInBounds_toArray, List.set_cons_succ, List.set_cons_zero]) | ((with_reducible refine wpl_store_row rt25 rfl (.tmp 4) (.tmp 41) rfl (w.heap.size + 1) rfl _ rfl arr_one 25 ?_ _ ?_ H1.out ?_); simp [partL_len]; simp; intro w5 hr5 hg5 hs5))
      exact bodyPost_ret (res_row rt25 rfl _ _ (w.heap.size + 1) 25 _ rfl (by simp [partL_len]) hr5) rfl ⟨by rw [partL_all], hB.grown hg5 hB.size (fun k hk => by cases hk; omega)⟩
end Go.Proofs.Ytmfipjpmfigjaaa
