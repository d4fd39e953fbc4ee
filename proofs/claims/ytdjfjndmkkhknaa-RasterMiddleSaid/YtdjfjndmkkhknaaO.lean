/- The contract of the reference's Box. -/
import Derived.Test.YtdjfjndmkkhknaaN
namespace Go.Proofs.Ytdjfjndmkkhknaa
open Go.RowKit
open Go.Tin
set_option linter.unusedVariables false
set_option linter.unusedSimpArgs false

theorem boxT_nth (l : List Int) (W H a b x y t : Nat) (ht : t < 3) : nth (boxT l W H a b x y) t = meanF l (W : Int) (bx x W a) (bw x W a) (bx y H b) (bw y H b) t := by unfold boxT meanL; rw [nth_full _ _ _ ht]

set_option maxRecDepth 100000 in
set_option maxHeartbeats 4000000 in
theorem rbox_any (W H a b : Nat) (A : Option Addr) (l : List Int) (c : Nat) (w : World) (hsl : Sl .u8 w A l) (hby : Byts l) (hm : mayB (W : Int) (H : Int) l.length = true) (haW : a ≤ W) (hbH : b ≤ H) (ha0 : 0 < a) (hb0' : 0 < b) :
    Calls Try.prog 20 #[.agg #[.int .i64 (W : Int), .int .i64 (H : Int), .slice A l.length c], .int .i64 (a : Int), .int .i64 (b : Int)] w fun e w' => ∃ v, e = .returned (.agg #[.int .i64 (a : Int), .int .i64 (b : Int), v]) ∧ Own .u8 5 w' w.heap.size v (rows (boxT l W H a b) a b) ∧ Below w.heap.size w w' := by
  obtain ⟨hW, hH, hn⟩ := mayB_t hm
  have hcall : ∀ (Wd : World) (x y t : Nat) (hbl : Below w.heap.size w Wd) (hx : x < W) (hy : y < H) (ht : t < 3), Calls Try.prog 11 #[.agg #[.int .i64 (W : Int), .int .i64 (H : Int), .slice A l.length c], .int .i64 ((x : Nat) : Int), .int .i64 ((y : Nat) : Int), .int .i64 (t : Int)] Wd fun e w' => e = .returned (.int .i64 (nth l (pp (W : Int) x y + t))) ∧ Below Wd.heap.size Wd w' := fun Wd x y t hbl hx hy ht => 
    byte_any (W : Int) (H : Int) (x : Int) (y : Int) t A l c Wd (hsl.keep hbl) hW hH hn ⟨by omega, by omega⟩ ⟨by omega, by omega⟩ ht hby
  have HC := Lib.hid hcall
  have HYb := Lib.hid hby
  obtain ⟨W0, W1⟩ := hW
  obtain ⟨H0, H1⟩ := hH
  have a0 : 0 < (a : Int) := by omega
  have b0 : 0 < (b : Int) := by omega
  have aW : (a : Int) ≤ 4096 := by omega
  have bH : (b : Int) ≤ 4096 := by omega
  clear hcall hsl hby hm hn
  go_enter Try.func20, Try.ntmps20
  go_wp2_with fail
  obtain ⟨f0, f1, f2⟩ := three w (.cells #[.int .i64 (W : Int), .int .i64 (H : Int), .slice A l.length c] 24) (.cells #[.int .i64 0, .int .i64 0, .slice none 0 0] 24) (.cells #[.int .i64 (a : Int), .int .i64 (b : Int), .slice none 0 0] 24)
  have hb0 := ba (ba (ba (brefl w) (.cells #[.int .i64 (W : Int), .int .i64 (H : Int), .slice A l.length c] 24)) (.cells #[.int .i64 0, .int .i64 0, .slice none 0 0] 24)) (.cells #[.int .i64 (a : Int), .int .i64 (b : Int), .slice none 0 0] 24)
  have hz0 : (((w.alloc (.cells #[.int .i64 (W : Int), .int .i64 (H : Int), .slice A l.length c] 24)).alloc (.cells #[.int .i64 0, .int .i64 0, .slice none 0 0] 24)).alloc (.cells #[.int .i64 (a : Int), .int .i64 (b : Int), .slice none 0 0] 24)).heap.size = w.heap.size + 3 := by simp
  generalize ((w.alloc _).alloc _).alloc _ = W0' at *
  have hown0 : Own .u8 5 W0' (w.heap.size + 3) (.slice none 0 0) [] := Own.nil_ _ _ _ _
  go_loopw [8] (fun s8 wr => ∃ (y : Nat) (v : Value), y ≤ b ∧ s8 = .int .i64 (y : Int) ∧ wr.heap[w.heap.size + 1 + 1]? = some (.cells #[.int .i64 (a : Int), .int .i64 (b : Int), v] 24 (0, 0)) ∧ wr.heap[w.heap.size]? = some (.cells #[.int .i64 (W : Int), .int .i64 (H : Int), .slice A l.length c] 24 (0, 0)) ∧ wr.heap[w.heap.size + 1]? = some (.cells #[.int .i64 0, .int .i64 0, .slice none 0 0] 24 (0, 0)) ∧
      Own .u8 5 wr (w.heap.size + 3) v (rows (boxT l W H a b) a y) ∧ Below w.heap.size w wr ∧ w.heap.size + 3 ≤ wr.heap.size) (fun s8 _ => b - (intOf s8).toNat)
  case atStart => exact ⟨0, _, by omega, rfl, f2, f0, f1, hown0, hb0, by omega⟩
  case round =>
    clear f0 f1 f2 hown0 hb0 hz0
    obtain ⟨y, v, hy, rfl, hG, hB, hZ, hO, hbl, hz⟩ := hrel
    obtain ⟨Av, nv, cv, rfl⟩ := own_form hO
    have HG := Lib.hid hG
    have HB := Lib.hid hB
    have HZ := Lib.hid hZ
    clear hG hB hZ
    by_cases hyb : y < b
    · have hy1 : (y : Int) < (b : Int) := by omega
      go_wp2_with fail
      go_loopw [9] (fun s9 wr => ∃ (x : Nat) (v : Value), x ≤ a ∧ s9 = .int .i64 (x : Int) ∧ wr.heap[w.heap.size + 1 + 1]? = some (.cells #[.int .i64 (a : Int), .int .i64 (b : Int), v] 24 (0, 0)) ∧ wr.heap[w.heap.size]? = some (.cells #[.int .i64 (W : Int), .int .i64 (H : Int), .slice A l.length c] 24 (0, 0)) ∧ wr.heap[w.heap.size + 1]? = some (.cells #[.int .i64 0, .int .i64 0, .slice none 0 0] 24 (0, 0)) ∧
      Own .u8 5 wr (w.heap.size + 3) v (rows (boxT l W H a b) a y ++ cols (boxT l W H a b) y x) ∧ Below w.heap.size w wr ∧ w.heap.size + 3 ≤ wr.heap.size) (fun s9 _ => a - (intOf s9).toNat)
      case atStart => exact ⟨0, _, by omega, rfl, HG.out, HB.out, HZ.out, by rw [cols, List.append_nil]; exact hO, hbl, hz⟩
      case round =>
        clear HG HB HZ hO hbl hz
        obtain ⟨x, v, hx, rfl, hG, hB, hZ, hO, hbl, hz⟩ := hrel
        obtain ⟨Av, nv, cv, rfl⟩ := own_form hO
        have HG := Lib.hid hG
        have HB := Lib.hid hB
        have HZ := Lib.hid hZ
        clear hG hB hZ
        by_cases hxa : x < a
        · have hx1 : (x : Int) < (a : Int) := by omega
          go_wp2_with fail
          go_loopw [10] (fun s10 wr => ∃ (t : Nat) (v : Value), t ≤ 3 ∧ s10 = .int .i64 (t : Int) ∧ wr.heap[w.heap.size + 1 + 1]? = some (.cells #[.int .i64 (a : Int), .int .i64 (b : Int), v] 24 (0, 0)) ∧ wr.heap[w.heap.size]? = some (.cells #[.int .i64 (W : Int), .int .i64 (H : Int), .slice A l.length c] 24 (0, 0)) ∧ wr.heap[w.heap.size + 1]? = some (.cells #[.int .i64 0, .int .i64 0, .slice none 0 0] 24 (0, 0)) ∧
      Own .u8 5 wr (w.heap.size + 3) v (rows (boxT l W H a b) a y ++ cols (boxT l W H a b) y x ++ (boxT l W H a b x y).take t) ∧ Below w.heap.size w wr ∧ w.heap.size + 3 ≤ wr.heap.size) (fun s10 _ => 3 - (intOf s10).toNat)
          case atStart => exact ⟨0, _, by omega, rfl, HG.out, HB.out, HZ.out, by rw [List.take_zero, List.append_nil]; exact hO, hbl, hz⟩
          case round =>
            clear HG HB HZ hO hbl hz
            obtain ⟨t, v, ht, rfl, hG, hB, hZ, hO, hbl, hz⟩ := hrel
            obtain ⟨Av, nv, cv, rfl⟩ := own_form hO
            have HG := Lib.hid hG
            have HB := Lib.hid hB
            have HZ := Lib.hid hZ
            clear hZ
            by_cases ht3 : t < 3
            · have ht1 : (t : Int) < 3 := by omega
              obtain ⟨x1, x2, x3, x4, ⟨x5, x6⟩, x7, x8⟩ := bx_facts hxa haW (show W ≤ 4096 by omega)
              obtain ⟨y1, y2, y3, y4, ⟨y5, y6⟩, y7, y8⟩ := bx_facts hyb hbH (show H ≤ 4096 by omega)
              have hF := Lib.hid (meanF_eq l (W : Int) (bx x W a) (bw x W a) (bx y H b) (bw y H b) t)
              have hFb := meanF_bd l HYb.out (W : Int) (bx x W a) (bw x W a) (bx y H b) (bw y H b) t x1 y1
              have hN := mk_bd (bw x W a) (bw y H b) x1 y1 (by omega) (by omega)
              have hSb := bsum_bd l HYb.out (W : Int) t (bx x W a) (bw x W a) (bx y H b)
              have hRb := fun v => rsum_bd l HYb.out (W : Int) t v (bx x W a)
              have hCall := fun (Wd : World) (hb : Below wr.heap.size wr Wd) (j i : Nat) (hj : j < bw y H b) (hi : i < bw x W a) => HC.out Wd (bx x W a + i) (bx y H b + j) t (bt hbl hb) (by omega) (by omega) ht3
              have HCl := Lib.hid hCall
              have HSb := Lib.hid hSb
              have HRb := Lib.hid hRb
              clear hCall hSb hRb
              generalize hBx : bx x W a = bX at *
              generalize hBw : bw x W a = mX at *
              generalize hCx : bx y H b = bY at *
              generalize hCw : bw y H b = mY at *
              have mx1 : mX ≤ 4096 := by omega
              have my1 : mY ≤ 4096 := by omega
              have X3 := Lib.hid x3
              have X4 := Lib.hid x4
              have Y3 := Lib.hid y3
              have Y4 := Lib.hid y4
              have xq : 0 ≤ (x : Int) * (W : Int) / (a : Int) ∧ (x : Int) * (W : Int) / (a : Int) ≤ 4096 := by rw [x3]; omega
              have yq : 0 ≤ (y : Int) * (H : Int) / (b : Int) ∧ (y : Int) * (H : Int) / (b : Int) ≤ 4096 := by rw [y3]; omega
              have xr : 0 ≤ ((x : Int) + 1) * (W : Int) / (a : Int) ∧ ((x : Int) + 1) * (W : Int) / (a : Int) ≤ 4096 := by rw [x4]; omega
              have yr : 0 ≤ ((y : Int) + 1) * (H : Int) / (b : Int) ∧ ((y : Int) + 1) * (H : Int) / (b : Int) ≤ 4096 := by rw [y4]; omega
              have xm : bX + mX ≤ 4096 := by omega
              have ym : bY + mY ≤ 4096 := by omega
              clear x3 x4 y3 y4
              have xi : (x : Int) < 4096 := by omega
              have yi : (y : Int) < 4096 := by omega
              generalize hMF : meanF l (W : Int) bX mX bY mY t = F at *
              have hbr := brefl wr
              have hlt : w.heap.size < wr.heap.size := by omega
              have k0 := row_cell hB 0 rfl
              have k1 := row_cell hB 1 rfl
              clear hB hG
              go_wp2_with fail
              clear k0 k1
              obtain ⟨w1, rfl⟩ : ∃ w1, w1 = wr := ⟨wr, rfl⟩
              go_loopw [11, 12, 13] (fun s11 s12 s13 wr => ∃ (j : Nat), j ≤ mY ∧ s11 = .int .i64 (bsum l (W : Int) t bX mX bY j) ∧ s12 = .int .i64 ((mX : Int) * (j : Int)) ∧ s13 = .int .i64 ((bY : Int) + (j : Int)) ∧ Below w1.heap.size w1 wr) (fun _ _ s13 _ => mY + bY - (intOf s13).toNat)
              case atStart => exact ⟨0, by omega, rfl, by simp, by rw [Y3.out]; simp, hbr⟩
              case round =>
                obtain ⟨j, hj, rfl, rfl, rfl, hbq⟩ := hrel
                have hBq := (hbq.block _ hlt).trans HB.out
                have q0 := row_cell hBq 0 rfl
                have q1 := row_cell hBq 1 rfl
                have HBq := Lib.hid hBq
                clear hBq hbr
                have hnj : mX * j ≤ 4096 * 4096 := Nat.mul_le_mul mx1 (by omega)
                have n1 : 0 ≤ (mX : Int) * (j : Int) := by rw [← Int.natCast_mul]; omega
                have n2 : (mX : Int) * (j : Int) ≤ 16777216 := by rw [← Int.natCast_mul]; omega
                have hs := HSb.out j
                have hs1 := hs.1
                have hs2 : bsum l (W : Int) t bX mX bY j ≤ 4278190080 := by omega
                clear hs hnj
                by_cases hjm : j < mY
                · have j1 : (bY : Int) + (j : Int) < ((y : Int) + 1) * (H : Int) / (b : Int) := by rw [Y4.out]; omega
                  go_wp2_with fail
                  clear q0 q1
                  obtain ⟨w2, rfl⟩ : ∃ w2, w2 = wr := ⟨wr, rfl⟩
                  go_loopw [11, 12, 14] (fun s11 s12 s14 wr => ∃ (i : Nat), i ≤ mX ∧ s11 = .int .i64 (bsum l (W : Int) t bX mX bY j + rsum l (W : Int) t (bY + j) bX i) ∧ s12 = .int .i64 ((mX : Int) * (j : Int) + (i : Int)) ∧ s14 = .int .i64 ((bX : Int) + (i : Int)) ∧ Below w1.heap.size w1 wr) (fun _ _ s14 _ => mX + bX - (intOf s14).toNat)
                  case atStart => exact ⟨0, by omega, by simp [rsum], by simp, by rw [X3.out]; simp, hbq⟩
                  case round =>
                    clear hbq HBq
                    obtain ⟨i, hi, rfl, rfl, rfl, hbq⟩ := hrel
                    have hBq := (hbq.block _ hlt).trans HB.out
                    have q0 := row_cell hBq 0 rfl
                    have q1 := row_cell hBq 1 rfl
                    have HBc := Lib.hid hBq
                    clear hBq
                    have hr := HRb.out (bY + j) i
                    have hr1 := hr.1
                    have hr2 : rsum l (W : Int) t (bY + j) bX i ≤ 1044480 := by omega
                    clear hr
                    by_cases him : i < mX
                    · have i1 : (bX : Int) + (i : Int) < ((x : Int) + 1) * (W : Int) / (a : Int) := by rw [X4.out]; omega
                      have hy := HYb.out (pp (W : Int) (bX + i) (bY + j) + t)
                      have hc := HCl.out wr hbq j i hjm him
                      simp only [Int.natCast_add] at hc
                      have HC1 := Lib.hid hc
                      clear hc
                      go_wp2_with (((with_reducible refine wpl_load_row rt24 ?_ (.tmp 3) rfl w.heap.size rfl 24 #[.int .i64 (W : Int), .int .i64 (H : Int), .slice A l.length c] ?_ HBc.out ?_); rfl; rfl; simp only [Act.put, List.setIfInBounds_toArray, List.set_cons_succ, List.set_cons_zero]))
                      refine HC1.out.mono ?_
                      rintro e w3 ⟨rfl, hb3⟩
                      go_wp2_with fail
                      go_roundw
                      case rel => exact ⟨i + 1, by omega, by rw [rsum, ← Int.add_assoc], by go_num, by go_num, bt hbq hb3⟩
                      case measure => simp [intOf]; omega
                    · obtain rfl : i = mX := by omega
                      have i1 : ((x : Int) + 1) * (W : Int) / (a : Int) ≤ (bX : Int) + (i : Int) := by rw [X4.out]; omega
                      go_wp2_with fail
                      go_roundw
                      case rel => exact ⟨j + 1, by omega, by rw [bsum], by rw [show ((j + 1 : Nat) : Int) = (j : Int) + 1 from rfl, Int.mul_add, Int.mul_one], by go_num, hbq⟩
                      case measure => simp [intOf]; omega
                · obtain rfl : j = mY := by omega
                  have j1 : ((y : Int) + 1) * (H : Int) / (b : Int) ≤ (bY : Int) + (j : Int) := by rw [Y4.out]; omega
                  have hO := hO.keep hbq
                  have hbl := bt hbl hbq
                  have hG := (hbq.block _ (show w.heap.size + 1 + 1 < _ by omega)).trans HG.out
                  have HB := HBq
                  have HZ := Lib.hid ((hbq.block _ (show w.heap.size + 1 < _ by omega)).trans HZ.out)
                  have HG := Lib.hid hG
                  have hz := Nat.le_trans hz hbq.size
                  have hF2 := hF.out
                  generalize hSS : bsum l (W : Int) t bX mX bY j = S at *
                  generalize hNN : (mX : Int) * (j : Int) = N at *
                  have hFv : (2 * S + N) / (2 * N) = F := hF2.symm
                  clear hF2
                  have HNN := Lib.hid hNN
                  have HSS := Lib.hid hSS
                  have HFv := Lib.hid hFv
                  have hq : 0 ≤ (2 * S + N) / (2 * N) ∧ (2 * S + N) / (2 * N) < 256 := by rw [hFv]; omega
                  clear hNN hSS hFv
                  go_wp2_with fail
                  have hln : (rows (boxT l W H a b) a y ++ cols (boxT l W H a b) y x ++ (boxT l W H a b x y).take t).length ≤ 60000000 := by
                    rw [List.length_append, List.length_append, rows_len _ (fun x y => boxT_len l W H a b x y), cols_len _ (fun x y => boxT_len l W H a b x y), List.length_take, boxT_len]
                    have : 3 * a * y ≤ 3 * a * 4096 := Nat.mul_le_mul_left _ (by omega)
                    omega
                  have k3 : wr.drew.cell? ⟨w.heap.size + 1 + 1, 2, none⟩ = some (.slice Av nv cv) := row_cell hG 2 rfl
                  clear hG
                  refine Tin.reg_begin (w.heap.size + 1) 14 (by rfl) (by kernel_rfl) ?_
                  refine Tin.reg_quiets [0, 2, 3, 4, 5, 6, 7, 8, 9] _ 5 rfl (by simp only [Tin.pick, List.map_cons, List.map_nil, Array.getD_eq_getD_getElem?, List.getElem?_toArray, List.getElem?_cons_zero, List.getElem?_cons_succ, Option.getD_some]; rfl) (by kernel_rfl) (by kernel_rfl) ?_
                  repeat (first | go_big_quiet_step (fail))
                  refine wpQuiet_nil ?_
                  simp only [HFv.out]
                  refine Tin.reg_two 1 10 _ _ rfl rfl (by kernel_rfl) ?_ ?_
                  · try simp only [List.getElem_toArray, List.getElem_cons_succ, List.getElem_cons_zero]
                    go_wp2_with fail
                    refine ⟨w.heap.size + 1, Below.refl _ _, Nat.le_refl _, ?_⟩
                    refine Tin.reg_one 10 _ rfl (by kernel_rfl) ?_
                    try simp only [List.getElem_toArray, List.getElem_cons_succ, List.getElem_cons_zero]
                    go_wp2_with fail
                    have hb8' : Below wr.heap.size wr (wr.alloc (.cells #[.int .u8 F] 5)).drew := by
                      have h := ba (brefl wr) (.cells #[.int .u8 F] 5)
                      exact ⟨h.os, h.tape, h.output, h.size, h.block⟩
                    have hs8 : Sl .u8 (wr.alloc (.cells #[.int .u8 F] 5)).drew (some ⟨wr.heap.size, 0, none⟩) [F] := (Sl.new_ _ _ _ _ rfl : Sl .u8 (wr.alloc (.cells #[.int .u8 F] 5)) (some ⟨wr.heap.size, 0, none⟩) [F])
                    have hz8 : (wr.alloc (.cells #[.int .u8 F] 5)).drew.heap.size = wr.heap.size + 1 := by
                      show (wr.alloc (.cells #[.int .u8 F] 5)).heap.size = wr.heap.size + 1
                      simp
                    have hw8 : Below (w.heap.size + 1) wr.drew (wr.alloc (.cells #[.int .u8 F] 5)).drew := by
                      have h := hb8'.mono (show w.heap.size + 1 ≤ wr.heap.size by omega)
                      exact ⟨h.os, h.tape, h.output, h.size, h.block⟩
                    generalize (wr.alloc (.cells #[.int .u8 F] 5)).drew = W8 at *
                    refine ⟨w.heap.size + 1, hw8, Nat.le_refl _, ?_⟩
                    have hb8 : Below wr.heap.size wr W8 := bt (brefl _) hb8'
                    have hO8 := hO.keep hb8
                    have hG8 := (hb8.block _ (show w.heap.size + 1 + 1 < _ by omega)).trans HG.out
                    have hB8 := (hb8.block _ (show w.heap.size < _ by omega)).trans HB.out
                    have hZ8 := (hb8.block _ (show w.heap.size + 1 < _ by omega)).trans HZ.out
                    have hz9 := hb8.size
                    refine Tin.reg_one 11 _ rfl (by kernel_rfl) ?_
                    try simp only [List.getElem_toArray, List.getElem_cons_succ, List.getElem_cons_zero]
                    (refine Tin.wpl_app bt5 _ rfl (.tmp 76) (.tmp 85) rfl (w.heap.size + 3) _ _ rfl hO8 (some ⟨wr.heap.size, 0, none⟩) 1 1 [F] rfl hs8 rfl (by simp only [List.length_cons, List.length_nil]; omega) (by simp only [List.length_cons, List.length_nil]; omega) (by omega) ?_)
                    intro v6 w6 hown6 hg6 how6
                    simp only [Act.put, List.setIfInBounds_toArray, List.set_cons_succ, List.set_cons_zero]
                    go_wp2_with fail
                    obtain ⟨A6, n6, c6, rfl⟩ := own_form hown6
                    have hb6 : Below (w.heap.size + 3) W8 w6 := ⟨hg6.os, hg6.tape, hg6.output, hg6.size, fun i hi => hg6.block i (by omega) (fun h => by have := (World.ownsRow.lt hO8 _ h.symm).1; omega)⟩
                    refine ⟨w.heap.size + 1, hb6.mono (by omega), Nat.le_refl _, ?_⟩
                    refine Tin.reg_quiets [12] _ 1 rfl (by simp only [Tin.pick, List.map_cons, List.map_nil, Array.getD_eq_getD_getElem?, List.getElem?_toArray, List.getElem?_cons_zero, List.getElem?_cons_succ, Option.getD_some]; rfl) (by kernel_rfl) (by kernel_rfl) ?_
                    repeat (first | go_big_quiet_step (fail))
                    refine wpQuiet_nil ?_
                    have hG6 := (hb6.block _ (show w.heap.size + 1 + 1 < _ by omega)).trans hG8
                    have cc6 := row_cell hG6 2 rfl
                    have f6 := frozen_of_row w6 (w.heap.size + 1 + 1) 2 _ _ hG6
                    have HG6 := Lib.hid hG6
                    clear hG6
                    refine Tin.reg_one 13 _ rfl (by kernel_rfl) ?_
                    try simp only [List.getElem_toArray, List.getElem_cons_succ, List.getElem_cons_zero]
                    go_wp2_with fail
                    have hk6 := grown_setCells (w.heap.size + 1 + 1) [.slice A6 n6 c6] 2 w6 w6 (World.grownBy.refl w6 _)
                    have hne6 : (Value.slice A6 n6 c6).ownBlock ≠ some (w.heap.size + 1 + 1) := fun h => by have := (World.ownsRow.lt hown6 _ h).1; omega
                    have hz6 := hg6.size
                    have hZ6 := (hb6.block _ (show w.heap.size + 1 < _ by omega)).trans hZ8
                    have hB6 := (hb6.block _ (show w.heap.size < _ by omega)).trans hB8
                    have hbw6 : Below w.heap.size w w6 := (bt hbl hb8).trans (hb6.mono (by omega))
                    refine ⟨w.heap.size + 1, (Below.refl _ _).setCell (by show w.heap.size + 1 ≤ w.heap.size + 1 + 1; omega) _, Nat.le_refl _, ?_⟩
                    refine Tin.reg_done (by kernel_rfl) ?_
                    go_wp2_with fail
                    go_roundw
                    case rel => exact ⟨t + 1, .slice A6 n6 c6, by omega, by go_num, row_set HG6.out 2 _, by rw [heap_setCell_other _ _ _ _ (by show w.heap.size ≠ w.heap.size + 1 + 1; omega)]; exact hB6, by rw [heap_setCell_other _ _ _ _ (by show w.heap.size + 1 ≠ w.heap.size + 1 + 1; omega)]; exact hZ6, by rw [take_next _ _ (by rw [boxT_len]; exact ht3), ← List.append_assoc, boxT_nth _ _ _ _ _ _ _ _ ht3, hBx, hBw, hCx, hCw, hMF]; exact hown6.kept hk6 (.inr hne6), hbw6.setCell (by show w.heap.size ≤ w.heap.size + 1 + 1; omega) _, by simp [World.setCell]; omega⟩
                    case measure => simp [intOf]; omega
                  · try simp only [List.getElem_toArray, List.getElem_cons_succ, List.getElem_cons_zero]
                    go_wp2_with fail
                    have hb8' : Below wr.heap.size wr (wr.alloc (.cells #[.int .u8 F] 5)).drew := by
                      have h := ba (brefl wr) (.cells #[.int .u8 F] 5)
                      exact ⟨h.os, h.tape, h.output, h.size, h.block⟩
                    have hs8 : Sl .u8 (wr.alloc (.cells #[.int .u8 F] 5)).drew (some ⟨wr.heap.size, 0, none⟩) [F] := (Sl.new_ _ _ _ _ rfl : Sl .u8 (wr.alloc (.cells #[.int .u8 F] 5)) (some ⟨wr.heap.size, 0, none⟩) [F])
                    have hz8 : (wr.alloc (.cells #[.int .u8 F] 5)).drew.heap.size = wr.heap.size + 1 := by
                      show (wr.alloc (.cells #[.int .u8 F] 5)).heap.size = wr.heap.size + 1
                      simp
                    have hw8 : Below (w.heap.size + 1) wr.drew (wr.alloc (.cells #[.int .u8 F] 5)).drew := by
                      have h := hb8'.mono (show w.heap.size + 1 ≤ wr.heap.size by omega)
                      exact ⟨h.os, h.tape, h.output, h.size, h.block⟩
                    generalize (wr.alloc (.cells #[.int .u8 F] 5)).drew = W8 at *
                    refine ⟨w.heap.size + 1, hw8, Nat.le_refl _, ?_⟩
                    have k8 : W8.cell? ⟨w.heap.size + 1 + 1, 2, none⟩ = some (.slice Av nv cv) := (hb8'.cell (p := ⟨w.heap.size + 1 + 1, 2, none⟩) (by show w.heap.size + 1 + 1 < _; omega)).trans k3
                    refine Tin.reg_one 1 _ rfl (by kernel_rfl) ?_
                    try simp only [List.getElem_toArray, List.getElem_cons_succ, List.getElem_cons_zero]
                    go_wp2_with fail
                    refine ⟨w.heap.size + 1, Below.refl _ _, Nat.le_refl _, ?_⟩
                    have hb8 : Below wr.heap.size wr W8 := bt (brefl _) hb8'
                    have hO8 := hO.keep hb8
                    have hG8 := (hb8.block _ (show w.heap.size + 1 + 1 < _ by omega)).trans HG.out
                    have hB8 := (hb8.block _ (show w.heap.size < _ by omega)).trans HB.out
                    have hZ8 := (hb8.block _ (show w.heap.size + 1 < _ by omega)).trans HZ.out
                    have hz9 := hb8.size
                    refine Tin.reg_one 11 _ rfl (by kernel_rfl) ?_
                    try simp only [List.getElem_toArray, List.getElem_cons_succ, List.getElem_cons_zero]
                    (refine Tin.wpl_app bt5 _ rfl (.tmp 76) (.tmp 85) rfl (w.heap.size + 3) _ _ rfl hO8 (some ⟨wr.heap.size, 0, none⟩) 1 1 [F] rfl hs8 rfl (by simp only [List.length_cons, List.length_nil]; omega) (by simp only [List.length_cons, List.length_nil]; omega) (by omega) ?_)
                    intro v6 w6 hown6 hg6 how6
                    simp only [Act.put, List.setIfInBounds_toArray, List.set_cons_succ, List.set_cons_zero]
                    go_wp2_with fail
                    obtain ⟨A6, n6, c6, rfl⟩ := own_form hown6
                    have hb6 : Below (w.heap.size + 3) W8 w6 := ⟨hg6.os, hg6.tape, hg6.output, hg6.size, fun i hi => hg6.block i (by omega) (fun h => by have := (World.ownsRow.lt hO8 _ h.symm).1; omega)⟩
                    refine ⟨w.heap.size + 1, hb6.mono (by omega), Nat.le_refl _, ?_⟩
                    refine Tin.reg_quiets [12] _ 1 rfl (by simp only [Tin.pick, List.map_cons, List.map_nil, Array.getD_eq_getD_getElem?, List.getElem?_toArray, List.getElem?_cons_zero, List.getElem?_cons_succ, Option.getD_some]; rfl) (by kernel_rfl) (by kernel_rfl) ?_
                    repeat (first | go_big_quiet_step (fail))
                    refine wpQuiet_nil ?_
                    have hG6 := (hb6.block _ (show w.heap.size + 1 + 1 < _ by omega)).trans hG8
                    have cc6 := row_cell hG6 2 rfl
                    have f6 := frozen_of_row w6 (w.heap.size + 1 + 1) 2 _ _ hG6
                    have HG6 := Lib.hid hG6
                    clear hG6
                    refine Tin.reg_one 13 _ rfl (by kernel_rfl) ?_
                    try simp only [List.getElem_toArray, List.getElem_cons_succ, List.getElem_cons_zero]
                    go_wp2_with fail
                    have hk6 := grown_setCells (w.heap.size + 1 + 1) [.slice A6 n6 c6] 2 w6 w6 (World.grownBy.refl w6 _)
                    have hne6 : (Value.slice A6 n6 c6).ownBlock ≠ some (w.heap.size + 1 + 1) := fun h => by have := (World.ownsRow.lt hown6 _ h).1; omega
                    have hz6 := hg6.size
                    have hZ6 := (hb6.block _ (show w.heap.size + 1 < _ by omega)).trans hZ8
                    have hB6 := (hb6.block _ (show w.heap.size < _ by omega)).trans hB8
                    have hbw6 : Below w.heap.size w w6 := (bt hbl hb8).trans (hb6.mono (by omega))
                    refine ⟨w.heap.size + 1, (Below.refl _ _).setCell (by show w.heap.size + 1 ≤ w.heap.size + 1 + 1; omega) _, Nat.le_refl _, ?_⟩
                    refine Tin.reg_done (by kernel_rfl) ?_
                    go_wp2_with fail
                    go_roundw
                    case rel => exact ⟨t + 1, .slice A6 n6 c6, by omega, by go_num, row_set HG6.out 2 _, by rw [heap_setCell_other _ _ _ _ (by show w.heap.size ≠ w.heap.size + 1 + 1; omega)]; exact hB6, by rw [heap_setCell_other _ _ _ _ (by show w.heap.size + 1 ≠ w.heap.size + 1 + 1; omega)]; exact hZ6, by rw [take_next _ _ (by rw [boxT_len]; exact ht3), ← List.append_assoc, boxT_nth _ _ _ _ _ _ _ _ ht3, hBx, hBw, hCx, hCw, hMF]; exact hown6.kept hk6 (.inr hne6), hbw6.setCell (by show w.heap.size ≤ w.heap.size + 1 + 1; omega) _, by simp [World.setCell]; omega⟩
                    case measure => simp [intOf]; omega
            · obtain rfl : t = 3 := by omega
              go_wp2_with fail
              go_roundw
              case rel => exact ⟨x + 1, .slice Av nv cv, by omega, by go_num, HG.out, HB.out, HZ.out, by rw [cols, ← List.append_assoc]; exact hO, hbl, hz⟩
              case measure => simp [intOf]; omega
        · have hx1 : (a : Int) ≤ (x : Int) := by omega
          obtain rfl : x = a := by omega
          go_wp2_with fail
          go_roundw
          case rel => exact ⟨y + 1, .slice Av nv cv, by omega, by go_num, HG.out, HB.out, HZ.out, hO, hbl, hz⟩
          case measure => simp [intOf]; omega
    · have hy1 : (b : Int) ≤ (y : Int) := by omega
      obtain rfl : y = b := by omega
      go_wp2_with (first | ((with_reducible refine wpl_load_row rt24 ?_ (.tmp 7) rfl (w.heap.size + 1 + 1) rfl 24 #[.int .i64 (a : Int), .int .i64 (y : Int), .slice Av nv cv] ?_ HG.out ?_); rfl; rfl; simp only [Act.put, List.setIfInBounds_toArray, List.set_cons_succ, List.set_cons_zero]) | ((with_reducible refine wpl_store_row rt24 rfl (.tmp 6) (.tmp 88) rfl (w.heap.size + 1) rfl #[.int .i64 (a : Int), .int .i64 (y : Int), .slice Av nv cv] rfl (pic_one _ _ _ _ _) 24 ?_ #[.int .i64 0, .int .i64 0, .slice none 0 0] ?_ HZ.out ?_); rfl; rfl; intro w5 hr5 hg5 hs5))
      have hk := hO.kept hg5 (.inr (fun h => by have := (World.ownsRow.lt hO _ h).1; omega))
      exact bodyPost_ret (res_row rt24 rfl _ _ (w.heap.size + 1) 24 _ rfl rfl hr5) rfl ⟨_, rfl, hk.mono (by omega), hbl.grown hg5 hbl.size (fun k hk => by cases hk; omega)⟩
end Go.Proofs.Ytdjfjndmkkhknaa
