/- The reference's blocks joined. -/
import Derived.Test.YtajobboldjgidaaSmJ
namespace Go.Proofs.Ytajobboldjgidaa
open Go.RowKit
open Go.Tin
set_option linter.unusedVariables false
set_option linter.unusedSimpArgs false


theorem blkO_nth {zs : List Int} {P J : Nat} (hJ : J < 64) : nth (blkO zs P) J = nth zs (P * 64 + J) := by
  unfold nth blkO
  rw [List.getD_eq_getElem?_getD, List.getD_eq_getElem?_getD, List.getElem?_take_of_lt hJ, List.getElem?_drop]
set_option maxRecDepth 100000 in
set_option maxHeartbeats 4000000 in
theorem rjoin_any (zs : List Int) (wd ht a m : Nat) (A : Option Addr) (c : Nat) (w : World) (hs : SlV w A (iv zs)) (hz : zs.length = m * 64) (hm : m ≤ 1000000) (hw : 1 ≤ wd ∧ wd ≤ 4096) (hh : 1 ≤ ht ∧ ht ≤ 4096) (ha : 1 ≤ a ∧ a ≤ 512) (hwa : wd ≤ 8 * a) (hht : ht ≤ 8 * (m / a)) :
    Calls Try.prog 17 #[.slice A m c, .int .i64 (a : Int), .int .i64 (wd : Int), .int .i64 (ht : Int)] w fun e w' => ∃ A' c', e = .returned (plA (wd : Int) (ht : Int) A' (wd * ht) c') ∧ Own .i64 3 w' w.heap.size (.slice A' (wd * ht) c') (grid (joinV zs a) wd ht) ∧ Below w.heap.size w w' := by
  have HS := Lib.hid hs
  have HZL := Lib.hid hz
  obtain ⟨w0, w1'⟩ := hw
  obtain ⟨h0, h1'⟩ := hh
  obtain ⟨a0, a1⟩ := ha
  have HTT := Lib.hid hht
  have HWA := Lib.hid hwa
  clear hs hz hht hwa
  obtain ⟨z2, z3, hb3, hs3⟩ := alloc2 w (.cells (plrow 0 0 none 0 0) 24) (.cells (plrow (wd : Int) (ht : Int) none 0 0) 24)
  have hown3 := Own.nil_ .i64 3 ((w.alloc (.cells (plrow 0 0 none 0 0) 24)).alloc (.cells (plrow (wd : Int) (ht : Int) none 0 0) 24)) (w.heap.size + 2)
  go_enter Try.func17, Try.ntmps17
  go_wp2_with fail
  generalize ((w.alloc (.cells (plrow 0 0 none 0 0) 24)).alloc (.cells (plrow (wd : Int) (ht : Int) none 0 0) 24)) = W at *
  obtain ⟨g, hg⟩ : ∃ g, g = w.heap.size + 1 := ⟨_, rfl⟩
  rw [← hg] at z3 ⊢
  have HGG := Lib.hid hg
  clear hg
  go_loopw [10] (fun s10 wr => ∃ (y : Nat) (A : Option Addr) (n c : Nat), y ≤ ht ∧ s10 = .int .i64 (y : Int) ∧ wr.heap[g]? = some (.cells (plrow (wd : Int) (ht : Int) A n c) 24 (0, 0)) ∧ wr.heap[w.heap.size]? = some (.cells (plrow 0 0 none 0 0) 24 (0, 0)) ∧
      Own .i64 3 wr (w.heap.size + 2) (.slice A n c) (grid (joinV zs a) wd y) ∧ Below w.heap.size w wr ∧ w.heap.size + 2 ≤ wr.heap.size) (fun s10 _ => ht - (intOf s10).toNat)
  case atStart => exact ⟨0, none, 0, 0, by omega, rfl, z3, z2, hown3, hb3, by omega⟩
  case round =>
    clear z2 z3 hown3 hb3 hs3
    obtain ⟨y, A1, n, c1, hy, rfl, hG, hZ, hO, hb, hgs⟩ := hrel
    have HG := Lib.hid hG
    have HZ := Lib.hid hZ
    clear hG hZ
    by_cases hyh : y < ht
    case neg =>
      obtain rfl : y = ht := by omega
      have hn := hO.sl'.1
      rw [grid_len] at hn
      subst hn
      have HO := Lib.hid hO
      clear hO
      go_wp2_with (first | ((with_reducible refine wpl_load_row rtP ?_ (.tmp 9) ?_ g ?_ 24 (plrow (wd : Int) (y : Int) A1 (wd * y) c1) ?_ HG.out ?_); rfl; rfl; rfl; rfl; simp only [Act.put, List.setIfInBounds_toArray, List.set_cons_succ, List.set_cons_zero]) | ((with_reducible refine wpl_store_row rtP ?_ (.tmp 8) (.tmp 56) ?_ (w.heap.size) ?_ (plrow (wd : Int) (y : Int) A1 (wd * y) c1) ?_ (pl_one _ _ _ _ _) 24 ?_ (plrow 0 0 none 0 0) ?_ HZ.out ?_); rfl; rfl; rfl; rfl; rfl; rfl; intro w5 hr5 hg5 hs5))
      have hk := HO.out.kept hg5 (ne_own (fun q hq => by have := (World.ownsRow.lt HO.out q hq).1; omega))
      exact bodyPost_ret (res_row rtP rfl _ _ w.heap.size 24 (plrow (wd : Int) (y : Int) A1 (wd * y) c1) rfl rfl hr5) rfl ⟨A1, c1, rfl, hk.mono (by omega), hb.grown hg5 hb.size (fun k hk => by cases hk; omega)⟩
    have hy1 : (y : Int) < (ht : Int) := by omega
    have HO := Lib.hid hO
    have HB := Lib.hid hb
    clear hO hb
    go_wp2_with fail
    go_loopw [11] (fun s11 wr => ∃ (x : Nat) (A : Option Addr) (n c : Nat), x ≤ wd ∧ s11 = .int .i64 (x : Int) ∧ wr.heap[g]? = some (.cells (plrow (wd : Int) (ht : Int) A n c) 24 (0, 0)) ∧ wr.heap[w.heap.size]? = some (.cells (plrow 0 0 none 0 0) 24 (0, 0)) ∧
        Own .i64 3 wr (w.heap.size + 2) (.slice A n c) (grid (joinV zs a) wd y ++ lin (joinV zs a) y x) ∧ Below w.heap.size w wr ∧ w.heap.size + 2 ≤ wr.heap.size) (fun s11 _ => wd - (intOf s11).toNat)
    case atStart => exact ⟨0, A1, n, c1, by omega, rfl, HG.out, HZ.out, by rw [lin, List.append_nil]; exact HO.out, HB.out, hgs⟩
    case round =>
      clear HG HZ HO HB hgs
      obtain ⟨x, A1, n, c1, hx, rfl, hG, hZ, hO, hb, hgs⟩ := hrel
      have HG := Lib.hid hG
      have HZ := Lib.hid hZ
      have HO := Lib.hid hO
      have HB := Lib.hid hb
      clear hG hZ hO hb
      by_cases hxw : x < wd
      case neg =>
        obtain rfl : x = wd := by omega
        go_wp2_with fail
        exact ⟨⟨y + 1, A1, n, c1, by omega, rfl, HG.out, HZ.out, HO.out, HB.out, hgs⟩, by simp only [intOf]; omega⟩
      have hx1 : (x : Int) < (wd : Int) := by omega
      have hln := grid_le (joinV zs a) (ht := ht) w1' (show y ≤ 4096 by omega) (show x ≤ 4096 by omega)
      obtain ⟨P, hP⟩ : ∃ P, y / 8 * a + x / 8 = P := ⟨_, rfl⟩
      obtain ⟨J, hJ⟩ : ∃ J, 8 * (y % 8) + x % 8 = J := ⟨_, rfl⟩
      have hPm : P < m := by rw [← hP]; exact join_lt (by have := HWA.out; omega) (by have := HTT.out; omega)
      have hJ64 : J < 64 := by omega
      have HE := Lib.hid (show joinV zs a x y = smp (nth zs (P * 64 + J)) by unfold joinV joinP; rw [hP, show y % 8 * 8 + x % 8 = J by omega])
      have m1 : y / 8 * a ≤ 1250 * 512 := Nat.mul_le_mul (by omega) a1
      have e1 : ((y : Int) / 8) * (a : Int) = ((y / 8 * a : Nat) : Int) := by rw [Int.natCast_mul, Int.natCast_ediv]; rfl
      have m2 : 0 ≤ ((y : Int) / 8) * (a : Int) := by rw [e1]; omega
      have m3 : ((y : Int) / 8) * (a : Int) ≤ 640000 := by rw [e1]; omega
      have eP : ((y : Int) / 8) * (a : Int) + (x : Int) / 8 = (P : Int) := by rw [e1]; omega
      have eJ : 8 * ((y : Int) % 8) + (x : Int) % 8 = (J : Int) := by omega
      have HSW := Lib.hid (HS.out.keep HB.out)
      have hzP : P * 64 + 64 ≤ zs.length := by rw [HZL.out]; omega
      obtain ⟨b, off, rfl, -, -⟩ := HS.out.at_ (by simp; omega)
      have E1 := Lib.hid (blk_rng HSW.out P hzP)
      have L1 := Lib.hid (blk_len HZL.out hPm)
      have LZ := Lib.hid (show (iv (blkO zs P)).length = 64 from (List.length_map ..).trans L1.out)
      have HNB := Lib.hid (blkO_nth (zs := zs) (P := P) hJ64)
      rw [← HNB.out] at HE
      have HSM := Lib.hid (smp_eq (nth (blkO zs P) J))
      generalize blkO zs P = z0 at *
      have iP : (P : Int) < (m : Int) := by omega
      have iJ : (J : Int) < 64 := by omega
      have HLO := Lib.hid (World.ownsRow.lt HO.out)
      clear hP hJ e1 m1 hzP HNB
      by_cases hlo : nth z0 J < -128
      · have HV := Lib.hid (show (if nth z0 J < -128 then -128 else if 127 < nth z0 J then 127 else nth z0 J) + 128 = (0 : Int) by rw [if_pos hlo]; rfl)
        have g1 : nth z0 J ≤ 127 := by omega
        go_wp2_with (first | ((with_reducible refine wpl_loadv rt64 ?_ (.tmp 35) ?_ b (off + P * 64) ?_ (iv z0) ?_ E1.out ?_); rfl; rfl; rfl; exact LZ.out; simp only [Act.put, List.setIfInBounds_toArray, List.set_cons_succ, List.set_cons_zero]) | ((with_reducible refine wpl_store_row rt64 ?_ (.tmp 12) (.tmp 36) ?_ (wr.heap.size) ?_ (arr .i64 z0) ?_ arr_one 67 ?_ _ ?_ (heap_alloc_new wr _) ?_); rfl; rfl; rfl; rfl; (rw [arr_size]; exact L1.out); rfl; intro w7 hr7 hg7 hs7; have hb7 : Below wr.heap.size wr w7 := (ba (brefl wr) _).grown hg7 (by simp) (fun k hk => by cases hk; exact Nat.le_refl _); have HG7 := Lib.hid ((hb7.block _ (row_lt HG.out)).trans HG.out); have HZ7 := Lib.hid ((hb7.block _ (row_lt HZ.out)).trans HZ.out); have HO7 := Lib.hid (HO.out.keep hb7); have HB7 := Lib.hid (HB.out.trans (hb7.mono HB.out.size)); have kJ := blk_cell hr7 J (by rw [L1.out]; exact hJ64); have k2 := row_cell (v := .slice A1 n c1) HG7.out 2 rfl; have hz7 : w.heap.size + 2 ≤ w7.heap.size := Nat.le_trans hgs hb7.size; clear hr7 hg7 hs7 hb7) | (at_builtin; refine Tin.wpl_push btI w7 w7 (0) rfl (.tmp 50) (.tmp 53) rfl (w.heap.size + 2) A1 n c1 (grid (joinV zs a) wd y ++ lin (joinV zs a) y x) rfl HO7.out (Below.refl _ _) hz7 rfl (by omega) (by omega) ?_; intro A6 c6 w6 ho6 hbe6 hz6 hg6 how6; have HO6 := Lib.hid ho6; have HG6 := Lib.hid ((hg6.block _ (row_lt HG7.out) (fun e => by have := (HLO.out _ e.symm).1; have := HGG.out; omega)).trans HG7.out); have HZ6 := Lib.hid ((hg6.block _ (row_lt HZ7.out) (fun e => by have := (HLO.out _ e.symm).1; omega)).trans HZ7.out); have HB6 := Lib.hid (HB7.out.grown hg6 HB7.out.size (fun q hq => by have := (HLO.out q hq).1; omega)); have cc6 := row_cell (v := .slice A1 n c1) HG6.out 2 rfl; have f6 := frozen_of_row w6 g 2 _ _ HG6.out; clear ho6 hbe6 hg6 how6))
        have hk6 := grown_setCells g [.slice A6 (n + 1) c6] 2 w6 w6 (World.grownBy.refl w6 _)
        exact ⟨⟨x + 1, A6, n + 1, c6, by omega, rfl, row_set HG6.out 2 _, by rw [heap_setCell_other _ _ _ _ (by have := HGG.out; show w.heap.size ≠ g; omega)]; exact HZ6.out, by rw [lin, ← List.append_assoc, HE.out, HSM.out, HV.out]; exact HO6.out.kept hk6 (ne_own (fun q hq => by have := (World.ownsRow.lt HO6.out q hq).1; have := HGG.out; omega)), HB6.out.setCell (by have := HGG.out; show w.heap.size ≤ g; omega) _, by simp only [World.setCell]; simp; omega⟩, by simp only [intOf]; omega⟩
      have hlo' : -128 ≤ nth z0 J := by omega
      clear hlo
      by_cases hhi : 127 < nth z0 J
      · have HV := Lib.hid (show (if nth z0 J < -128 then -128 else if 127 < nth z0 J then 127 else nth z0 J) + 128 = (255 : Int) by rw [if_neg (by omega), if_pos hhi]; rfl)
        go_wp2_with (first | ((with_reducible refine wpl_loadv rt64 ?_ (.tmp 35) ?_ b (off + P * 64) ?_ (iv z0) ?_ E1.out ?_); rfl; rfl; rfl; exact LZ.out; simp only [Act.put, List.setIfInBounds_toArray, List.set_cons_succ, List.set_cons_zero]) | ((with_reducible refine wpl_store_row rt64 ?_ (.tmp 12) (.tmp 36) ?_ (wr.heap.size) ?_ (arr .i64 z0) ?_ arr_one 67 ?_ _ ?_ (heap_alloc_new wr _) ?_); rfl; rfl; rfl; rfl; (rw [arr_size]; exact L1.out); rfl; intro w7 hr7 hg7 hs7; have hb7 : Below wr.heap.size wr w7 := (ba (brefl wr) _).grown hg7 (by simp) (fun k hk => by cases hk; exact Nat.le_refl _); have HG7 := Lib.hid ((hb7.block _ (row_lt HG.out)).trans HG.out); have HZ7 := Lib.hid ((hb7.block _ (row_lt HZ.out)).trans HZ.out); have HO7 := Lib.hid (HO.out.keep hb7); have HB7 := Lib.hid (HB.out.trans (hb7.mono HB.out.size)); have kJ := blk_cell hr7 J (by rw [L1.out]; exact hJ64); have k2 := row_cell (v := .slice A1 n c1) HG7.out 2 rfl; have hz7 : w.heap.size + 2 ≤ w7.heap.size := Nat.le_trans hgs hb7.size; clear hr7 hg7 hs7 hb7) | (at_builtin; refine Tin.wpl_push btI w7 w7 (255) rfl (.tmp 50) (.tmp 53) rfl (w.heap.size + 2) A1 n c1 (grid (joinV zs a) wd y ++ lin (joinV zs a) y x) rfl HO7.out (Below.refl _ _) hz7 rfl (by omega) (by omega) ?_; intro A6 c6 w6 ho6 hbe6 hz6 hg6 how6; have HO6 := Lib.hid ho6; have HG6 := Lib.hid ((hg6.block _ (row_lt HG7.out) (fun e => by have := (HLO.out _ e.symm).1; have := HGG.out; omega)).trans HG7.out); have HZ6 := Lib.hid ((hg6.block _ (row_lt HZ7.out) (fun e => by have := (HLO.out _ e.symm).1; omega)).trans HZ7.out); have HB6 := Lib.hid (HB7.out.grown hg6 HB7.out.size (fun q hq => by have := (HLO.out q hq).1; omega)); have cc6 := row_cell (v := .slice A1 n c1) HG6.out 2 rfl; have f6 := frozen_of_row w6 g 2 _ _ HG6.out; clear ho6 hbe6 hg6 how6))
        have hk6 := grown_setCells g [.slice A6 (n + 1) c6] 2 w6 w6 (World.grownBy.refl w6 _)
        exact ⟨⟨x + 1, A6, n + 1, c6, by omega, rfl, row_set HG6.out 2 _, by rw [heap_setCell_other _ _ _ _ (by have := HGG.out; show w.heap.size ≠ g; omega)]; exact HZ6.out, by rw [lin, ← List.append_assoc, HE.out, HSM.out, HV.out]; exact HO6.out.kept hk6 (ne_own (fun q hq => by have := (World.ownsRow.lt HO6.out q hq).1; have := HGG.out; omega)), HB6.out.setCell (by have := HGG.out; show w.heap.size ≤ g; omega) _, by simp only [World.setCell]; simp; omega⟩, by simp only [intOf]; omega⟩
      · have HV := Lib.hid (show (if nth z0 J < -128 then -128 else if 127 < nth z0 J then 127 else nth z0 J) + 128 = nth z0 J + 128 by rw [if_neg (by omega), if_neg hhi])
        have hhi' : nth z0 J ≤ 127 := by omega
        clear hhi
        go_wp2_with (first | ((with_reducible refine wpl_loadv rt64 ?_ (.tmp 35) ?_ b (off + P * 64) ?_ (iv z0) ?_ E1.out ?_); rfl; rfl; rfl; exact LZ.out; simp only [Act.put, List.setIfInBounds_toArray, List.set_cons_succ, List.set_cons_zero]) | ((with_reducible refine wpl_store_row rt64 ?_ (.tmp 12) (.tmp 36) ?_ (wr.heap.size) ?_ (arr .i64 z0) ?_ arr_one 67 ?_ _ ?_ (heap_alloc_new wr _) ?_); rfl; rfl; rfl; rfl; (rw [arr_size]; exact L1.out); rfl; intro w7 hr7 hg7 hs7; have hb7 : Below wr.heap.size wr w7 := (ba (brefl wr) _).grown hg7 (by simp) (fun k hk => by cases hk; exact Nat.le_refl _); have HG7 := Lib.hid ((hb7.block _ (row_lt HG.out)).trans HG.out); have HZ7 := Lib.hid ((hb7.block _ (row_lt HZ.out)).trans HZ.out); have HO7 := Lib.hid (HO.out.keep hb7); have HB7 := Lib.hid (HB.out.trans (hb7.mono HB.out.size)); have kJ := blk_cell hr7 J (by rw [L1.out]; exact hJ64); have k2 := row_cell (v := .slice A1 n c1) HG7.out 2 rfl; have hz7 : w.heap.size + 2 ≤ w7.heap.size := Nat.le_trans hgs hb7.size; clear hr7 hg7 hs7 hb7) | (at_builtin; refine Tin.wpl_push btI w7 w7 (nth z0 J + 128) rfl (.tmp 50) (.tmp 53) rfl (w.heap.size + 2) A1 n c1 (grid (joinV zs a) wd y ++ lin (joinV zs a) y x) rfl HO7.out (Below.refl _ _) hz7 rfl (by omega) (by omega) ?_; intro A6 c6 w6 ho6 hbe6 hz6 hg6 how6; have HO6 := Lib.hid ho6; have HG6 := Lib.hid ((hg6.block _ (row_lt HG7.out) (fun e => by have := (HLO.out _ e.symm).1; have := HGG.out; omega)).trans HG7.out); have HZ6 := Lib.hid ((hg6.block _ (row_lt HZ7.out) (fun e => by have := (HLO.out _ e.symm).1; omega)).trans HZ7.out); have HB6 := Lib.hid (HB7.out.grown hg6 HB7.out.size (fun q hq => by have := (HLO.out q hq).1; omega)); have cc6 := row_cell (v := .slice A1 n c1) HG6.out 2 rfl; have f6 := frozen_of_row w6 g 2 _ _ HG6.out; clear ho6 hbe6 hg6 how6))
        have hk6 := grown_setCells g [.slice A6 (n + 1) c6] 2 w6 w6 (World.grownBy.refl w6 _)
        exact ⟨⟨x + 1, A6, n + 1, c6, by omega, rfl, row_set HG6.out 2 _, by rw [heap_setCell_other _ _ _ _ (by have := HGG.out; show w.heap.size ≠ g; omega)]; exact HZ6.out, by rw [lin, ← List.append_assoc, HE.out, HSM.out, HV.out]; exact HO6.out.kept hk6 (ne_own (fun q hq => by have := (World.ownsRow.lt HO6.out q hq).1; have := HGG.out; omega)), HB6.out.setCell (by have := HGG.out; show w.heap.size ≤ g; omega) _, by simp only [World.setCell]; simp; omega⟩, by simp only [intOf]; omega⟩
end Go.Proofs.Ytajobboldjgidaa
