/- The blocks of a plane. -/
import Derived.Test.YtajobboldjgidaaSmG
namespace Go.Proofs.Ytajobboldjgidaa
open Go.RowKit
open Go.Tin
set_option linter.unusedVariables false
set_option linter.unusedSimpArgs false


/-- May a plane be taken apart into so many blocks? -/
def okBl (W H : Int) (v : List Int) (a d : Int) : Bool := mayP W H v && ((okF a && okF d) && (decide (W ≤ 8 * a) && decide (H ≤ 8 * d)))
/-- The number at a place of a block. -/
def blkV (W H : Int) (v : List Int) (a n i : Nat) : Int := nearV W H v (8 * ((n : Int) % (a : Int)) + (i : Int) % 8) (8 * ((n : Int) / (a : Int)) + (i : Int) / 8) - 128
/-- Blocks, one behind the other. -/
def blF (f : Nat → Nat → Int) : Nat → List Int
  | 0 => []
  | n + 1 => blF f n ++ full 64 (f n)
theorem blF_len (f : Nat → Nat → Int) : ∀ n, (blF f n).length = n * 64
  | 0 => rfl
  | n + 1 => by rw [blF, List.length_append, blF_len f n, full_len]; omega
theorem mayP_all {W H : Int} {v : List Int} (h : mayP W H v = true) : v.all okV = true := by
  unfold mayP at h
  simp only [Bool.and_eq_true] at h
  exact h.2.2
theorem mayP_W {W H : Int} {v : List Int} (h : mayP W H v = true) : 1 ≤ W ∧ W ≤ 4096 := by
  unfold mayP at h
  simp only [Bool.and_eq_true] at h
  exact okS_t h.1.1
theorem mayP_H {W H : Int} {v : List Int} (h : mayP W H v = true) : 1 ≤ H ∧ H ≤ 4096 := by
  unfold mayP at h
  simp only [Bool.and_eq_true] at h
  exact okS_t h.1.2
theorem mayP_n {W H : Int} {v : List Int} (h : mayP W H v = true) : (v.length : Int) = W * H := by
  unfold mayP at h
  simp only [Bool.and_eq_true, beq_iff_eq] at h
  exact h.2.1
theorem brefl' (w : World) (B : Nat) : Below B w w := Below.refl B w
theorem ownv_ne {v : Value} {g : Nat} (h : ∀ q, v.ownBlock = some q → q ≠ g) : v.ownBlock = none ∨ v.ownBlock ≠ some g := by
  cases hq : v.ownBlock with
  | none => exact .inl rfl
  | some q => exact .inr fun e => h q hq (Option.some.inj e)
theorem sl_two (w : World) (a d : Int) : Sl .i64 (w.alloc (.cells #[.int .i64 a, .int .i64 d] 3)) (some ⟨w.heap.size, 0, none⟩) [a, d] := Sl.new_ w _ _ _ rfl
set_option maxRecDepth 100000 in
set_option maxHeartbeats 4000000 in
theorem blocks_no (W H a d : Int) (A : Option Addr) (c : Nat) (v : List Int) (w : World) (hs : Sl .i64 w A v) (hn : v.length ≤ 1000000000) (hno : okBl W H v a d = false) :
    Calls Try.prog 10 #[plA W H A v.length c, .int .i64 a, .int .i64 d] w fun e w' => e = .returned (.tuple #[.slice none 0 0, .int .i64 1]) ∧ Below w.heap.size w w' := by
  obtain ⟨r0, hb, hz⟩ := alloc1 w (.cells (plrow W H A v.length c) 24)
  have R0 := Lib.hid r0
  have HV := Lib.hid (hs.keep hb)
  have HB := Lib.hid hb
  have HNO := Lib.hid (show (mayP W H v && ((okF a && okF d) && (decide (W ≤ 8 * a) && decide (H ≤ 8 * d)))) = false from hno)
  clear hs r0 hb hno
  go_enter Try.func10, Try.ntmps10
  go_wp2_with ((with_reducible refine wpl_load_row rtP ?_ (.tmp 3) ?_ (w.heap.size) ?_ 24 (plrow W H A v.length c) ?_ R0.out ?_); rfl; rfl; rfl; rfl; simp only [Act.put, List.setIfInBounds_toArray, List.set_cons_succ, List.set_cons_zero])
  refine (right_any W H A c v _ HV.out hn).mono ?_
  rintro e w1 ⟨rfl, hb1⟩
  replace R0 := Lib.hid ((hb1.block _ (row_lt R0.out)).trans R0.out)
  replace HB := Lib.hid (HB.out.trans (hb1.mono HB.out.size))
  clear hb1
  cases hm : mayP W H v with
  | false =>
    clear hm
    go_wp2_with fail
    go_ret2
    exact ⟨rfl, HB.out⟩
  | true =>
  rw [hm, Bool.true_and] at HNO
  clear hm
  go_wp2_with fail
  have hb2 := ba (brefl w1) (.cells #[.int .i64 a, .int .i64 d] 3)
  have HL := sl_two w1 a d
  replace R0 := Lib.hid ((hb2.block _ (row_lt R0.out)).trans R0.out)
  replace HB := Lib.hid (HB.out.trans (hb2.mono HB.out.size))
  clear hb2
  generalize (w1.alloc (.cells #[.int .i64 a, .int .i64 d] 3)) = w2 at *
  refine (few_any _ 2 [a, d] w2 HL (by simp)).mono ?_
  rintro e w3 ⟨rfl, rfl⟩
  rw [show [a, d].all okF = (okF a && okF d) by simp]
  clear HL
  have k0 := row_cell (v := .int .i64 W) R0.out 0 rfl
  have k1 := row_cell (v := .int .i64 H) R0.out 1 rfl
  cases hm : (okF a && okF d) with
  | false =>
    clear hm
    go_wp2_with fail
    go_ret2
    exact ⟨rfl, HB.out⟩
  | true =>
  rw [hm, Bool.true_and] at HNO
  rw [Bool.and_eq_true] at hm
  obtain ⟨a0, a1⟩ := okF_t hm.1
  obtain ⟨d0, d1⟩ := okF_t hm.2
  clear hm
  by_cases hWa : 8 * a < W
  · have q1 := decide_eq_true hWa
    clear hWa
    go_wp2_with fail
    go_ret2
    exact ⟨rfl, HB.out⟩
  · have HX := Lib.hid (show decide (H ≤ 8 * d) = false by have := HNO.out; rw [decide_eq_true (show W ≤ 8 * a by omega), Bool.true_and] at this; exact this)
    have hHd : 8 * d < H := by have := of_decide_eq_false HX.out; omega
    clear HNO HX
    go_wp2_with fail
    go_ret2
    exact ⟨rfl, HB.out⟩
set_option maxRecDepth 100000 in
set_option maxHeartbeats 4000000 in
theorem blocks_yes (W H : Int) (a d : Nat) (A : Option Addr) (c : Nat) (v : List Int) (w : World) (hs : Sl .i64 w A v) (hn : v.length ≤ 1000000000) (hmay : mayP W H v = true) (ha : 1 ≤ a ∧ a ≤ 512) (hd : 1 ≤ d ∧ d ≤ 512) (hWa : W ≤ 8 * (a : Int)) (hHd : H ≤ 8 * (d : Int)) :
    Calls Try.prog 10 #[plA W H A v.length c, .int .i64 (a : Int), .int .i64 (d : Int)] w fun e w' => ∃ A' c', e = .returned (.tuple #[.slice A' (a * d) c', .int .i64 0]) ∧
      OwnV 67 64 w' w.heap.size (.slice A' (a * d) c') (a * d) (iv (blF (blkV W H v a) (a * d))) ∧ Below w.heap.size w w' := by
  obtain ⟨r0, hb, hz⟩ := alloc1 w (.cells (plrow W H A v.length c) 24)
  have R0 := Lib.hid r0
  have HV := Lib.hid (hs.keep hb)
  have HVW := Lib.hid hs
  have HB := Lib.hid hb
  have HM := Lib.hid hmay
  clear hs r0 hb hmay
  obtain ⟨a0, a1⟩ := ha
  obtain ⟨d0, d1⟩ := hd
  have hkA : okF (a : Int) = true := by unfold okF; simp; omega
  have hkD : okF (d : Int) = true := by unfold okF; simp; omega
  have HKK := Lib.hid (show [(a : Int), (d : Int)].all okF = true by simp [hkA, hkD])
  clear hkA hkD
  obtain ⟨N, hN⟩ : ∃ N, a * d = N := ⟨_, rfl⟩
  have hNe : (a : Int) * (d : Int) = (N : Int) := by rw [← hN]; exact (Int.natCast_mul a d).symm
  have m1 : N ≤ 262144 := by rw [← hN]; exact Nat.mul_le_mul a1 d1
  have m2 : (0 : Int) ≤ (a : Int) * (d : Int) := by omega
  have m3 : (a : Int) * (d : Int) ≤ 262144 := by omega
  have HNE := Lib.hid hNe
  rw [hN]
  have HMN := Lib.hid hN
  clear hN hNe
  go_enter Try.func10, Try.ntmps10
  go_wp2_with ((with_reducible refine wpl_load_row rtP ?_ (.tmp 3) ?_ (w.heap.size) ?_ 24 (plrow W H A v.length c) ?_ R0.out ?_); rfl; rfl; rfl; rfl; simp only [Act.put, List.setIfInBounds_toArray, List.set_cons_succ, List.set_cons_zero])
  refine (right_any W H A c v _ HV.out hn).mono ?_
  rintro e w1 ⟨rfl, hb1⟩
  rw [HM.out]
  replace R0 := Lib.hid ((hb1.block _ (row_lt R0.out)).trans R0.out)
  replace HV := Lib.hid (HV.out.keep hb1)
  replace HB := Lib.hid (HB.out.trans (hb1.mono HB.out.size))
  have HZ := Lib.hid (show w.heap.size + 1 ≤ w1.heap.size by have := hb1.size; omega)
  clear hb1
  go_wp2_with fail
  have hb2 := ba (brefl w1) (.cells #[.int .i64 a, .int .i64 d] 3)
  have HL := sl_two w1 a d
  replace R0 := Lib.hid ((hb2.block _ (row_lt R0.out)).trans R0.out)
  replace HV := Lib.hid (HV.out.keep hb2)
  replace HB := Lib.hid (HB.out.trans (hb2.mono HB.out.size))
  replace HZ := Lib.hid (Nat.le_trans HZ.out hb2.size)
  clear hb2
  generalize (w1.alloc (.cells #[.int .i64 a, .int .i64 d] 3)) = w2 at *
  refine (few_any _ 2 [(a : Int), (d : Int)] w2 HL (by simp)).mono ?_
  rintro e w3 ⟨rfl, rfl⟩
  rw [HKK.out]
  clear HL HKK
  have k0 := row_cell (v := .int .i64 W) R0.out 0 rfl
  have k1 := row_cell (v := .int .i64 H) R0.out 1 rfl
  go_wp2_with fail
  clear k0 k1
  rw [HNE.out]
  go_loopw [39, 8] (fun s39 s8 wr => ∃ (n : Nat) (A1 : Option Addr) (c1 : Nat), n ≤ N ∧ s39 = .int .i64 (n : Int) ∧ s8 = .slice A1 n c1 ∧ OwnV 67 64 wr (w.heap.size + 1) (.slice A1 n c1) n (iv (blF (blkV W H v a) n)) ∧
      wr.heap[w.heap.size]? = some (.cells (plrow W H A v.length c) 24 (0, 0)) ∧ Below w.heap.size w wr ∧ w.heap.size + 1 ≤ wr.heap.size) (fun s39 _ _ => N - (intOf s39).toNat)
  case atStart => exact ⟨0, none, 0, by omega, rfl, rfl, OwnV.nil_ _ _ _ _, R0.out, HB.out, HZ.out⟩
  case round =>
    clear R0 HB HZ
    obtain ⟨n, A1, c1, hnn, rfl, rfl, hO, hR, hb, hgs⟩ := hrel
    have HO := Lib.hid hO
    have R0 := Lib.hid hR
    have HB := Lib.hid hb
    clear hO hR hb
    by_cases hlt : n < N
    case neg =>
      obtain rfl : n = N := by omega
      go_wp2_with fail
      go_ret2
      exact ⟨A1, c1, rfl, HO.out.mono (by omega), HB.out⟩
    have i1 : (n : Int) < (N : Int) := by omega
    go_wp2_with fail
    obtain ⟨w6, rfl⟩ : ∃ w6, w6 = wr := ⟨_, rfl⟩
    have HLW := Lib.hid (World.ownsRow.lt HO.out)
    generalize hW0 : w6.alloc _ = W0 at *
    have hb7 : Below w6.heap.size w6 W0 := by rw [← hW0]; exact ba (brefl w6) _
    have hz7 : W0.heap.size = w6.heap.size + 1 := by rw [← hW0]; simp
    have hg0 : W0.heap[w6.heap.size]? = some (.cells (arr .i64 (tell 64 (blkV W H v a n) 0)) 67 (0, 0)) := by
      rw [tell_zero, arr_rep, ← hW0]
      exact heap_alloc_new w6 _
    clear hW0
    have HO7 := Lib.hid (HO.out.keep hb7)
    have R7 := Lib.hid ((hb7.block _ (row_lt R0.out)).trans R0.out)
    have HB7 := Lib.hid (HB.out.trans (hb7.mono HB.out.size))
    clear hb7 HO R0 HB
    go_loopw [42] (fun s42 wr => ∃ (i : Nat), i ≤ 64 ∧ s42 = .int .i64 (i : Int) ∧ wr.heap[w6.heap.size]? = some (.cells (arr .i64 (tell 64 (blkV W H v a n) i)) 67 (0, 0)) ∧ OwnV 67 64 wr (w.heap.size + 1) (.slice A1 n c1) n (iv (blF (blkV W H v a) n)) ∧
        wr.heap[w.heap.size]? = some (.cells (plrow W H A v.length c) 24 (0, 0)) ∧ Below w.heap.size w wr ∧ w6.heap.size + 1 ≤ wr.heap.size) (fun s42 _ => 64 - (intOf s42).toNat)
    case atStart => exact ⟨0, by omega, rfl, hg0, HO7.out, R7.out, HB7.out, by omega⟩
    case round =>
      clear HO7 R7 HB7 hg0 hz7
      obtain ⟨i, hi, rfl, hG, hO, hR, hb, hgs2⟩ := hrel
      have HG := Lib.hid hG
      have HO := Lib.hid hO
      have R0 := Lib.hid hR
      have HB := Lib.hid hb
      clear hG hO hR hb
      by_cases hi64 : i < 64
      case neg =>
        obtain rfl : i = 64 := by omega
        obtain ⟨cs, hcs⟩ : ∃ cs, arr .i64 (tell 64 (blkV W H v a n) 64) = cs := ⟨_, rfl⟩
        have HC1 := Lib.hid (show cs.size = 64 by rw [← hcs]; simp)
        have HC2 := Lib.hid (show cs.toList = iv (full 64 (blkV W H v a n)) by rw [← hcs, tell_all, arr_toList])
        rw [hcs] at HG
        clear hcs
        have HC3 := Lib.hid (show ∀ u ∈ cs.toList, u.oneCell' = true by rw [HC2.out]; intro u hu; obtain ⟨z, _, rfl⟩ := List.mem_map.1 hu; rfl)
        have hBr : w.heap.size + 1 ≤ wr.heap.size := by omega
        go_wp2_with (first | ((with_reducible refine wpl_load_row rt64 ?_ (.tmp 10) ?_ (w6.heap.size) ?_ 67 cs ?_ HG.out ?_); rfl; rfl; rfl; exact HC1.out; simp only [Act.put, List.setIfInBounds_toArray, List.set_cons_succ, List.set_cons_zero]) | ((with_reducible refine wpl_bslice sv64 ?_ (.tmp 67) ?_ cs ?_ HC1.out ?_ ?_); rfl; rfl; rfl; decide; simp only [Act.put, List.setIfInBounds_toArray, List.set_cons_succ, List.set_cons_zero]) | (at_builtin; refine Tin.wplv_push sv64 wr cs rfl (.tmp 66) (.tmp 68) rfl (w.heap.size + 1) A1 n c1 (iv (blF (blkV W H v a) n)) rfl HO.out hBr rfl HC1.out HC3.out (by omega) (by omega) ?_; intro A4 c4 w4 ho4 hg4 how4; have HO4 := Lib.hid ho4; have HG4 := Lib.hid hg4; clear ho4 hg4 how4))
        have hlw : ∀ q, (Value.slice A1 n c1).ownBlock = some q → w.heap.size + 1 ≤ q := fun q hq => (World.ownsRow.lt HO.out q hq).1
        exact ⟨⟨n + 1, A4, c4, by omega, rfl, rfl, by have h := HO4.out; rw [HC2.out, ← List.map_append] at h; exact h, (HG4.out.block _ (row_lt R0.out) (fun e => by have := hlw _ e.symm; omega)).trans R0.out, HB.out.grown HG4.out HB.out.size (fun q hq => by have := hlw q hq; omega), Nat.le_trans hBr HG4.out.size⟩, by simp only [intOf]; omega⟩
      have i2 : (i : Int) < 64 := by omega
      have LT0 : w.heap.size < w6.heap.size := by omega
      have p0 : 0 ≤ (n : Int) % (a : Int) := Int.emod_nonneg _ (by omega)
      have p1 : (n : Int) % (a : Int) < (a : Int) := Int.emod_lt_of_pos _ (by omega)
      have p2 : 0 ≤ (n : Int) / (a : Int) := Int.ediv_nonneg (by omega) (by omega)
      have p3 : (n : Int) / (a : Int) < (d : Int) := Int.ediv_lt_of_lt_mul (by omega) (by rw [Int.mul_comm, HNE.out]; exact i1)
      have HBV := Lib.hid (near_bd (W := W) (H := H) (v := v) (mayP_all HM.out) (8 * ((n : Int) % (a : Int)) + (i : Int) % 8) (8 * ((n : Int) / (a : Int)) + (i : Int) / 8))
      have HBL := Lib.hid (show blkV W H v a n i = nearV W H v (8 * ((n : Int) % (a : Int)) + (i : Int) % 8) (8 * ((n : Int) / (a : Int)) + (i : Int) / 8) - 128 from rfl)
      have R0d := Lib.hid (show wr.drew.heap[w.heap.size]? = some (.cells (plrow W H A v.length c) 24 (0, 0)) from R0.out)
      go_wp2_with fail
      refine Tin.reg_begin w6.heap.size 21 (by rfl) (by kernel_rfl) ?_
      refine Tin.reg_quiets [0, 1, 2, 3, 4, 5, 6, 7, 8, 9, 10, 11, 12, 13, 14, 15, 16] _ 4 rfl (by simp only [Tin.pick, List.map_cons, List.map_nil, Array.getD_eq_getD_getElem?, List.getElem?_toArray, List.getElem?_cons_zero, List.getElem?_cons_succ, Option.getD_some]; rfl) (by kernel_rfl) (by kernel_rfl) ?_
      repeat (first | ((with_reducible refine wpq_load_row rtP ?_ (.tmp 3) ?_ (w.heap.size) ?_ 24 (plrow W H A v.length c) ?_ (fun W h => by obtain ⟨p, rfl⟩ := h; exact (p.h.block _ LT0).trans R0d.out) ?_); rfl; rfl; rfl; rfl; simp only [Act.put, List.setIfInBounds_toArray, List.set_cons_succ, List.set_cons_zero]) | go_big_quiet_step (fail))
      refine wpQuiet_nil ?_
      refine Tin.reg_one 17 _ rfl (by kernel_rfl) ?_
      try simp only [List.getElem_toArray, List.getElem_cons_succ, List.getElem_cons_zero]
      go_wp2_with fail
      refine (near_any W H _ _ A c v _ (HVW.out.keep (ud' HB.out)) (mayP_W HM.out) (mayP_H HM.out) (mayP_n HM.out) (by omega) (by omega)).mono ?_
      rintro e w5 ⟨rfl, hb5⟩
      obtain ⟨b0, b1⟩ := HBV.out
      generalize nearV W H v (8 * ((n : Int) % (a : Int)) + (i : Int) % 8) (8 * ((n : Int) / (a : Int)) + (i : Int) / 8) = x at *
      clear HBV p0 p1 p2 p3 R0d
      have HG5 := Lib.hid ((hb5.block _ (row_lt HG.out)).trans HG.out)
      have R5 := Lib.hid ((hb5.block _ (row_lt R0.out)).trans R0.out)
      have HO5 := Lib.hid ((HO.out.drew).keep hb5)
      have HB5 := Lib.hid ((ud' HB.out).trans (hb5.mono HB.out.size))
      have hgs5 : w6.heap.size + 1 ≤ w5.heap.size := Nat.le_trans hgs2 hb5.size
      have HV5 := Lib.hid (hb5.mono (show w6.heap.size ≤ wr.drew.heap.size from Nat.le_of_succ_le hgs2))
      clear hb5 HG R0 HO HB
      go_wp2_with fail
      refine ⟨w6.heap.size, HV5.out, Nat.le_refl _, ?_⟩
      clear HV5
      refine Tin.reg_quiets [18, 19] _ 1 rfl (by simp only [Tin.pick, List.map_cons, List.map_nil, Array.getD_eq_getD_getElem?, List.getElem?_toArray, List.getElem?_cons_zero, List.getElem?_cons_succ, Option.getD_some]; rfl) (by kernel_rfl) (by kernel_rfl) ?_
      repeat (first | go_big_quiet_step (fail))
      refine wpQuiet_nil ?_
      have c5 := blk_cell HG5.out i (by simp; exact hi64)
      have f5 := frozen_of_row w5 w6.heap.size i _ _ HG5.out
      refine Tin.reg_one 20 _ rfl (by kernel_rfl) ?_
      try simp only [List.getElem_toArray, List.getElem_cons_succ, List.getElem_cons_zero]
      go_wp2_with fail
      refine ⟨w6.heap.size, bset (brefl' w5 _) _ _ _ (Nat.le_refl _), Nat.le_refl _, ?_⟩
      refine Tin.reg_done (by kernel_rfl) ?_
      go_wp2_with fail
      have hk6 := grown_setCells w6.heap.size [.int .i64 (x - 128)] i w5 w5 (World.grownBy.refl w5 _)
      exact ⟨⟨i + 1, by omega, rfl, by rw [blk_set HG5.out, ← tell_set _ _ _ hi64, HBL.out], HO5.out.kept hk6 (ownv_ne (fun q hq => by have := (HLW.out q hq).2; omega)), (heap_setCell_other _ _ _ _ (by show w.heap.size ≠ w6.heap.size; omega)).trans R5.out, HB5.out.setCell (by show w.heap.size ≤ w6.heap.size; omega) _, by simp only [World.setCell]; simp; omega⟩, by simp only [intOf]; omega⟩
end Go.Proofs.Ytajobboldjgidaa
