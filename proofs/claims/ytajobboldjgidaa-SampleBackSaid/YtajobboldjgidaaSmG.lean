/- Blocks compared; a slice of one element of many cells. -/
import Derived.Test.YtajobboldjgidaaSmF
namespace Go.Proofs.Ytajobboldjgidaa
open Go.RowKit
open Go.Tin
set_option linter.unusedVariables false
set_option linter.unusedSimpArgs false


abbrev iv (zs : List Int) : List Value := zs.map (Value.int .i64)
/-- The block of a row's cells. -/
def blkO (zs : List Int) (i : Nat) : List Int := (zs.drop (i * 64)).take 64
theorem rt64 : RT Try.prog 67 64 := RT.of Try.underlying67 rfl (by kernel_rfl)
theorem sv64 : SV Try.prog 25 67 64 512 := SV.of Try.underlying25 (by kernel_rfl) (by decide)
theorem at64 : AT Try.prog 67 3 .i64 64 := ⟨Try.underlying67, Try.underlying3, by kernel_rfl, by kernel_rfl⟩
theorem eq64 : Try.prog.eqGuardType Try.prog.depth 67 = false := by kernel_rfl
theorem blk_len {zs : List Int} {n i : Nat} (h : zs.length = n * 64) (hi : i < n) : (blkO zs i).length = 64 := by
  unfold blkO
  simp only [List.length_take, List.length_drop]
  omega
theorem blk_rng {w : World} {b off : Nat} {zs : List Int} (h : SlV w (some ⟨b, off, none⟩) (iv zs)) (i : Nat) (hi : i * 64 + 64 ≤ zs.length) : w.rangeAt b (off + i * 64) (iv (blkO zs i)) := by
  have h1 := h.rng (i * 64) 64 (by simpa using hi)
  rw [← List.map_drop, ← List.map_take] at h1
  exact h1
theorem take64 {zs : List Int} {i : Nat} : zs.take ((i + 1) * 64) = zs.take (i * 64) ++ blkO zs i := by
  rw [show (i + 1) * 64 = i * 64 + 64 by omega, List.take_add]
  rfl
set_option maxRecDepth 100000 in
set_option maxHeartbeats 4000000 in
theorem alike_any (A A' : Option Addr) (n m c d : Nat) (zs ys : List Int) (w : World) (hs : SlV w A (iv zs)) (ht : SlV w A' (iv ys)) (hz : zs.length = n * 64) (hy : ys.length = m * 64) (hn : n ≤ 1000000) (hm : m ≤ 1000000) :
    Calls Try.prog 13 #[.slice A n c, .slice A' m d] w fun e w' => e = .returned (.bool (decide (zs = ys))) ∧ Below w.heap.size w w' := by
  have HS := Lib.hid hs
  have HT := Lib.hid ht
  have HZ := Lib.hid hz
  have HY := Lib.hid hy
  clear hs ht hz hy
  by_cases hnm : n = m
  · subst hnm
    go_enter Try.func13, Try.ntmps13
    go_wp2_with fail
    go_loopw [5] (fun s5 wr => ∃ i : Nat, i ≤ n ∧ s5 = .int .i64 (i : Int) ∧ zs.take (i * 64) = ys.take (i * 64) ∧ Below w.heap.size w wr) (fun s5 _ => n - (intOf s5).toNat)
    case atStart => exact ⟨0, by omega, rfl, by simp, brefl w⟩
    case round =>
      obtain ⟨i, hi, rfl, htk, hb⟩ := hrel
      have HK := Lib.hid htk
      have HB := Lib.hid hb
      clear htk hb
      by_cases hin : i < n
      · have i1 : (i : Int) < (n : Int) := by omega
        have h4z : i * 64 + 64 ≤ zs.length := by rw [HZ.out]; omega
        have h4y : i * 64 + 64 ≤ ys.length := by rw [HY.out]; omega
        obtain ⟨b, off, rfl, -, -⟩ := HS.out.at_ (by simp; omega)
        obtain ⟨b', off', rfl, -, -⟩ := HT.out.at_ (by simp; omega)
        have E1 := Lib.hid (fun (W : World) (h : Below w.heap.size w W) => blk_rng (HS.out.keep h) i h4z)
        have E2 := Lib.hid (fun (W : World) (h : Below w.heap.size w W) => blk_rng (HT.out.keep h) i h4y)
        have L1 := Lib.hid (blk_len HZ.out hin)
        have L2 := Lib.hid (blk_len HY.out hin)
        have HT1 := Lib.hid (take64 (zs := zs) (i := i))
        have HT2 := Lib.hid (take64 (zs := ys) (i := i))
        have HNO := Lib.hid (show blkO zs i ≠ blkO ys i → zs ≠ ys from fun h e => h (by rw [e]))
        clear h4z h4y
        generalize blkO zs i = z0 at *
        generalize blkO ys i = y0 at *
        by_cases hc : z0 = y0
        · have HC := Lib.hid (show (!decide (z0 = y0)) = false by rw [decide_eq_true hc]; rfl)
          have HQ := Lib.hid hc
          clear hc HNO
          go_wp2_with fail
          refine Tin.reg_begin w.heap.size 9 (by rfl) (by kernel_rfl) ?_
          refine Tin.reg_quiets [0, 1, 2, 3, 4, 5, 6, 7, 8] _ 0 rfl (by simp only [Tin.pick, List.map_cons, List.map_nil, Array.getD_eq_getD_getElem?, List.getElem?_toArray, List.getElem?_cons_zero, List.getElem?_cons_succ, Option.getD_some]; rfl) (by kernel_rfl) (by kernel_rfl) ?_
          repeat (first | ((with_reducible refine wpq_loadv rt64 ?_ (.tmp 19) rfl b (off + i * 64) ?_ (iv z0) ?_ (fun W h => by obtain ⟨p, rfl⟩ := h; exact E1.out _ (HB.out.trans (ud p.h))) ?_); rfl; rfl; (exact (List.length_map ..).trans L1.out); simp only [Act.put, List.setIfInBounds_toArray, List.set_cons_succ, List.set_cons_zero]) | ((with_reducible refine wpq_loadv rt64 ?_ (.tmp 23) rfl b' (off' + i * 64) ?_ (iv y0) ?_ (fun W h => by obtain ⟨p, rfl⟩ := h; exact E2.out _ (HB.out.trans (ud p.h))) ?_); rfl; rfl; (exact (List.length_map ..).trans L2.out); simp only [Act.put, List.setIfInBounds_toArray, List.set_cons_succ, List.set_cons_zero]) | ((refine wpq_ne_arr (l := z0) (l' := y0) at64 eq64 rfl (.tmp 20) (.tmp 24) 67 rfl rfl rfl L1.out L2.out false HC.out ?_); simp only [Act.put, List.setIfInBounds_toArray, List.set_cons_succ, List.set_cons_zero]) | go_big_quiet_step (fail))
          refine wpQuiet_nil ?_
          refine Tin.reg_done (by kernel_rfl) ?_
          go_wp2_with fail
          exact ⟨⟨i + 1, by omega, rfl, by rw [HT1.out, HT2.out, HK.out, HQ.out], ud' HB.out⟩, by simp only [intOf]; omega⟩
        · have HC := Lib.hid (show (!decide (z0 = y0)) = true by rw [decide_eq_false hc]; rfl)
          have HQ := Lib.hid (HNO.out hc)
          clear hc HNO
          go_wp2_with fail
          refine Tin.reg_begin w.heap.size 9 (by rfl) (by kernel_rfl) ?_
          refine Tin.reg_quiets [0, 1, 2, 3, 4, 5, 6, 7, 8] _ 0 rfl (by simp only [Tin.pick, List.map_cons, List.map_nil, Array.getD_eq_getD_getElem?, List.getElem?_toArray, List.getElem?_cons_zero, List.getElem?_cons_succ, Option.getD_some]; rfl) (by kernel_rfl) (by kernel_rfl) ?_
          repeat (first | ((with_reducible refine wpq_loadv rt64 ?_ (.tmp 19) rfl b (off + i * 64) ?_ (iv z0) ?_ (fun W h => by obtain ⟨p, rfl⟩ := h; exact E1.out _ (HB.out.trans (ud p.h))) ?_); rfl; rfl; (exact (List.length_map ..).trans L1.out); simp only [Act.put, List.setIfInBounds_toArray, List.set_cons_succ, List.set_cons_zero]) | ((with_reducible refine wpq_loadv rt64 ?_ (.tmp 23) rfl b' (off' + i * 64) ?_ (iv y0) ?_ (fun W h => by obtain ⟨p, rfl⟩ := h; exact E2.out _ (HB.out.trans (ud p.h))) ?_); rfl; rfl; (exact (List.length_map ..).trans L2.out); simp only [Act.put, List.setIfInBounds_toArray, List.set_cons_succ, List.set_cons_zero]) | ((refine wpq_ne_arr (l := z0) (l' := y0) at64 eq64 rfl (.tmp 20) (.tmp 24) 67 rfl rfl rfl L1.out L2.out true HC.out ?_); simp only [Act.put, List.setIfInBounds_toArray, List.set_cons_succ, List.set_cons_zero]) | go_big_quiet_step (fail))
          refine wpQuiet_nil ?_
          refine Tin.reg_done (by kernel_rfl) ?_
          go_wp2_with fail
          go_ret
          exact ⟨ret_bool (by rw [decide_eq_false HQ.out]), ud' HB.out⟩
      · obtain rfl : i = n := by omega
        have HQ := Lib.hid (show zs = ys by have := HK.out; rw [List.take_of_length_le (by rw [HZ.out]; exact Nat.le_refl _), List.take_of_length_le (by rw [HY.out]; exact Nat.le_refl _)] at this; exact this)
        go_wp2_with fail
        go_ret
        exact ⟨ret_bool (by rw [decide_eq_true HQ.out]), HB.out⟩
  · have HQ := Lib.hid (show zs ≠ ys from fun e => hnm (by have h1 := HZ.out; have h2 := HY.out; rw [e] at h1; omega))
    have d1 : ((n : Int) != (m : Int)) = true := by simp; omega
    go_enter Try.func13, Try.ntmps13
    go_wp2_with fail
    go_ret
    exact ⟨ret_bool (by rw [decide_eq_false HQ.out]), brefl w⟩
theorem zip_over (o : Nat) : ∀ (vs : List Value) (k : Nat) (cur : Array Value), (vs.zipIdx k).foldl (fun cs (x : Value × Nat) => cs.setIfInBounds (o + x.2) x.1) cur = over cur (o + k) vs
  | [], _, _ => rfl
  | v :: vs, k, cur => by
    rw [List.zipIdx_cons, List.foldl_cons, zip_over o vs (k + 1)]
    rfl
section
variable {P : Program} {s e : TypeId} {sz by_ : Nat} (bt : SV P s e sz by_)
include bt
theorem bslice_run (w : World) (cs : Array Value) (hcs : cs.size = sz) (hsz : sz ≤ 16777216) : (Instr.buildSlice s 1 #[(0, .agg cs)]).run P w = .ok (.slice (some ⟨w.heap.size, 0, none⟩) 1 1) (w.alloc (.cells cs e)) := by
  obtain ⟨i, z, hi, hz, hzs, hsz', hby⟩ := bt.info
  have hpos := bt.pos
  subst hcs
  have h0 : ¬ cs = #[] := by intro h; rw [h] at hpos; simp at hpos
  have h1 : ¬ 16777216 < cs.size := by omega
  have hcell : (Value.agg cs).cells = cs := rfl
  have hf : Array.foldl (fun cs (x : Value × Nat) => cs.setIfInBounds x.2 x.1) (Array.map (fun x => z.cells[x % cs.size]!) (Array.range cs.size)) cs.zipIdx 0 cs.size = cs := by
    have h := zip_over 0 cs.toList 0 (Array.map (fun x => z.cells[x % cs.size]!) (Array.range cs.size))
    rw [over_all _ _ (by simp)] at h
    simp only [Nat.zero_add] at h
    rw [← Array.toList_zipIdx, Array.foldl_toList] at h
    simpa using h
  simp [Instr.buildSlice, run_underlying bt.us, sizeOf, typeInfo, hi, hsz', zeroValue, hz, h0, h1, hzs, Instr.fill, hcell, hf, newRow]
theorem wpl_bslice {ops : Array Oper} {rest : List Oper} {o : Oper} {a : Act} {w : World} {Q : Exit → Act → World → Prop} (hgd : Region.wanted o (yielded ops a.tmps) = true) (x : Operand) (ho : o.op = .buildSlice s 1 #[(0, x)])
    (cs : Array Value) (hx : a.eval x = .agg cs) (hcs : cs.size = sz) (hsz : sz ≤ 16777216) (h : wpList P ops Q rest (a.put o.dst (.slice (some ⟨w.heap.size, 0, none⟩) 1 1)) (w.alloc (.cells cs e))) : wpList P ops Q (o :: rest) a w := by
  refine wpList_step fun K hK => ?_
  rw [if_pos hgd]
  have hrun := bslice_run bt w cs hcs hsz
  unfold Oper.wp execOp
  simp only [ho, Sem.run_bind, Sem.run_pure, Result.andThen_ok, List.map_toArray, List.map_cons, List.map_nil, hx, hrun]
  exact hK _ _ h
end
end Go.Proofs.Ytajobboldjgidaa
