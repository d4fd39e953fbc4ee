/- Rows of ratios compared. -/
import Derived.Test.YtmdcdmgbillehaaTz
import Derived.Test.YtmdcdmgbillehaaTzK
import Derived.Test.YtmdcdmgbillehaaLb
namespace Go.Proofs.Ytmdcdmgbillehaa
open Go.RowKit
open Go.Tin
set_option linter.unusedVariables false
set_option linter.unusedSimpArgs false


theorem roweE : Try.prog.eqGuardType Try.prog.depth 55 = false := by kernel_rfl
def roweQ (a0 a1 b0 b1 : Int) : Bool := a0 == b0 && (a1 == b1)
theorem rowe_eq (d : Nat) (a0 a1 b0 b1 : Int) (w : World) : (Op.equalIn (d + 2) 55 (.agg #[.int .i64 a0, .int .i64 a1]) (.agg #[.int .i64 b0, .int .i64 b1])).run Try.prog w = .ok (roweQ a0 a1 b0 b1) w := by
  rw [run_equalIn_agg w (d + 1) 55 _ _ (by kernel_rfl) (by kernel_rfl)]
  have hf : (Try.prog.fieldsOf 55).toList = [{ name := "Num", type := 3, offset := 0, embedded := false, tag := "", pkgPath := "", byteOffset := 0 }, { name := "Den", type := 3, offset := 1, embedded := false, tag := "", pkgPath := "", byteOffset := 8 }] := by kernel_rfl
  rw [hf]
  simp [Op.eqFields, go_sem, roweQ]
  by_cases h0 : a0 = b0 <;> by_cases h1 : a1 = b1 <;> simp [h0, h1]
theorem rowe_q (a0 a1 b0 b1 : Int) (w : World) : (Op.equalIn 10000 55 (.agg #[.int .i64 a0, .int .i64 a1]) (.agg #[.int .i64 b0, .int .i64 b1])).run Try.prog w = .ok (roweQ a0 a1 b0 b1) w := rowe_eq 9998 a0 a1 b0 b1 w
theorem roweQ_yes {a0 a1 b0 b1 : Int} (h : roweQ a0 a1 b0 b1 = true) : a0 = b0 ∧ a1 = b1 := by
  unfold roweQ at h
  simpa [Bool.and_eq_true] using h
theorem roweQ_refl (a0 a1 : Int) : roweQ a0 a1 a0 a1 = true := by simp [roweQ]
theorem row_drop (zs : List Int) (i : Nat) (h : i * 2 + 2 ≤ zs.length) : (zs.drop (i * 2)).take 2 = [nth zs (i * 2), nth zs (i * 2 + 1)] := by
  apply List.ext_getElem
  · simp; omega
  · intro j h1 h2
    simp only [List.length_cons, List.length_nil] at h2
    rcases (by omega : j = 0 ∨ j = 1) with rfl | rfl <;> simp [nth, List.getD_eq_getElem?_getD] <;> rw [List.getElem?_eq_getElem (by omega)] <;> rfl
theorem row_rng {w : World} {b off : Nat} {zs : List Int} (h : SlV w (some ⟨b, off, none⟩) (iv zs)) (i : Nat) (hi : i * 2 + 2 ≤ zs.length) : w.rangeAt b (off + i * 2) [.int .i64 (nth zs (i * 2)), .int .i64 (nth zs (i * 2 + 1))] := by
  have h1 := h.rng (i * 2) 2 (by simpa using hi)
  rw [← List.map_drop, ← List.map_take, row_drop zs i hi] at h1
  exact h1
theorem row_take {zs : List Int} {i : Nat} (h : i * 2 + 2 ≤ zs.length) : zs.take ((i + 1) * 2) = zs.take (i * 2) ++ [nth zs (i * 2), nth zs (i * 2 + 1)] := by
  rw [show (i + 1) * 2 = i * 2 + 2 by omega, List.take_add, row_drop zs i h]
set_option maxRecDepth 100000 in
set_option maxHeartbeats 4000000 in
theorem row_any (A A' : Option Addr) (n m c d : Nat) (zs ys : List Int) (w : World) (hs : SlV w A (iv zs)) (ht : SlV w A' (iv ys)) (hz : zs.length = n * 2) (hy : ys.length = m * 2) (hn : n ≤ 1000000) (hm : m ≤ 1000000) :
    Calls Try.prog 16 #[.slice A n c, .slice A' m d] w fun e w' => e = .returned (.bool (decide (zs = ys))) ∧ Below w.heap.size w w' := by
  have HS := Lib.hid hs
  have HT := Lib.hid ht
  have HZ := Lib.hid hz
  have HY := Lib.hid hy
  clear hs ht hz hy
  by_cases hnm : n = m
  · subst hnm
    go_enter Try.func16, Try.ntmps16
    go_wp2_with fail
    go_loopw [5] (fun s5 wr => ∃ i : Nat, i ≤ n ∧ s5 = .int .i64 (i : Int) ∧ zs.take (i * 2) = ys.take (i * 2) ∧ Below w.heap.size w wr) (fun s5 _ => n - (intOf s5).toNat)
    case atStart => exact ⟨0, by omega, rfl, by simp, brefl w⟩
    case round =>
      obtain ⟨i, hi, rfl, htk, hb⟩ := hrel
      have HK := Lib.hid htk
      have HB := Lib.hid hb
      clear htk hb
      by_cases hin : i < n
      · have i1 : (i : Int) < (n : Int) := by omega
        have h4z : i * 2 + 2 ≤ zs.length := by rw [HZ.out]; omega
        have h4y : i * 2 + 2 ≤ ys.length := by rw [HY.out]; omega
        obtain ⟨b, off, rfl, -, -⟩ := HS.out.at_ (by simp; omega)
        obtain ⟨b', off', rfl, -, -⟩ := HT.out.at_ (by simp; omega)
        have E1 := Lib.hid (fun (W : World) (h : Below w.heap.size w W) => row_rng (HS.out.keep h) i h4z)
        have E2 := Lib.hid (fun (W : World) (h : Below w.heap.size w W) => row_rng (HT.out.keep h) i h4y)
        have HT1 := Lib.hid (row_take h4z)
        have HT2 := Lib.hid (row_take h4y)
        have HNO := Lib.hid (show roweQ (nth zs (i * 2)) (nth zs (i * 2 + 1)) (nth ys (i * 2)) (nth ys (i * 2 + 1)) = false → zs ≠ ys from fun h e => by rw [e, roweQ_refl] at h; cases h)
        clear h4z h4y
        generalize nth zs (i * 2) = z0 at *
        generalize nth zs (i * 2 + 1) = z1 at *
        generalize nth ys (i * 2) = y0 at *
        generalize nth ys (i * 2 + 1) = y1 at *
        go_wp2_with fail
        refine Tin.reg_begin w.heap.size 9 (by rfl) (by kernel_rfl) ?_
        refine Tin.reg_quiets [0, 1, 2, 3, 4, 5, 6, 7, 8] _ 0 rfl (by simp only [Tin.pick, List.map_cons, List.map_nil, Array.getD_eq_getD_getElem?, List.getElem?_toArray, List.getElem?_cons_zero, List.getElem?_cons_succ, Option.getD_some]; rfl) (by kernel_rfl) (by kernel_rfl) ?_
        repeat (first | ((with_reducible refine wpq_loadv rtR ?_ (.tmp 19) rfl b (off + i * 2) ?_ _ ?_ (fun W h => by obtain ⟨p, rfl⟩ := h; exact E1.out _ (HB.out.trans (ud p.h))) ?_); rfl; rfl; rfl; simp only [Act.put, List.setIfInBounds_toArray, List.set_cons_succ, List.set_cons_zero]) | ((with_reducible refine wpq_loadv rtR ?_ (.tmp 23) rfl b' (off' + i * 2) ?_ _ ?_ (fun W h => by obtain ⟨p, rfl⟩ := h; exact E2.out _ (HB.out.trans (ud p.h))) ?_); rfl; rfl; rfl; simp only [Act.put, List.setIfInBounds_toArray, List.set_cons_succ, List.set_cons_zero]) | ((with_reducible refine wpq_neq roweE ?_ (.tmp 20) (.tmp 24) 55 rfl rfl rfl (rowe_q _ _ _ _) ?_); rfl; simp only [Act.put, List.setIfInBounds_toArray, List.set_cons_succ, List.set_cons_zero]) | go_big_quiet_step (fail))
        refine wpQuiet_nil ?_
        refine Tin.reg_done (by kernel_rfl) ?_
        have HBd := Lib.hid (show Below w.heap.size w wr.drew from ⟨HB.out.os, HB.out.tape, HB.out.output, HB.out.size, HB.out.block⟩)
        cases hc : roweQ z0 z1 y0 y1 with
        | true =>
          have HQ := Lib.hid (roweQ_yes hc)
          clear hc HNO
          go_wp2_with fail
          go_roundw
          case rel => exact ⟨i + 1, by omega, by go_num, by rw [HT1.out, HT2.out, HK.out, HQ.out.1, HQ.out.2], HBd.out⟩
          case measure => simp [intOf]; omega
        | false =>
          have HQ := Lib.hid (HNO.out hc)
          clear hc HNO
          go_wp2_with fail
          go_ret
          exact ⟨ret_bool (by rw [decide_eq_false HQ.out]), HBd.out⟩
      · obtain rfl : i = n := by omega
        have HQ := Lib.hid (show zs = ys by have := HK.out; rw [List.take_of_length_le (by rw [HZ.out]; exact Nat.le_refl _), List.take_of_length_le (by rw [HY.out]; exact Nat.le_refl _)] at this; exact this)
        go_wp2_with fail
        go_ret
        exact ⟨ret_bool (by rw [decide_eq_true HQ.out]), HB.out⟩
  · have HQ := Lib.hid (show zs ≠ ys from fun e => hnm (by have h1 := HZ.out; have h2 := HY.out; rw [e] at h1; omega))
    have d1 : ((n : Int) != (m : Int)) = true := by simp; omega
    go_enter Try.func16, Try.ntmps16
    go_wp2_with fail
    go_ret
    exact ⟨ret_bool (by rw [decide_eq_false HQ.out]), brefl w⟩
end Go.Proofs.Ytmdcdmgbillehaa
