/- The contract of Same. -/
import Derived.Test.YtckkncblbagfmaaCfD
import Derived.Test.YtckkncblbagfmaaOwv
import Derived.Test.YtckkncblbagfmaaOws
namespace Go.Proofs.Ytckkncblbagfmaa
open Go.RowKit
open Go.Tin
set_option linter.unusedVariables false
set_option linter.unusedSimpArgs false


theorem rt45 : RT Try.prog 45 4 := RT.of Try.underlying45 rfl (by kernel_rfl)
theorem sv34 : SV Try.prog 34 45 4 32 := SV.of Try.underlying34 (by kernel_rfl) (by decide)
/-- The cells of numbers. -/
abbrev iv (zs : List Int) : List Value := zs.map (Value.int .i64)
/-- The cells of a symbol. -/
def el (zs : List Int) (i : Nat) : List Value := [.int .i64 (nth zs (i * 4)), .int .i64 (nth zs (i * 4 + 1)), .int .i64 (nth zs (i * 4 + 2)), .int .i64 (nth zs (i * 4 + 3))]
def tu (zs : List Int) (i : Nat) : Int × Int × Int × Int := (nth zs (i * 4), nth zs (i * 4 + 1), nth zs (i * 4 + 2), nth zs (i * 4 + 3))
theorem drop4 (zs : List Int) (i : Nat) (h : i * 4 + 4 ≤ zs.length) : (zs.drop (i * 4)).take 4 = [nth zs (i * 4), nth zs (i * 4 + 1), nth zs (i * 4 + 2), nth zs (i * 4 + 3)] := by
  apply List.ext_getElem
  · simp; omega
  · intro j h1 h2
    simp only [List.length_cons, List.length_nil] at h2
    rcases (by omega : j = 0 ∨ j = 1 ∨ j = 2 ∨ j = 3) with rfl | rfl | rfl | rfl <;> simp [nth, List.getD_eq_getElem?_getD] <;> rw [List.getElem?_eq_getElem (by omega)] <;> rfl
theorem el_rng {w : World} {b off : Nat} {zs : List Int} (h : SlV w (some ⟨b, off, none⟩) (iv zs)) (i : Nat) (hi : i * 4 + 4 ≤ zs.length) : w.rangeAt b (off + i * 4) (el zs i) := by
  have h1 := h.rng (i * 4) 4 (by simpa using hi)
  rw [← List.map_drop, ← List.map_take, drop4 zs i hi] at h1
  exact h1
theorem take4 {zs : List Int} {i : Nat} (h : i * 4 + 4 ≤ zs.length) : zs.take ((i + 1) * 4) = zs.take (i * 4) ++ [nth zs (i * 4), nth zs (i * 4 + 1), nth zs (i * 4 + 2), nth zs (i * 4 + 3)] := by
  rw [show (i + 1) * 4 = i * 4 + 4 by omega, List.take_add, drop4 zs i h]
theorem cdB_yes {zs ys : List Int} {i : Nat} (h : cdB (tu zs i) (tu ys i) = true) : nth zs (i * 4) = nth ys (i * 4) ∧ nth zs (i * 4 + 1) = nth ys (i * 4 + 1) ∧ nth zs (i * 4 + 2) = nth ys (i * 4 + 2) ∧ nth zs (i * 4 + 3) = nth ys (i * 4 + 3) := by
  unfold cdB tu at h
  simpa [Bool.and_eq_true] using h
theorem cdB_no {zs ys : List Int} {i : Nat} (h : cdB (tu zs i) (tu ys i) = false) : zs ≠ ys := by
  rintro rfl
  unfold cdB at h
  simp at h

set_option maxRecDepth 100000 in
set_option maxHeartbeats 2000000 in
theorem same_any (A A' : Option Addr) (n m c d : Nat) (zs ys : List Int) (w : World) (hs : SlV w A (iv zs)) (ht : SlV w A' (iv ys)) (hz : zs.length = n * 4) (hy : ys.length = m * 4) (hn : n ≤ 1000000) (hm : m ≤ 1000000) :
    Calls Try.prog 16 #[.slice A n c, .slice A' m d] w fun e w' => e = .returned (.bool (decide (zs = ys))) ∧ Below w.heap.size w w' := by
  have HS := Lib.hid hs
  have HT := Lib.hid ht
  have HZ := Lib.hid hz
  have HY := Lib.hid hy
  clear hs ht hz hy
  by_cases hnm : n = m
  · subst hnm
    go_enter Try.func16, Try.ntmps16
    go_wp2_with fail
    go_loopw [5] (fun s5 wr => ∃ i : Nat, i ≤ n ∧ s5 = .int .i64 (i : Int) ∧ zs.take (i * 4) = ys.take (i * 4) ∧ Below w.heap.size w wr) (fun s5 _ => n - (intOf s5).toNat)
    case atStart => exact ⟨0, by omega, rfl, by simp, brefl w⟩
    case round =>
      obtain ⟨i, hi, rfl, htk, hb⟩ := hrel
      have HK := Lib.hid htk
      have HB := Lib.hid hb
      clear htk hb
      by_cases hin : i < n
      · have i1 : (i : Int) < (n : Int) := by omega
        have h4z : i * 4 + 4 ≤ zs.length := by rw [HZ.out]; omega
        have h4y : i * 4 + 4 ≤ ys.length := by rw [HY.out]; omega
        obtain ⟨b, off, rfl, -, -⟩ := HS.out.at_ (by simp; omega)
        obtain ⟨b', off', rfl, -, -⟩ := HT.out.at_ (by simp; omega)
        have E1 := Lib.hid (fun (W : World) (h : Below w.heap.size w W) => el_rng (HS.out.keep h) i h4z)
        have E2 := Lib.hid (fun (W : World) (h : Below w.heap.size w W) => el_rng (HT.out.keep h) i h4y)
        have HT1 := Lib.hid (take4 h4z)
        have HT2 := Lib.hid (take4 h4y)
        have HYE := Lib.hid (fun h => cdB_yes (zs := zs) (ys := ys) (i := i) h)
        have HNO := Lib.hid (fun h => cdB_no (zs := zs) (ys := ys) (i := i) h)
        have ez : el zs i = [.int .i64 (nth zs (i * 4)), .int .i64 (nth zs (i * 4 + 1)), .int .i64 (nth zs (i * 4 + 2)), .int .i64 (nth zs (i * 4 + 3))] := rfl
        have ey : el ys i = [.int .i64 (nth ys (i * 4)), .int .i64 (nth ys (i * 4 + 1)), .int .i64 (nth ys (i * 4 + 2)), .int .i64 (nth ys (i * 4 + 3))] := rfl
        have HTU := Lib.hid (show tu zs i = (nth zs (i * 4), nth zs (i * 4 + 1), nth zs (i * 4 + 2), nth zs (i * 4 + 3)) ∧ tu ys i = (nth ys (i * 4), nth ys (i * 4 + 1), nth ys (i * 4 + 2), nth ys (i * 4 + 3)) from ⟨rfl, rfl⟩)
        rw [ez] at E1
        rw [ey] at E2
        clear h4z h4y ez ey
        generalize nth zs (i * 4) = z0 at *
        generalize nth zs (i * 4 + 1) = z1 at *
        generalize nth zs (i * 4 + 2) = z2 at *
        generalize nth zs (i * 4 + 3) = z3 at *
        generalize nth ys (i * 4) = y0 at *
        generalize nth ys (i * 4 + 1) = y1 at *
        generalize nth ys (i * 4 + 2) = y2 at *
        generalize nth ys (i * 4 + 3) = y3 at *
        go_wp2_with fail
        refine Tin.reg_begin w.heap.size 9 (by rfl) (by kernel_rfl) ?_
        refine Tin.reg_quiets [0, 1, 2, 3, 4, 5, 6, 7, 8] _ 0 rfl (by simp only [Tin.pick, List.map_cons, List.map_nil, Array.getD_eq_getD_getElem?, List.getElem?_toArray, List.getElem?_cons_zero, List.getElem?_cons_succ, Option.getD_some]; rfl) (by kernel_rfl) (by kernel_rfl) ?_
        repeat (first | ((with_reducible refine wpq_loadv rt45 ?_ (.tmp 19) rfl b (off + i * 4) ?_ _ ?_ (fun W h => by obtain ⟨p, rfl⟩ := h; exact E1.out _ (HB.out.trans (ud p.h))) ?_); rfl; rfl; rfl; simp only [Act.put, List.setIfInBounds_toArray, List.set_cons_succ, List.set_cons_zero]) | ((with_reducible refine wpq_loadv rt45 ?_ (.tmp 23) rfl b' (off' + i * 4) ?_ _ ?_ (fun W h => by obtain ⟨p, rfl⟩ := h; exact E2.out _ (HB.out.trans (ud p.h))) ?_); rfl; rfl; rfl; simp only [Act.put, List.setIfInBounds_toArray, List.set_cons_succ, List.set_cons_zero]) | ((with_reducible refine wpq_neq codedE ?_ (.tmp 20) (.tmp 24) 45 rfl rfl rfl (coded_q _ _ _ _ _ _ _ _) ?_); rfl; simp only [Act.put, List.setIfInBounds_toArray, List.set_cons_succ, List.set_cons_zero]) | go_big_quiet_step (fail))
        refine wpQuiet_nil ?_
        refine Tin.reg_done (by kernel_rfl) ?_
        have HBd := Lib.hid (show Below w.heap.size w wr.drew from ⟨HB.out.os, HB.out.tape, HB.out.output, HB.out.size, HB.out.block⟩)
        rw [HTU.out.1, HTU.out.2] at HYE HNO
        cases hc : cdB (z0, z1, z2, z3) (y0, y1, y2, y3) with
        | true =>
          have HQ := Lib.hid (HYE.out hc)
          clear hc HYE HNO
          go_wp2_with fail
          go_roundw
          case rel => exact ⟨i + 1, by omega, by go_num, by rw [HT1.out, HT2.out, HK.out, HQ.out.1, HQ.out.2.1, HQ.out.2.2.1, HQ.out.2.2.2], HBd.out⟩
          case measure => simp [intOf]; omega
        | false =>
          have HQ := Lib.hid (HNO.out hc)
          clear hc HYE HNO
          go_wp2_with fail
          go_ret
          exact ⟨ret_bool (by rw [decide_eq_false HQ.out]), HBd.out⟩
      · obtain rfl : i = n := by omega
        have HQ := Lib.hid (show zs = ys by have := HK.out; rw [List.take_of_length_le (by rw [HZ.out]; exact Nat.le_refl _), List.take_of_length_le (by rw [HY.out]; exact Nat.le_refl _)] at this; exact this)
        go_wp2_with fail
        go_ret
        exact ⟨ret_bool (by rw [decide_eq_true HQ.out]), HB.out⟩
  · have HQ := Lib.hid (show zs ≠ ys from fun e => hnm (by have h1 := HZ.out; have h2 := HY.out; rw [e] at h1; omega))
    have d1 : ((n : Int) != (m : Int)) = true := by simp; omega
    go_enter Try.func16, Try.ntmps16
    go_wp2_with fail
    go_ret
    exact ⟨ret_bool (by rw [decide_eq_false HQ.out]), brefl w⟩
end Go.Proofs.Ytckkncblbagfmaa
