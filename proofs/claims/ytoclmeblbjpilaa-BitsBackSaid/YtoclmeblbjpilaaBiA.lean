/- The contracts of Stuff, of both packages. -/
import Derived.Test.YtoclmeblbjpilaaRows
import Derived.WalkKit
import Derived.Lib.Hide
import Derived.Test.YtoclmeblbjpilaaBiM
import Derived.Test.YtoclmeblbjpilaaReg
import Derived.Test.YtoclmeblbjpilaaArr
import Derived.Outline
namespace Go.Proofs.Ytoclmeblbjpilaa
open Go.RowKit
open Go.Tin
set_option linter.unusedVariables false
set_option linter.unusedSimpArgs false


theorem bt5 : ST Try.prog 24 5 .u8 1 := ST.of Try.underlying24 Try.underlying5 (by kernel_rfl)

set_option maxRecDepth 100000 in
set_option maxHeartbeats 1000000 in
theorem stuff_any (A : Option Addr) (l : List Int) (c : Nat) (w : World) (hs : Sl .u8 w A l) (hl : l.length ≤ 1000000000) :
    Calls Try.prog 19 #[.slice A l.length c] w fun e w' => ∃ A' c', e = .returned (.slice A' (stf l).length c') ∧ Own .u8 5 w' w.heap.size (.slice A' (stf l).length c') (stf l) ∧ Below w.heap.size w w' := by
  have HS := Lib.hid hs
  clear hs
  go_enter Try.func19, Try.ntmps19
  go_wp2_with fail
  go_loopw [3, 8] (fun s3 si wr => ∃ (i : Nat) (A' : Option Addr) (c' : Nat), i ≤ l.length ∧ si = .int .i64 (i : Int) ∧ s3 = .slice A' (stf (l.take i)).length c' ∧ Own .u8 5 wr w.heap.size (.slice A' (stf (l.take i)).length c') (stf (l.take i)) ∧ Below w.heap.size w wr) (fun _ si _ => l.length - (intOf si).toNat)
  case atStart => exact ⟨0, none, 0, by omega, rfl, rfl, Own.nil_ _ _ _ _, brefl w⟩
  case round =>
    obtain ⟨i, A', c', hi, rfl, rfl, ho, hb⟩ := hrel
    have HO := Lib.hid ho
    clear ho
    by_cases hil : i < l.length
    · have i1 : (i : Int) < (l.length : Int) := by omega
      obtain ⟨b, off, rfl, hlt, hcell⟩ := HS.out.at_ (by omega)
      have K0 := Lib.hid (show ∀ W : World, Below w.heap.size w W → W.cell? ⟨b, off + i, none⟩ = some (.int .u8 (nth l i)) from fun W h => (h.cell (p := ⟨b, off + i, none⟩) hlt).trans (hcell i hil))
      clear hcell
      have hz := hb.size
      have hlen := (stf_len (l.take i)).2
      rw [List.length_take] at hlen
      have hz2 : (stf (l.take i)).length ≤ 2000000000 := by omega
      clear hlen
      have hZ := stf_snoc (l.take i) (nth l i)
      rw [← take_snoc l i hil] at hZ
      have k0 := K0.out wr hb
      by_cases hc : nth l i = 255
      · have hY : stf (l.take (i + 1)) = stf (l.take i) ++ [nth l i] ++ [0] := by rw [hZ, if_pos hc]
        have HL := Lib.hid (show (stf (l.take (i + 1))).length = (stf (l.take i)).length + 1 + 1 by rw [hY]; simp)
        have HY := Lib.hid hY
        have HC := Lib.hid hc
        have hc2 : (nth l i == 255) = true := by simp [hc]
        clear hc hZ hY
        generalize stf (l.take i) = Z at *
        go_wp2_with (first | (at_builtin; refine Tin.wpl_push bt5 w wr (nth l i) rfl (.tmp 12) (.tmp 14) rfl w.heap.size A' _ c' Z rfl HO.out hb hz rfl (by omega) (by omega) ?_; intro A4 c4 w4 ho4 hb4 hz4 hg4 how4; have k4 := K0.out w4 hb4; clear hg4 how4) | (at_builtin; refine Tin.wpl_push bt5 w w4 0 rfl (.tmp 18) (.tmp 19) rfl w.heap.size A4 _ c4 (Z ++ [nth l i]) rfl ho4 hb4 hz4 rfl (by simp; omega) (by simp; omega) ?_; intro A5 c5 w5 ho5 hb5 hz5 hg5 how5; clear hg5 how5))
        go_roundw
        case rel => exact ⟨i + 1, A5, c5, by omega, by go_num, by rw [HL.out], by rw [HL.out, HY.out]; exact ho5, hb5⟩
        case measure => simp [intOf]; omega
      · have hY : stf (l.take (i + 1)) = stf (l.take i) ++ [nth l i] := by rw [hZ, if_neg hc]
        have HL := Lib.hid (show (stf (l.take (i + 1))).length = (stf (l.take i)).length + 1 by rw [hY]; simp)
        have HY := Lib.hid hY
        have hc2 : (nth l i == 255) = false := by simp [hc]
        clear hc hZ hY
        generalize stf (l.take i) = Z at *
        go_wp2_with (at_builtin; refine Tin.wpl_push bt5 w wr (nth l i) rfl (.tmp 12) (.tmp 14) rfl w.heap.size A' _ c' Z rfl HO.out hb hz rfl (by omega) (by omega) ?_; intro A4 c4 w4 ho4 hb4 hz4 hg4 how4; have k4 := K0.out w4 hb4; clear hg4 how4)
        go_roundw
        case rel => exact ⟨i + 1, A4, c4, by omega, by go_num, by rw [HL.out], by rw [HL.out, HY.out]; exact ho4, hb4⟩
        case measure => simp [intOf]; omega
    · obtain rfl : i = l.length := by omega
      have HO6 := Lib.hid (show Own .u8 5 wr w.heap.size (.slice A' (stf l).length c') (stf l) by have h := HO.out; rw [List.take_of_length_le (by omega)] at h; exact h)
      have e1 : stf (l.take l.length) = stf l := by rw [List.take_of_length_le (by omega)]
      rw [e1]
      clear HO
      go_wp2_with fail
      go_ret
      exact ⟨_, _, rfl, HO6.out, hb⟩


set_option maxRecDepth 100000 in
set_option maxHeartbeats 1000000 in
theorem rstuff_any (A : Option Addr) (l : List Int) (c : Nat) (w : World) (hs : Sl .u8 w A l) (hl : l.length ≤ 1000000000) :
    Calls Try.prog 20 #[.slice A l.length c] w fun e w' => ∃ A' c', e = .returned (.slice A' (stf l).length c') ∧ Own .u8 5 w' w.heap.size (.slice A' (stf l).length c') (stf l) ∧ Below w.heap.size w w' := by
  have HS := Lib.hid hs
  clear hs
  go_enter Try.func20, Try.ntmps20
  go_wp2_with fail
  go_loopw [3, 4] (fun s3 si wr => ∃ (i : Nat) (A' : Option Addr) (c' : Nat), i ≤ l.length ∧ si = .int .i64 (i : Int) ∧ s3 = .slice A' (stf (l.take i)).length c' ∧ Own .u8 5 wr w.heap.size (.slice A' (stf (l.take i)).length c') (stf (l.take i)) ∧ Below w.heap.size w wr) (fun _ si _ => l.length - (intOf si).toNat)
  case atStart => exact ⟨0, none, 0, by omega, rfl, rfl, Own.nil_ _ _ _ _, brefl w⟩
  case round =>
    obtain ⟨i, A', c', hi, rfl, rfl, ho, hb⟩ := hrel
    have HO := Lib.hid ho
    clear ho
    by_cases hil : i < l.length
    · have i1 : (i : Int) < (l.length : Int) := by omega
      obtain ⟨b, off, rfl, hlt, hcell⟩ := HS.out.at_ (by omega)
      have K0 := Lib.hid (show ∀ W : World, Below w.heap.size w W → W.cell? ⟨b, off + i, none⟩ = some (.int .u8 (nth l i)) from fun W h => (h.cell (p := ⟨b, off + i, none⟩) hlt).trans (hcell i hil))
      clear hcell
      have hz := hb.size
      have hlen := (stf_len (l.take i)).2
      rw [List.length_take] at hlen
      have hz2 : (stf (l.take i)).length ≤ 2000000000 := by omega
      clear hlen
      have hZ := stf_snoc (l.take i) (nth l i)
      rw [← take_snoc l i hil] at hZ
      have k0 := K0.out wr hb
      by_cases hc : nth l i = 255
      · have hY : stf (l.take (i + 1)) = stf (l.take i) ++ [nth l i] ++ [0] := by rw [hZ, if_pos hc]
        have HL := Lib.hid (show (stf (l.take (i + 1))).length = (stf (l.take i)).length + 1 + 1 by rw [hY]; simp)
        have HY := Lib.hid hY
        have HC := Lib.hid hc
        have hc2 : (nth l i == 255) = true := by simp [hc]
        clear hc hZ hY
        generalize stf (l.take i) = Z at *
        go_wp2_with (first | (at_builtin; refine Tin.wpl_push bt5 w wr (nth l i) rfl (.tmp 11) (.tmp 16) rfl w.heap.size A' _ c' Z rfl HO.out hb hz rfl (by omega) (by omega) ?_; intro A4 c4 w4 ho4 hb4 hz4 hg4 how4; have k4 := K0.out w4 hb4; clear hg4 how4) | (at_builtin; refine Tin.wpl_push bt5 w w4 0 rfl (.tmp 23) (.tmp 24) rfl w.heap.size A4 _ c4 (Z ++ [nth l i]) rfl ho4 hb4 hz4 rfl (by simp; omega) (by simp; omega) ?_; intro A5 c5 w5 ho5 hb5 hz5 hg5 how5; clear hg5 how5))
        go_roundw
        case rel => exact ⟨i + 1, A5, c5, by omega, by go_num, by rw [HL.out], by rw [HL.out, HY.out]; exact ho5, hb5⟩
        case measure => simp [intOf]; omega
      · have hY : stf (l.take (i + 1)) = stf (l.take i) ++ [nth l i] := by rw [hZ, if_neg hc]
        have HL := Lib.hid (show (stf (l.take (i + 1))).length = (stf (l.take i)).length + 1 by rw [hY]; simp)
        have HY := Lib.hid hY
        have hc2 : (nth l i == 255) = false := by simp [hc]
        clear hc hZ hY
        generalize stf (l.take i) = Z at *
        go_wp2_with (at_builtin; refine Tin.wpl_push bt5 w wr (nth l i) rfl (.tmp 11) (.tmp 16) rfl w.heap.size A' _ c' Z rfl HO.out hb hz rfl (by omega) (by omega) ?_; intro A4 c4 w4 ho4 hb4 hz4 hg4 how4; have k4 := K0.out w4 hb4; clear hg4 how4)
        go_roundw
        case rel => exact ⟨i + 1, A4, c4, by omega, by go_num, by rw [HL.out], by rw [HL.out, HY.out]; exact ho4, hb4⟩
        case measure => simp [intOf]; omega
    · obtain rfl : i = l.length := by omega
      have HO6 := Lib.hid (show Own .u8 5 wr w.heap.size (.slice A' (stf l).length c') (stf l) by have h := HO.out; rw [List.take_of_length_le (by omega)] at h; exact h)
      have e1 : stf (l.take l.length) = stf l := by rw [List.take_of_length_le (by omega)]
      rw [e1]
      clear HO
      go_wp2_with fail
      go_ret
      exact ⟨_, _, rfl, HO6.out, hb⟩
end Go.Proofs.Ytoclmeblbjpilaa
