/- The contracts of Size and Extra, of both packages. -/
import Derived.Test.YtckkncblbagfmaaCfM
import Derived.Test.YtckkncblbagfmaaCfLen
import Derived.Lib.Hide
import Derived.WalkKit
import Derived.Test.YtckkncblbagfmaaRows
import Derived.Test.YtckkncblbagfmaaReg
import Derived.Test.YtckkncblbagfmaaRes
import Derived.Outline
namespace Go.Proofs.Ytckkncblbagfmaa
open Go.RowKit
open Go.Tin
set_option linter.unusedVariables false
set_option linter.unusedSimpArgs false


theorem wrap_neg (v : Int) (h : -9223372036854775808 < v) (h' : v ≤ 9223372036854775807) : IntKind.i64.wrap (-v) = -v := by rw [wrap_i64]; omega
theorem sz_nat (v : Int) (h0 : -9223372036854775808 ≤ v) (h1 : v ≤ 9223372036854775807) : (Lib.bitLen v.natAbs ≤ 15 ∧ sz v = ((Lib.bitLen v.natAbs : Nat) : Int)) ∨ (15 < Lib.bitLen v.natAbs ∧ sz v = -1) := by
  unfold sz
  by_cases h : v.natAbs < 32768
  · rw [if_pos h]
    exact .inl ⟨Lib.bitLen_le _ 15 (by decide) h, rfl⟩
  · rw [if_neg h]
    refine .inr ⟨?_, rfl⟩
    obtain ⟨h2, _, _⟩ := bitLen_spec v.natAbs (by have : (2 : Nat) ^ 64 = 18446744073709551616 := by decide
                                                  omega)
    rcases Nat.lt_or_ge 15 (Lib.bitLen v.natAbs) with h3 | h3
    · exact h3
    · have := Nat.pow_le_pow_right (show 0 < 2 by decide) h3
      omega

theorem blen_n (x : Int) (a : Nat) (hx : x = (a : Int)) (ha : a < 18446744073709551616) (W : World) : Calls Try.prog 19 #[.int .u64 x] W fun e w' => e = .returned (.int .i64 (Lib.bitLen a)) ∧ w' = W := by
  subst hx
  have := bits_Len (a : Int) W (by omega) (by omega)
  rw [Int.toNat_natCast] at this
  exact this
theorem min_wrap : IntKind.u64.wrap (wrap64 9223372036854775808) = ((9223372036854775808 : Nat) : Int) := by kernel_rfl

theorem size_any (v : Int) (w : World) (wv : (Lit.int .i64 v).wf = true) : Calls Try.prog 9 #[.int .i64 v] w fun e w' => e = .returned (.int .i64 (sz v)) ∧ w = w' := by
  obtain ⟨h0, h1⟩ := wf64 wv
  have hs := sz_nat v h0 h1
  clear wv
  obtain ⟨a, ha⟩ : ∃ a, a = v.natAbs := ⟨_, rfl⟩
  rw [← ha] at hs
  have HL := Lib.hid (fun (x : Int) (hx : x = (a : Int)) W => blen_n x a hx (by omega) W)
  generalize Lib.bitLen a = b at *
  have hb : (b : Int) ≤ 15 ∨ (15 : Int) < (b : Int) := by omega
  have HSz := Lib.hid hs
  clear hs
  by_cases hv : v < 0
  · by_cases hmin : v = -9223372036854775808
    · subst hmin
      have HA := Lib.hid ha
      clear ha
      rcases hb with i2 | i2
      all_goals
        go_enter Try.func9, Try.ntmps9
        go_wp2_with fail
        refine (HL.out _ (by rw [HA.out]; exact min_wrap) _).mono ?_
        rintro e w' ⟨rfl, rfl⟩
        go_wp2_with fail
        go_ret
        exact ⟨ret_int (by have := HSz.out; omega), rfl⟩
    · have HA := Lib.hid ha
      clear ha
      have hmin2 : -9223372036854775808 < v := by omega
      rcases hb with i2 | i2
      all_goals
        go_enter Try.func9, Try.ntmps9
        go_wp2_with fail
        refine (HL.out _ (by rw [HA.out]; omega) _).mono ?_
        rintro e w' ⟨rfl, rfl⟩
        go_wp2_with fail
        go_ret
        exact ⟨ret_int (by have := HSz.out; omega), rfl⟩
  · have HA := Lib.hid ha
    clear ha
    have hv' : 0 ≤ v := by omega
    rcases hb with i2 | i2
    all_goals
      go_enter Try.func9, Try.ntmps9
      go_wp2_with fail
      refine (HL.out _ (by rw [HA.out]; omega) _).mono ?_
      rintro e w' ⟨rfl, rfl⟩
      go_wp2_with fail
      go_ret
      exact ⟨ret_int (by have := HSz.out; omega), rfl⟩

set_option maxHeartbeats 1000000 in
theorem rsize_any (v : Int) (w : World) (wv : (Lit.int .i64 v).wf = true) : Calls Try.prog 8 #[.int .i64 v] w fun e w' => e = .returned (.int .i64 (sz v)) ∧ w = w' := by
  obtain ⟨h0, h1⟩ := wf64 wv
  clear wv
  go_enter Try.func8, Try.ntmps8
  go_wp2_with fail
  go_loop [3] (fun s3 => ∃ k : Nat, k ≤ 16 ∧ s3 = .int .i64 (k : Int) ∧ (k = 0 ∨ (v ≤ -(2 ^ (k - 1)) ∨ (2 : Int) ^ (k - 1) ≤ v))) (fun s3 => 16 - (intOf s3).toNat)
  case atStart => exact ⟨0, by omega, rfl, .inl rfl⟩
  case round =>
    obtain ⟨k, hk, rfl, hlo⟩ := hrel
    have HLo := Lib.hid hlo
    clear hlo
    by_cases hk16 : k < 16
    · have i1 : (k : Int) ≤ 15 := by omega
      obtain ⟨p1, p2⟩ := pow_top k (by omega)
      have hp := Lib.hid (pow_of k (by omega))
      by_cases ha : -(2 ^ k) < v
      · by_cases hb : v < 2 ^ k
        · have HS := Lib.hid (sz_of (v := v) (m := k) ⟨by omega, ha, hb, HLo.out⟩)
          go_wp2_with fail
          go_ret
          exact ⟨ret_int HS.out.symm, rfl⟩
        · have hb' : 2 ^ k ≤ v := by omega
          go_wp2_with fail
          go_round
          case rel => exact ⟨k + 1, by omega, by go_num, .inr (.inr (by simpa using hb'))⟩
          case measure => simp [intOf]; omega
      · have ha' : v ≤ -(2 ^ k) := by omega
        go_wp2_with fail
        go_round
        case rel => exact ⟨k + 1, by omega, by go_num, .inr (.inl (by simpa using ha'))⟩
        case measure => simp [intOf]; omega
    · obtain rfl : k = 16 := by omega
      have HS := Lib.hid (sz_not (v := v) (by have := HLo.out; simp at this; omega))
      go_wp2_with fail
      go_ret
      exact ⟨ret_int HS.out.symm, rfl⟩
end Go.Proofs.Ytckkncblbagfmaa
