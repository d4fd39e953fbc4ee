/- The contract of Value. -/
import Derived.Test.YtckkncblbagfmaaCfB
import Derived.Deep.QuietTactic
import Derived.BigQuiet
namespace Go.Proofs.Ytckkncblbagfmaa
open Go.RowKit
open Go.Tin
set_option linter.unusedVariables false
set_option linter.unusedSimpArgs false


theorem bdn {B : Nat} {w0 w : World} (hb : Below B w0 w) (n : Nat) : Below B w0 (w.drewN n) := ⟨hb.os, hb.tape, hb.output, hb.size, hb.block⟩
set_option maxHeartbeats 1000000 in
theorem value_any (V N : Int) (w : World) (wV : (Lit.int .i64 V).wf = true) (wN : (Lit.int .i64 N).wf = true) : Calls Try.prog 11 #[.agg #[.int .i64 V, .int .i64 N]] w fun e w' => e = .returned (.tuple #[.int .i64 (vaN V N), .bool (vaB V N)]) ∧ Below w.heap.size w w' := by
  obtain ⟨v0, v1⟩ := wf64 wV
  obtain ⟨n0, n1⟩ := wf64 wN
  clear wV wN
  by_cases h1 : N < 0
  · have d1 : decide (N < 0) = true := by simpa using h1
    have hB : vaB V N = false := by unfold vaB; simp; omega
    have HB := Lib.hid (show vaB V N = false ∧ vaN V N = 0 from ⟨hB, va_no hB⟩)
    clear hB
    go_enter Try.func11, Try.ntmps11
    go_wp2_with fail
    go_quiet (fail)
    go_wp2_with fail
    go_ret2
    rw [HB.out.1, HB.out.2]
    exact ⟨rfl, bdn (ba (brefl w) _) _⟩
  have d1 : decide (N < 0) = false := by simpa using h1
  by_cases h2 : 15 < N
  · have d2 : decide (15 < N) = true := by simpa using h2
    have hB : vaB V N = false := by unfold vaB; simp; omega
    have HB := Lib.hid (show vaB V N = false ∧ vaN V N = 0 from ⟨hB, va_no hB⟩)
    clear hB
    go_enter Try.func11, Try.ntmps11
    go_wp2_with fail
    go_quiet (fail)
    go_wp2_with fail
    go_ret2
    rw [HB.out.1, HB.out.2]
    exact ⟨rfl, bdn (ba (brefl w) _) _⟩
  have d2 : decide (15 < N) = false := by simpa using h2
  by_cases h3 : V < 0
  · have d3 : decide (V < 0) = true := by simpa using h3
    have hB : vaB V N = false := by unfold vaB; simp; omega
    have HB := Lib.hid (show vaB V N = false ∧ vaN V N = 0 from ⟨hB, va_no hB⟩)
    clear hB
    go_enter Try.func11, Try.ntmps11
    go_wp2_with fail
    go_quiet (fail)
    go_wp2_with fail
    go_ret2
    rw [HB.out.1, HB.out.2]
    exact ⟨rfl, bdn (ba (brefl w) _) _⟩
  have d3 : decide (V < 0) = false := by simpa using h3
  obtain ⟨n, rfl⟩ := Int.eq_ofNat_of_zero_le (show 0 ≤ N by omega)
  have hn : n ≤ 15 := by omega
  have hV0 : 0 ≤ V := by omega
  obtain ⟨p1, p2⟩ := pow_top n (by omega)
  have hp := Lib.hid (pow_of n (by omega))
  have hsh := shl64 n (by omega)
  by_cases hbig : 2 ^ n ≤ V
  · have hB : vaB V n = false := by unfold vaB; simp; omega
    have HB := Lib.hid (show vaB V n = false ∧ vaN V n = 0 from ⟨hB, va_no hB⟩)
    have d4 : decide ((2 : Int) ^ n ≤ V) = true := decide_eq_true hbig
    clear hB
    go_enter Try.func11, Try.ntmps11
    go_wp2_with fail
    go_quiet (fail)
    go_wp2_with fail
    go_ret2
    rw [HB.out.1, HB.out.2]
    exact ⟨rfl, bdn (ba (brefl w) _) _⟩
  · have d4 : decide ((2 : Int) ^ n ≤ V) = false := decide_eq_false hbig
    have hlt : V < 2 ^ n := by omega
    have hB : vaB V n = true := by unfold vaB; simp; omega
    by_cases h0 : n = 0
    · subst h0
      have HB := Lib.hid (show vaB V (0 : Nat) = true ∧ vaN V (0 : Nat) = V from ⟨hB, by unfold vaN; rw [hB]; simp⟩)
      clear hB hsh p1 p2 hp
      go_enter Try.func11, Try.ntmps11
      go_wp2_with fail
      go_quiet (fail)
      go_wp2_with fail
      go_ret2
      rw [HB.out.1, HB.out.2]
      exact ⟨rfl, bdn (ba (brefl w) _) _⟩
    · have h1 : 1 ≤ n := by omega
      have en : ((n : Int) - 1).toNat = n - 1 := by omega
      have q1 : (0 : Int) ≤ (n : Int) - 1 := by omega
      have q2 : (0 : Int) < (n : Int) := by omega
      obtain ⟨r1, r2⟩ := pow_top (n - 1) (by omega)
      have hdv : V / 2 ^ (n - 1) = 0 ↔ V < 2 ^ (n - 1) := by
        constructor
        · intro h
          have := Int.lt_mul_of_ediv_lt (show (0 : Int) < 2 ^ (n - 1) by omega) (show V / 2 ^ (n - 1) < 1 by omega)
          omega
        · intro h; exact Int.ediv_eq_zero_of_lt hV0 h
      by_cases hlo : V < 2 ^ (n - 1)
      · have HB := Lib.hid (show vaB V n = true ∧ vaN V n = V - (2 ^ n - 1) from ⟨hB, by unfold vaN; rw [hB, if_pos rfl, if_pos ⟨by omega, by simpa using hlo⟩, Int.toNat_natCast]⟩)
        have d5 : (V / 2 ^ (n - 1) == 0) = true := by simpa using hdv.2 hlo
        have e5 : IntKind.i64.wrap ((2 : Int) ^ n) = 2 ^ n := by rw [wrap_i64]; omega
        have e6 : IntKind.i64.wrap ((2 : Int) ^ n - 1) = 2 ^ n - 1 := by rw [wrap_i64]; omega
        have e7 : IntKind.i64.wrap (V - ((2 : Int) ^ n - 1)) = V - (2 ^ n - 1) := by rw [wrap_i64]; omega
        clear hB hdv
        go_enter Try.func11, Try.ntmps11
        go_wp2_with fail
        go_quiet (fail)
        go_wp2_with fail
        go_quiet (fail)
        go_wp2_with fail
        go_ret2
        rw [HB.out.1, HB.out.2]
        exact ⟨rfl, bdn (bdn (ba (brefl w) _) _) _⟩
      · have HB := Lib.hid (show vaB V n = true ∧ vaN V n = V from ⟨hB, by unfold vaN; rw [hB, if_pos rfl, if_neg (by rw [Int.toNat_natCast]; exact fun h => hlo h.2)]⟩)
        have d5 : (V / 2 ^ (n - 1) == 0) = false := by
          have : ¬ V / 2 ^ (n - 1) = 0 := fun h => hlo (hdv.1 h)
          simpa using this
        clear hB hdv
        go_enter Try.func11, Try.ntmps11
        go_wp2_with fail
        go_quiet (fail)
        go_wp2_with fail
        go_ret2
        rw [HB.out.1, HB.out.2]
        exact ⟨rfl, bdn (ba (brefl w) _) _⟩
end Go.Proofs.Ytckkncblbagfmaa
