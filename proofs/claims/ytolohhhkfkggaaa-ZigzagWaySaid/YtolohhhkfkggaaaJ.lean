/- The walk of the law ZigzagWay. -/
import Derived.Test.YtolohhhkfkggaaaH
import Derived.Outline
namespace Go.Proofs.Ytolohhhkfkggaaa
open Go.RowKit
open Go.Tin
set_option linter.unusedVariables false
set_option linter.unusedSimpArgs false

theorem min64 : IntKind.i64.min = -9223372036854775808 := by kernel_rfl
theorem max64 : IntKind.i64.max = 9223372036854775807 := by kernel_rfl
theorem wf64 {n : Int} (wf : (Lit.int .i64 n).wf = true) : -9223372036854775808 ≤ n ∧ n ≤ 9223372036854775807 := by
  change (decide (IntKind.i64.min ≤ n) && decide (n ≤ IntKind.i64.max)) = true at wf
  rw [min64, max64, Bool.and_eq_true] at wf
  exact ⟨of_decide_eq_true wf.1, of_decide_eq_true wf.2⟩
theorem wrap_i64 (n : Int) : IntKind.i64.wrap n = if n % 18446744073709551616 ≥ 9223372036854775808 then n % 18446744073709551616 - 18446744073709551616 else n % 18446744073709551616 := by
  show (if (true && decide (n % 18446744073709551616 ≥ 9223372036854775808)) = true then _ else _) = _
  simp only [Bool.true_and, decide_eq_true_eq]
  rfl
/-- How far two numbers are. -/
def ap (a b : Int) : Int := if a - b < b - a then b - a else a - b
theorem apart_any (a b : Int) (h0 : 0 ≤ a) (h1 : a < 100) (h2 : 0 ≤ b) (h3 : b < 100) (w : World) : Calls Try.prog 12 #[.int .i64 a, .int .i64 b] w fun e w' => e = .returned (.int .i64 (ap a b)) ∧ w = w' := by
  have hm : (if a - b < b - a then b - a else a - b) = ap a b := rfl
  go_enter Try.func12, Try.ntmps12
  go_wp2_with fail
  go_ret
  exact ⟨ret_int (by unfold ap; split <;> omega), rfl⟩

def pz (j : Nat) : Nat := (zig j).toNat
def tz (j : Nat) : Nat := pz j % 8 * 8 + pz j / 8
def cz (j : Nat) : Nat := pz (unz (tz j))
theorem pz_eq : ∀ j, j < 64 → zig j = (pz j : Int) ∧ pz j < 64 := by decide
theorem cz_eq : ∀ j, j < 64 → tz j < 64 ∧ unz (tz j) < 64 ∧ zig (unz (tz j)) = (cz j : Int) ∧ cz j < 64 ∧ cz j / 8 + cz j % 8 = pz j / 8 + pz j % 8 := by decide +kernel
theorem way_facts : ∀ j, j < 63 → (ap (pz j / 8 : Nat) (pz (j+1) / 8 : Nat) ≤ 1 ∧ ap (pz j % 8 : Nat) (pz (j+1) % 8 : Nat) ≤ 1) ∧ (pz j / 8 + pz j % 8 ≤ pz (j+1) / 8 + pz (j+1) % 8 ∧ pz (j+1) / 8 + pz (j+1) % 8 ≤ pz j / 8 + pz j % 8 + 1) := by decide +kernel

set_option maxRecDepth 100000 in
set_option maxHeartbeats 2000000 in
theorem way_in (j : Nat) (hj : j < 63) (w : World) : Calls Try.prog 4 #[.int .i64 (j : Int)] w fun e w' => e = .returned (.bool true) ∧ Below w.heap.size w w' := by
  have d0 : decide ((j : Int) < 0) = false := by simp
  have d1 : decide ((62 : Int) < (j : Int)) = false := by simp; omega
  obtain ⟨ep, lp⟩ := pz_eq j (by omega)
  obtain ⟨eq, lq⟩ := pz_eq (j + 1) (by omega)
  obtain ⟨lt, lu, ec, lc, es⟩ := cz_eq j (by omega)
  obtain ⟨⟨f1, f2⟩, f3, f4⟩ := way_facts j hj
  have A0 := at_c (j : Int) (pz j : Int) j (by omega) rfl ep
  have A1 := at_c ((j : Int) + 1) (pz (j + 1) : Int) (j + 1) (by omega) (by omega) eq
  have A2 := place_c ((pz j : Int) % 8 * 8 + (pz j : Int) / 8) (unz (tz j) : Int) (tz j) lt (by unfold tz; omega) rfl
  have A3 := at_c (unz (tz j) : Int) (cz j : Int) (unz (tz j)) lu rfl ec
  have A4 := apart_any ((pz j : Int) / 8) ((pz (j + 1) : Int) / 8) (by omega) (by omega) (by omega) (by omega)
  have A5 := apart_any ((pz j : Int) % 8) ((pz (j + 1) : Int) % 8) (by omega) (by omega) (by omega) (by omega)
  have g4 : decide (ap ((pz j : Int) / 8) ((pz (j + 1) : Int) / 8) ≤ 1) = true := by simpa using f1
  have g5 : decide (ap ((pz j : Int) % 8) ((pz (j + 1) : Int) % 8) ≤ 1) = true := by simpa using f2
  clear ep eq ec f1 f2
  generalize ap ((pz j : Int) / 8) ((pz (j + 1) : Int) / 8) = ap1 at *
  generalize ap ((pz j : Int) % 8) ((pz (j + 1) : Int) % 8) = ap2 at *
  generalize unz (tz j) = u at *
  generalize tz j = tt at *
  generalize cz j = c at *
  generalize pz (j + 1) = q at *
  generalize pz j = p at *
  have p0 : (0 : Int) ≤ (p : Int) := by omega
  have p1 : (p : Int) < 64 := by omega
  have q0 : (0 : Int) ≤ (q : Int) := by omega
  have q1 : (q : Int) < 64 := by omega
  have c0 : (0 : Int) ≤ (c : Int) := by omega
  have c1 : (c : Int) < 64 := by omega
  have u0 : (0 : Int) ≤ (u : Int) := by omega
  have u1 : (u : Int) < 64 := by omega
  have g1 : decide ((p : Int) / 8 + (p : Int) % 8 ≤ (q : Int) / 8 + (q : Int) % 8) = true := by simp; omega
  have g2 : decide ((q : Int) / 8 + (q : Int) % 8 ≤ (p : Int) / 8 + (p : Int) % 8 + 1) = true := by simp; omega
  have g3 : ((c : Int) / 8 + (c : Int) % 8 == (p : Int) / 8 + (p : Int) % 8) = true := by simp; omega
  have j1 : (j : Int) < 63 := by omega
  have j0 : (0 : Int) ≤ (j : Int) := by omega
  clear f3 f4 es lt lu lc lp lq hj
  go_enter Try.func4, Try.ntmps4
  go_wp2_with fail
  refine (A0 _).mono ?_
  rintro e w1 ⟨rfl, hb1⟩
  go_wp2_with fail
  refine (A1 _).mono ?_
  rintro e w2 ⟨rfl, hb2⟩
  go_wp2_with fail
  refine (A2 _).mono ?_
  rintro e w3 ⟨rfl, hb3⟩
  go_wp2_with fail
  refine (A3 _).mono ?_
  rintro e w4 ⟨rfl, hb4⟩
  go_wp2_with fail
  refine (A4 _).mono ?_
  rintro e w' ⟨rfl, rfl⟩
  go_wp2_with fail
  refine (A5 _).mono ?_
  rintro e w' ⟨rfl, rfl⟩
  go_wp2_with fail
  refine (awake_any _).mono ?_
  rintro e w5 ⟨rfl, hb5⟩
  go_wp2_with fail
  go_ret
  exact ⟨rfl, bt (bt (bt (bt hb1 hb2) hb3) hb4) hb5⟩

set_option maxRecDepth 100000 in
set_option maxHeartbeats 2000000 in
theorem walkWay (n : Int) (w : World) (wf : (Lit.int .i64 n).wf = true) : Calls Try.prog 4 #[.int .i64 n] w fun e w' => e = .returned (.bool true) ∧ Below w.heap.size w w' := by
  by_cases hn : 0 ≤ n ∧ n < 63
  · obtain ⟨j, rfl⟩ : ∃ j : Nat, n = (j : Int) := ⟨n.toNat, by omega⟩
    exact way_in j (by omega) w
  · by_cases h63 : n = 63
    · subst h63
      clear wf hn
      go_enter Try.func4, Try.ntmps4
      go_wp2_with fail
      refine (at_c 63 63 63 (by decide) rfl (by decide) _).mono ?_
      rintro e w1 ⟨rfl, hb1⟩
      go_wp2_with fail
      refine (at_out 64 (by decide) _).mono ?_
      rintro e w' ⟨rfl, rfl⟩
      go_wp2_with fail
      refine (awake_any _).mono ?_
      rintro e w5 ⟨rfl, hb5⟩
      go_wp2_with fail
      go_ret
      exact ⟨rfl, bt hb1 hb5⟩
    · by_cases h1 : n = -1
      · subst h1
        clear wf hn h63
        go_enter Try.func4, Try.ntmps4
        go_wp2_with fail
        refine (at_out (-1) (by decide) _).mono ?_
        rintro e w' ⟨rfl, rfl⟩
        go_wp2_with fail
        refine (at_c 0 0 0 (by decide) rfl (by decide) _).mono ?_
        rintro e w1 ⟨rfl, hb1⟩
        go_wp2_with fail
        refine (awake_any _).mono ?_
        rintro e w5 ⟨rfl, hb5⟩
        go_wp2_with fail
        go_ret
        exact ⟨rfl, bt hb1 hb5⟩
      · have hw := wf64 wf
        by_cases hx : n = 9223372036854775807
        · subst hx
          clear wf hn h63 h1 hw
          have hq : -9223372036854775808 = RowKit.wrap64 9223372036854775808 := by kernel_rfl
          have A1 := at_out (-9223372036854775808) (by decide)
          rw [hq] at A1
          have A1 := Lib.hid A1
          clear hq
          go_enter Try.func4, Try.ntmps4
          go_wp2_with fail
          refine (at_out 9223372036854775807 (by decide) _).mono ?_
          rintro e w' ⟨rfl, rfl⟩
          go_wp2_with fail
          refine (A1.out _).mono ?_
          rintro e w' ⟨rfl, rfl⟩
          go_wp2_with fail
          refine (awake_any _).mono ?_
          rintro e w5 ⟨rfl, hb5⟩
          go_wp2_with fail
          go_ret
          exact ⟨rfl, hb5⟩
        have e1 : (n == 63) = false := by simpa using h63
        have e2 : (n == -1) = false := by simpa using h1
        have b0 : -9223372036854775808 ≤ n := hw.1
        have b1 : n < 9223372036854775807 := by omega
        by_cases h : n < 0
        · have A0 := Lib.hid (at_out n (.inl h))
          have A1 := Lib.hid (at_out (n + 1) (.inl (by omega)))
          clear wf hn h63 h1 hx hw
          have d0 : decide (n < 0) = true := by simpa using h
          go_enter Try.func4, Try.ntmps4
          go_wp2_with fail
          refine (A0.out _).mono ?_
          rintro e w' ⟨rfl, rfl⟩
          go_wp2_with fail
          refine (A1.out _).mono ?_
          rintro e w' ⟨rfl, rfl⟩
          go_wp2_with fail
          refine (awake_any _).mono ?_
          rintro e w5 ⟨rfl, hb5⟩
          go_wp2_with fail
          go_ret
          exact ⟨rfl, hb5⟩
        · have A0 := Lib.hid (at_out n (.inr (by omega)))
          have A1 := Lib.hid (at_out (n + 1) (.inr (by omega)))
          have d0 : decide (n < 0) = false := by simpa using h
          have d1 : decide (62 < n) = true := by simp; omega
          have h0 : 0 ≤ n := by omega
          clear wf hn h63 h1 hx hw h
          go_enter Try.func4, Try.ntmps4
          go_wp2_with fail
          refine (A0.out _).mono ?_
          rintro e w' ⟨rfl, rfl⟩
          go_wp2_with fail
          refine (A1.out _).mono ?_
          rintro e w' ⟨rfl, rfl⟩
          go_wp2_with fail
          refine (awake_any _).mono ?_
          rintro e w5 ⟨rfl, hb5⟩
          go_wp2_with fail
          go_ret
          exact ⟨rfl, hb5⟩
end Go.Proofs.Ytolohhhkfkggaaa
