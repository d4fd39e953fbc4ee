/- The contracts of the references Within, Nearest, Divide, Multiply. -/
import Derived.Test.YtaahphocoedmdaaQuD
namespace Go.Proofs.Ytaahphocoedmdaa
open Go.RowKit
open Go.Tin
set_option linter.unusedVariables false
set_option linter.unusedSimpArgs false


theorem rwithin_aux (l : List Int) (a b : Int) (j : Nat) (h : ∀ i, i < j → outB a b (nth l i) = false) (hj : j = l.length) : inL l a b = true := by
  unfold inL
  rw [any_not l _ (fun i hi => h i (by omega))]
  rfl
set_option maxRecDepth 100000 in
set_option maxHeartbeats 1000000 in
theorem rwithin_any (l : List Int) (hl : l.length = 64) (a b : Int) (w : World) : Calls Try.prog 7 #[.agg (arr .i64 l), .int .i64 a, .int .i64 b] w fun e w' => e = .returned (.bool (inL l a b)) ∧ Below w.heap.size w w' := by
  have HL := Lib.hid hl
  clear hl
  have HG := Lib.hid (heap_alloc_new w (.cells (arr .i64 l) 23))
  go_enter Try.func7, Try.ntmps7
  go_wp2_with fail
  go_loop [7] (fun s7 => ∃ j : Nat, j ≤ 64 ∧ s7 = .int .i64 (j : Int) ∧ ∀ i, i < j → outB a b (nth l i) = false) (fun s7 => 64 - (intOf s7).toNat)
  case atStart => exact ⟨0, by omega, rfl, fun i h => absurd h (Nat.not_lt_zero _)⟩
  case round =>
    obtain ⟨j, hj, rfl, hno⟩ := hrel
    have HN := Lib.hid hno
    clear hno
    by_cases hj64 : j < 64
    · have i1 : (j : Int) < 64 := by omega
      have k0 := row_cell HG.out j (arr_get j (by rw [HL.out]; exact hj64))
      by_cases h : nth l j < a
      · have HR := Lib.hid (show inL l a b = false by unfold inL; rw [any_at l _ j (by rw [HL.out]; exact hj64) (by unfold outB; simp [h])]; rfl)
        have d : decide (nth l j < a) = true := by simpa using h
        clear h
        go_wp2_with fail
        go_ret
        exact ⟨ret_bool HR.out.symm, ba (brefl w) _⟩
      · have d : decide (nth l j < a) = false := by simpa using h
        by_cases h2 : b < nth l j
        · have HR := Lib.hid (show inL l a b = false by unfold inL; rw [any_at l _ j (by rw [HL.out]; exact hj64) (by unfold outB; simp [h2])]; rfl)
          have d2 : decide (b < nth l j) = true := by simpa using h2
          clear h h2
          go_wp2_with fail
          go_ret
          exact ⟨ret_bool HR.out.symm, ba (brefl w) _⟩
        · have d2 : decide (b < nth l j) = false := by simpa using h2
          have HO := Lib.hid (show outB a b (nth l j) = false by unfold outB; rw [d, d2]; rfl)
          clear h h2
          go_wp2_with fail
          go_round
          case rel => exact ⟨j + 1, by omega, by go_num, fun i hi => by rcases (by omega : i < j ∨ i = j) with h | rfl; exact HN.out i h; exact HO.out⟩
          case measure => simp [intOf]; omega
    · obtain rfl : j = 64 := by omega
      have HR := Lib.hid (rwithin_aux l a b 64 HN.out HL.out.symm)
      go_wp2_with fail
      go_ret
      exact ⟨ret_bool HR.out.symm, ba (brefl w) _⟩

theorem div_is {a b k : Int} (hb : 0 < b) (h1 : k * b ≤ a) (h2 : a < (k + 1) * b) : a / b = k :=
  Int.le_antisymm (Int.le_of_lt_add_one (Int.ediv_lt_of_lt_mul hb h2)) (Int.le_ediv_of_mul_le hb h1)
theorem nearP_is {x y n r : Int} (hx : x = n * y + r) (h0 : 0 ≤ r) (h1 : r < y) : nearP x y = if y ≤ 2 * r then n + 1 else n := by
  unfold nearP
  have e : n * (2 * y) = 2 * (n * y) := by rw [Int.mul_left_comm]
  split
  · refine div_is (by omega) ?_ ?_ <;> (try simp only [Int.add_mul]) <;> omega
  · refine div_is (by omega) ?_ ?_ <;> (try simp only [Int.add_mul]) <;> omega

/-- What a division to the nearest is made of. -/
theorem near_parts (x y : Int) (h0 : 0 ≤ x) (y0 : 1 ≤ y) : ∃ n r : Int, x / y = n ∧ x = n * y + r ∧ 0 ≤ r ∧ r < y ∧ 0 ≤ n ∧ n ≤ x ∧ 0 ≤ n * y ∧ n * y ≤ x := by
  have hd := Int.mul_ediv_add_emod x y
  have r0 := Int.emod_nonneg x (show y ≠ 0 by omega)
  have r1 := Int.emod_lt_of_pos x (show 0 < y by omega)
  have n0 : 0 ≤ x / y := Int.ediv_nonneg h0 (by omega)
  have e : x / y * y = y * (x / y) := Int.mul_comm _ _
  have m0 : 0 ≤ x / y * y := Int.mul_nonneg n0 (by omega)
  exact ⟨x / y, x % y, rfl, by omega, r0, r1, n0, Int.ediv_le_self _ h0, m0, by omega⟩

set_option maxRecDepth 100000 in
set_option maxHeartbeats 1000000 in
theorem rnear_pos (x y : Int) (w : World) (h0 : 0 ≤ x) (h1 : x ≤ 1099511627776) (y0 : 1 ≤ y) (y1 : y ≤ 255) : Calls Try.prog 29 #[.int .i64 x, .int .i64 y] w fun e w' => e = .returned (.int .i64 (nearP x y)) ∧ w = w' := by
  obtain ⟨n, r, hn, hx, r0, r1, n0, n1, m0, m1⟩ := near_parts x y h0 y0
  have HE := Lib.hid (nearP_is hx r0 r1)
  have e1 : x - n * y = r := by omega
  clear hx
  by_cases h : y ≤ 2 * r
  · have HR := Lib.hid (show nearP x y = n + 1 by rw [HE.out, if_pos h])
    go_enter Try.func29, Try.ntmps29
    go_wp2_with fail
    go_ret
    exact ⟨ret_int HR.out.symm, rfl⟩
  · have HR := Lib.hid (show nearP x y = n by rw [HE.out, if_neg h])
    have d : decide (y ≤ 2 * r) = false := by simpa using h
    have h2 : -y < 2 * r := by omega
    go_enter Try.func29, Try.ntmps29
    go_wp2_with fail
    go_ret
    exact ⟨ret_int HR.out.symm, rfl⟩
set_option maxRecDepth 100000 in
set_option maxHeartbeats 1000000 in
theorem rnear_neg (x y : Int) (w : World) (h0 : x < 0) (h1 : -1099511627776 ≤ x) (y0 : 1 ≤ y) (y1 : y ≤ 255) : Calls Try.prog 29 #[.int .i64 x, .int .i64 y] w fun e w' => e = .returned (.int .i64 (-nearP (-x) y)) ∧ w = w' := by
  obtain ⟨n, r, hn, hx, r0, r1, n0, n1, m0, m1⟩ := near_parts (-x) y (by omega) y0
  have HE := Lib.hid (nearP_is hx r0 r1)
  have ht : x.tdiv y = -n := by
    have e : x = -(-x) := by omega
    rw [e, Int.neg_tdiv, Int.tdiv_eq_ediv_of_nonneg (by omega), hn]
  have e0 : -n * y = -(n * y) := Int.neg_mul _ _
  have e1 : x - -n * y = -r := by rw [e0]; omega
  have m2 : -n * y ≤ 0 := by omega
  have m3 : x ≤ -n * y := by omega
  clear hx hn e0
  by_cases h : y ≤ 2 * r
  · have HR := Lib.hid (show -nearP (-x) y = -n - 1 by rw [HE.out, if_pos h]; omega)
    have d : decide (y ≤ 2 * -r) = false := by simp; omega
    have d2 : decide (2 * -r ≤ -y) = true := by simp; omega
    go_enter Try.func29, Try.ntmps29
    go_wp2_with fail
    go_ret
    exact ⟨ret_int HR.out.symm, rfl⟩
  · have HR := Lib.hid (show -nearP (-x) y = -n by rw [HE.out, if_neg h])
    have d : decide (y ≤ 2 * -r) = false := by simp; omega
    have d2 : decide (2 * -r ≤ -y) = false := by simp; omega
    go_enter Try.func29, Try.ntmps29
    go_wp2_with fail
    go_ret
    exact ⟨ret_int HR.out.symm, rfl⟩
theorem rnear_any (x y : Int) (w : World) (h0 : -1099511627776 ≤ x) (h1 : x ≤ 1099511627776) (y0 : 1 ≤ y) (y1 : y ≤ 255) : Calls Try.prog 29 #[.int .i64 x, .int .i64 y] w fun e w' => e = .returned (.int .i64 (nearI x y)) ∧ w = w' := by
  by_cases h : x < 0
  · have e : nearI x y = -nearP (-x) y := by unfold nearI; rw [if_pos h]
    rw [e]
    exact rnear_neg x y w h h0 y0 y1
  · have e : nearI x y = nearP x y := by unfold nearI; rw [if_neg h]
    rw [e]
    exact rnear_pos x y w (by omega) h1 y0 y1
end Go.Proofs.Ytaahphocoedmdaa
