/- The contracts of the reference's May and rounded; what its sums are. -/
import Derived.Test.YtmfipjpmfigjaaaJ
namespace Go.Proofs.Ytmfipjpmfigjaaa
open Go.RowKit
open Go.Tin
set_option linter.unusedVariables false
set_option linter.unusedSimpArgs false

theorem td (m : Int) (h : m < 0) : m.tdiv 4294967296 = -((-m) / 4294967296) := by
  obtain ⟨q, rfl⟩ : ∃ q, m = -q := ⟨-m, by omega⟩
  rw [Int.neg_tdiv, Int.tdiv_eq_ediv_of_nonneg (by omega), Int.neg_neg]
theorem tm (m : Int) (h : m < 0) : m.tmod 4294967296 = -((-m) % 4294967296) := by
  obtain ⟨q, rfl⟩ : ∃ q, m = -q := ⟨-m, by omega⟩
  rw [Int.neg_tmod, Int.tmod_eq_emod_of_nonneg (by omega), Int.neg_neg]

set_option maxRecDepth 100000 in
set_option maxHeartbeats 2000000 in
theorem rounded_any (n : Int) (h1 : -1000000000000000000 ≤ n) (h2 : n ≤ 1000000000000000000) (w : World) : Calls Try.prog 24 #[.int .i64 n] w fun e w' => e = .returned (.int .i64 (rnd n)) ∧ w = w' := by
  have hr : rnd n = (n + 2147483648) / 4294967296 := rfl
  have HR := Lib.hid hr
  clear hr
  by_cases hp : 0 ≤ n + 2147483648
  · go_enter Try.func24, Try.ntmps24
    go_wp2_with fail
    go_ret
    exact ⟨ret_int (by rw [HR.out]), rfl⟩
  · have hn : n + 2147483648 < 0 := by omega
    have ht := td _ hn
    have hm := tm _ hn
    by_cases hz : (n + 2147483648).tmod 4294967296 = 0
    · have hv : (n + 2147483648).tdiv 4294967296 = rnd n := by rw [HR.out, ht]; omega
      have HV := Lib.hid hv
      clear ht hm hv
      go_enter Try.func24, Try.ntmps24
      go_wp2_with fail
      go_ret
      exact ⟨ret_int HV.out, rfl⟩
    · have hv : (n + 2147483648).tdiv 4294967296 - 1 = rnd n := by rw [HR.out, ht]; omega
      have hb1 : -1000000000000 ≤ (n + 2147483648).tdiv 4294967296 := by rw [ht]; omega
      have hb2 : (n + 2147483648).tdiv 4294967296 ≤ 1000000000000 := by rw [ht]; omega
      have HV := Lib.hid hv
      clear ht hm hv
      go_enter Try.func24, Try.ntmps24
      go_wp2_with fail
      go_ret
      exact ⟨ret_int HV.out, rfl⟩

set_option maxRecDepth 100000 in
set_option maxHeartbeats 2000000 in
theorem rmay_any (l : List Int) (hl : l.length = 64) (w : World) : Calls Try.prog 12 #[.agg (arr .i64 l)] w fun e w' => e = .returned (.bool (!l.any bigB)) ∧ Below w.heap.size w w' := by
  have HL := Lib.hid hl
  clear hl
  go_enter Try.func12, Try.ntmps12
  have q0 := heap_alloc_new w (.cells (arr .i64 l) 26)
  have hB := ba (brefl w) (.cells (arr .i64 l) 26)
  have H0 := Lib.hid q0
  clear q0
  go_wp2_with fail
  generalize w.alloc _ = W0 at *
  go_loopw [3] (fun s3 wr => ∃ (i : Nat), i ≤ 64 ∧ s3 = .int .i64 (i : Int) ∧ (∀ j, j < i → bigB (nth l j) = false) ∧ wr = W0) (fun s3 _ => 64 - (intOf s3).toNat)
  case atStart => exact ⟨0, by omega, rfl, fun j h => absurd h (Nat.not_lt_zero _), rfl⟩
  case round =>
    obtain ⟨i, hi, rfl, hno, rfl⟩ := hrel
    have HN := Lib.hid hno
    clear hno
    by_cases hil : i < 64
    · have i1 : (i : Int) < 64 := by omega
      have k0 := blk_cell H0.out i (by rw [HL.out]; exact hil)
      by_cases hq1 : nth l i < -32768
      · go_wp2_with fail
        go_ret
        exact ⟨by rw [any_at l bigB i (by rw [HL.out]; exact hil) (by simp [bigB, hq1])]; rfl, hB⟩
      · by_cases hq2 : 32768 < nth l i
        · go_wp2_with fail
          go_ret
          exact ⟨by rw [any_at l bigB i (by rw [HL.out]; exact hil) (by simp [bigB, hq2])]; rfl, hB⟩
        · go_wp2_with fail
          go_roundw
          case rel => exact ⟨i + 1, by omega, by go_num, fun j hj => by rcases (by omega : j < i ∨ j = i) with h | rfl; exact HN.out j h; simp [bigB]; omega, by simp⟩
          case measure => simp [intOf]; omega
    · obtain rfl : i = 64 := by omega
      go_wp2_with fail
      go_ret
      exact ⟨by rw [any_not l bigB (by rw [HL.out]; exact HN.out)]; rfl, hB⟩

/-- The reference's sums: of so many products of a row, of so many rows. -/
def innS (F : Nat → Nat → Int) (l : List Int) (q p y : Nat) : Nat → Int
  | 0 => 0
  | n + 1 => innS F l q p y n + nth l (8 * y + n) * F q n * F p y
def outS (F : Nat → Nat → Int) (l : List Int) (q p : Nat) : Nat → Int
  | 0 => 0
  | n + 1 => outS F l q p n + innS F l q p n 8
theorem innS_dot (F : Nat → Nat → Int) (l : List Int) (q p y : Nat) : ∀ n, innS F l q p y n = dot F l y q n * F p y
  | 0 => by simp [innS, dot]
  | n + 1 => by rw [innS, dot, innS_dot F l q p y n, Int.add_mul]
theorem rowsL_at (F : Nat → Nat → Int) (l : List Int) (q y : Nat) (hq : q < 8) (hy : y < 8) : nth (rowsL F l) (8 * q + y) = dot F l y q 8 := by
  unfold rowsL
  rw [nth_full _ _ _ (by omega), show (8 * q + y) % 8 = y by omega, show (8 * q + y) / 8 = q by omega]
theorem outS_dot (F : Nat → Nat → Int) (l : List Int) (q p : Nat) (hq : q < 8) : ∀ n, n ≤ 8 → outS F l q p n = dot F (rowsL F l) q p n
  | 0, _ => rfl
  | n + 1, h => by rw [outS, dot, outS_dot F l q p hq n (by omega), innS_dot, rowsL_at F l q n hq (by omega)]
/-- What the reference tells. -/
def refF (F : Nat → Nat → Int) (l : List Int) (i : Nat) : Int := rnd (outS F l (i % 8) (i / 8) 8)
theorem ref_dct (F : Nat → Nat → Int) (l : List Int) : full 64 (refF F l) = rndL (rowsL F (rowsL F l)) :=
  full_congr _ _ _ fun i hi => by
    unfold refF
    rw [outS_dot F l (i % 8) (i / 8) (by omega) 8 (by omega)]
    have h := rowsL_at F (rowsL F l) (i / 8) (i % 8) (by omega) (by omega)
    rw [show 8 * (i / 8) + i % 8 = i by omega] at h
    rw [h]
theorem innS_bd (F : Nat → Nat → Int) (l : List Int) (q p y : Nat) (hl : ∀ i, -32768 ≤ nth l i ∧ nth l i ≤ 32768) (hF : ∀ a b, -32768 ≤ F a b ∧ F a b ≤ 32768) : ∀ n : Nat, - (35184372088832 * (n : Int)) ≤ innS F l q p y n ∧ innS F l q p y n ≤ 35184372088832 * (n : Int)
  | 0 => by simp [innS]
  | n + 1 => by
    have h := innS_bd F l q p y hl hF n
    have h1 := mul_bd2 (hl (8 * y + n)) (hF q n) (by decide) (by decide)
    have h2 := mul_bd2 h1 (hF p y) (by decide) (by decide)
    rw [innS, show ((n + 1 : Nat) : Int) = (n : Int) + 1 from rfl]
    omega
theorem outS_bd (F : Nat → Nat → Int) (l : List Int) (q p : Nat) (hl : ∀ i, -32768 ≤ nth l i ∧ nth l i ≤ 32768) (hF : ∀ a b, -32768 ≤ F a b ∧ F a b ≤ 32768) : ∀ n : Nat, - (281474976710656 * (n : Int)) ≤ outS F l q p n ∧ outS F l q p n ≤ 281474976710656 * (n : Int)
  | 0 => by simp [outS]
  | n + 1 => by
    have h := outS_bd F l q p hl hF n
    have h1 := innS_bd F l q p n hl hF 8
    rw [outS, show ((n + 1 : Nat) : Int) = (n : Int) + 1 from rfl]
    omega
end Go.Proofs.Ytmfipjpmfigjaaa
