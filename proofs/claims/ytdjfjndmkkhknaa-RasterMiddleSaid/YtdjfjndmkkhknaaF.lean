/- The contract of mean: the middle of a box of colours. -/
import Derived.Test.YtdjfjndmkkhknaaE
namespace Go.Proofs.Ytdjfjndmkkhknaa
open Go.RowKit
open Go.Tin
set_option linter.unusedVariables false
set_option linter.unusedSimpArgs false

theorem at52 : AT Try.prog 52 3 .i64 3 := ⟨Try.underlying52, Try.underlying3, by kernel_rfl, by kernel_rfl⟩
/-- Where a place's colour begins, by numbers. -/
def pp (W : Int) (x y : Nat) : Nat := pos W (x : Int) (y : Int)
/-- The sum of so many bytes of a row of a box, of so many rows. -/
def rsum (l : List Int) (W : Int) (c y x0 : Nat) : Nat → Int
  | 0 => 0
  | k + 1 => rsum l W c y x0 k + nth l (pp W (x0 + k) y + c)
def bsum (l : List Int) (W : Int) (c x0 m y0 : Nat) : Nat → Int
  | 0 => 0
  | k + 1 => bsum l W c x0 m y0 k + rsum l W c (y0 + k) x0 m
theorem rsum_bd (l : List Int) (hb : Byts l) (W : Int) (c y x0 : Nat) : ∀ k : Nat, 0 ≤ rsum l W c y x0 k ∧ rsum l W c y x0 k ≤ 255 * (k : Int)
  | 0 => ⟨Int.le_refl _, Int.le_refl _⟩
  | k + 1 => by
    have h := rsum_bd l hb W c y x0 k
    have h2 := hb (pp W (x0 + k) y + c)
    rw [rsum]
    push_cast at *
    omega
theorem bsum_bd (l : List Int) (hb : Byts l) (W : Int) (c x0 m y0 : Nat) : ∀ k : Nat, 0 ≤ bsum l W c x0 m y0 k ∧ bsum l W c x0 m y0 k ≤ 255 * ((m * k : Nat) : Int)
  | 0 => ⟨Int.le_refl _, by simp [bsum]⟩
  | k + 1 => by
    have h := bsum_bd l hb W c x0 m y0 k
    have h2 := rsum_bd l hb W c (y0 + k) x0 m
    rw [bsum, Nat.mul_succ]
    push_cast at *
    omega
def meanF (l : List Int) (W : Int) (x0 m y0 k : Nat) (c : Nat) : Int := (2 * bsum l W c x0 m y0 k + ((m * k : Nat) : Int)) / (2 * ((m * k : Nat) : Int))
def meanL (l : List Int) (W : Int) (x0 m y0 k : Nat) : List Int := full 3 (meanF l W x0 m y0 k)
theorem meanF_bd (l : List Int) (hb : Byts l) (W : Int) (x0 m y0 k c : Nat) (hm : 0 < m) (hk : 0 < k) : 0 ≤ meanF l W x0 m y0 k c ∧ meanF l W x0 m y0 k c ≤ 255 := by
  have h := bsum_bd l hb W c x0 m y0 k
  have hp : 0 < m * k := Nat.mul_pos hm hk
  unfold meanF
  generalize m * k = q at *
  generalize bsum l W c x0 m y0 k = s at *
  constructor
  · exact Int.ediv_nonneg (by omega) (by omega)
  · have : (2 * s + (q : Int)) / (2 * (q : Int)) < 256 := Int.ediv_lt_of_lt_mul (by omega) (by omega)
    omega
/-- The sums behind so many rows, so many places of the next, so many colours of the next place. -/
def sums (l : List Int) (W : Int) (x0 m y0 j i : Nat) (t : Nat) : List Int := full 3 fun c => bsum l W c x0 m y0 j + rsum l W c (y0 + j) x0 i + if c < t then nth l (pp W (x0 + i) (y0 + j) + c) else 0
theorem sums_len (l : List Int) (W : Int) (x0 m y0 j i t : Nat) : (sums l W x0 m y0 j i t).length = 3 := by simp [sums]
theorem sums_next (l : List Int) (W : Int) (x0 m y0 j i : Nat) : sums l W x0 m y0 j i 3 = sums l W x0 m y0 j (i + 1) 0 :=
  full_congr _ _ _ fun c hc => by simp [hc, rsum, Int.add_assoc]
theorem sums_row (l : List Int) (W : Int) (x0 m y0 j : Nat) : sums l W x0 m y0 j m 0 = sums l W x0 m y0 (j + 1) 0 0 :=
  full_congr _ _ _ fun c hc => by simp [bsum, rsum]
theorem sums_zero (l : List Int) (W : Int) (x0 m y0 : Nat) : sums l W x0 m y0 0 0 0 = [0, 0, 0] := by simp [sums, bsum, rsum, full, List.range_succ]
theorem sums_set (l : List Int) (W : Int) (x0 m y0 j i t : Nat) (ht : t < 3) : (sums l W x0 m y0 j i t).set t (nth (sums l W x0 m y0 j i t) t + nth l (pp W (x0 + i) (y0 + j) + t)) = sums l W x0 m y0 j i (t + 1) := by
  unfold sums
  rw [nth_full _ _ _ ht]
  apply List.ext_getElem
  · simp [full]
  · intro q h1 h2
    rw [List.getElem_set]
    simp only [full, List.getElem_map, List.getElem_range]
    by_cases hq : t = q
    · subst hq; simp
    · rw [if_neg hq]
      by_cases h : q < t
      · rw [if_pos h, if_pos (by omega)]
      · rw [if_neg h, if_neg (by omega)]
theorem sums_bd (l : List Int) (hb : Byts l) (W : Int) (x0 m y0 j i t c : Nat) (hc : c < 3) (hm : m ≤ 4096) (hj : j ≤ 4096) (hi : i ≤ 4096) : 0 ≤ nth (sums l W x0 m y0 j i t) c ∧ nth (sums l W x0 m y0 j i t) c ≤ 10000000000 := by
  unfold sums
  rw [nth_full _ _ _ hc]
  have h1 := bsum_bd l hb W c x0 m y0 j
  have h2 := rsum_bd l hb W c (y0 + j) x0 i
  have h3 := hb (pp W (x0 + i) (y0 + j) + c)
  have h4 : m * j ≤ 4096 * 4096 := Nat.mul_le_mul hm hj
  split <;> omega
theorem sums_mean (l : List Int) (W : Int) (x0 m y0 k t : Nat) (ht : t < 3) : nth (sums l W x0 m y0 k 0 0) t = bsum l W t x0 m y0 k := by
  unfold sums
  rw [nth_full _ _ _ ht]
  simp [rsum]
theorem meanF_eq (l : List Int) (W : Int) (x0 m y0 k t : Nat) : meanF l W x0 m y0 k t = (2 * bsum l W t x0 m y0 k + (m : Int) * (k : Int)) / (2 * ((m : Int) * (k : Int))) := by
  unfold meanF
  rw [Int.natCast_mul]
theorem mk_bd (m k : Nat) (hm : 0 < m) (hk : 0 < k) (hm1 : m ≤ 4096) (hk1 : k ≤ 4096) : 0 < (m : Int) * (k : Int) ∧ (m : Int) * (k : Int) ≤ 16777216 := by
  have h1 : 0 < m * k := Nat.mul_pos hm hk
  have h2 : m * k ≤ 4096 * 4096 := Nat.mul_le_mul hm1 hk1
  rw [← Int.natCast_mul]
  omega
end Go.Proofs.Ytdjfjndmkkhknaa
