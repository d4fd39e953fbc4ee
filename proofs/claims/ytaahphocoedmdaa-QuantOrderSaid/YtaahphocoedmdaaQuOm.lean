/- The plain law of QuantOrder: scaled tables, and division, keep the order. -/
import Derived.Test.YtaahphocoedmdaaQuNm
import Derived.Test.YtaahphocoedmdaaQuL
namespace Go.Proofs.Ytaahphocoedmdaa
open Go.RowKit
open Go.Tin
set_option linter.unusedVariables false
set_option linter.unusedSimpArgs false


theorem byI_mono {n m : Int} (h1 : 1 ≤ n) (h : n ≤ m) (h2 : m ≤ 100) : byI m ≤ byI n := by
  unfold byI
  by_cases a : m < 50
  · rw [if_pos a, if_pos (by omega)]
    apply Int.le_ediv_of_mul_le (by omega)
    have h3 : 5000 / m * n ≤ 5000 / m * m := Int.mul_le_mul_of_nonneg_left h (Int.ediv_nonneg (by decide) (by omega))
    have h4 : 5000 / m * m ≤ 5000 := Int.ediv_mul_le _ (by omega)
    omega
  · rw [if_neg a]
    by_cases b : n < 50
    · rw [if_pos b]
      have h3 : 100 ≤ 5000 / n := Int.le_ediv_of_mul_le (by omega) (by omega)
      omega
    · rw [if_neg b]
      omega
theorem scaleI_mono {s t x : Int} (x0 : 1 ≤ x) (h : s ≤ t) : scaleI s x ≤ scaleI t x := by
  have h1 : x * s ≤ x * t := Int.mul_le_mul_of_nonneg_left h (by omega)
  unfold scaleI
  have h2 : (x * s + 50) / 100 ≤ (x * t + 50) / 100 := Int.ediv_le_ediv (by omega) (by omega)
  omega
theorem scaleI_bd (s x : Int) : 1 ≤ scaleI s x ∧ scaleI s x ≤ 255 := by unfold scaleI; omega
theorem scaleI_100 {x : Int} (x0 : 1 ≤ x) (x1 : x ≤ 255) : scaleI 100 x = x := by unfold scaleI; omega
def sclL (q : List Int) (n : Int) : List Int := eachL (fun x _ => scaleI (byI n) x) q q
theorem sclL_len (q : List Int) (n : Int) : (sclL q n).length = 64 := eachL_len _ _ _
theorem scl_may (q : List Int) (n : Int) : inL (sclL q n) 1 255 = true := inL_of (sclL_len q n) fun i hi => by unfold sclL; rw [eachL_nth _ _ _ i hi]; exact scaleI_bd _ _
theorem scl_50 {q : List Int} (hq : q.length = 64) (h : inL q 1 255 = true) : sclL q 50 = q := by
  refine ext_nth (by rw [sclL_len, hq]) fun i hi => ?_
  have hi' : i < 64 := by rw [sclL_len] at hi; exact hi
  obtain ⟨x0, x1⟩ := inL_t h i (by omega)
  unfold sclL
  rw [eachL_nth _ _ _ i hi', show byI 50 = 100 from rfl, scaleI_100 x0 x1]
theorem scl_mono {q : List Int} (hq : q.length = 64) (h : inL q 1 255 = true) {n m : Int} (h1 : 1 ≤ n) (hnm : n ≤ m) (h2 : m ≤ 100) (i : Nat) (hi : i < 64) : nth (sclL q m) i ≤ nth (sclL q n) i := by
  obtain ⟨x0, x1⟩ := inL_t h i (by omega)
  unfold sclL
  rw [eachL_nth _ _ _ i hi, eachL_nth _ _ _ i hi]
  exact scaleI_mono x0 (byI_mono h1 hnm h2)
theorem nearP_mono {x x' y : Int} (h : x ≤ x') (y0 : 1 ≤ y) : nearP x y ≤ nearP x' y := by
  unfold nearP
  exact Int.ediv_le_ediv (by omega) (by omega)
theorem near_mono {x x' y : Int} (h : x ≤ x') (y0 : 1 ≤ y) : nearI x y ≤ nearI x' y := by
  unfold nearI
  by_cases h1 : x < 0
  · rw [if_pos h1]
    by_cases h2 : x' < 0
    · rw [if_pos h2]
      have := nearP_mono (x := -x') (x' := -x) (by omega) y0
      omega
    · rw [if_neg h2]
      have h3 := nearP_le (x := -x) (by omega) y0
      have h4 := nearP_le (x := x') (by omega) y0
      omega
  · rw [if_neg h1, if_neg (by omega)]
    exact nearP_mono h y0
/-- The greater ones, so many of them told. -/
def mxP (r b : List Int) (k : Nat) : List Int := full 64 fun j => if j < k then max (nth r j) (nth b j) else nth r j
def mxL (r b : List Int) : List Int := mxP r b 64
@[simp] theorem mxP_len (r b : List Int) (k : Nat) : (mxP r b k).length = 64 := by simp [mxP]
theorem mxP_nth (r b : List Int) (k j : Nat) (hj : j < 64) : nth (mxP r b k) j = if j < k then max (nth r j) (nth b j) else nth r j := nth_full _ _ _ hj
theorem mxP_zero {r : List Int} (b : List Int) (hr : r.length = 64) : mxP r b 0 = r := by
  refine ext_nth (by simp [hr]) fun i hi => ?_
  rw [mxP_nth _ _ _ i (by simpa using hi), if_neg (by omega)]
theorem mxP_set (r b : List Int) (k : Nat) (hk : k < 64) : (mxP r b k).set k (max (nth r k) (nth b k)) = mxP r b (k + 1) := by
  refine ext_nth (by simp) fun i hi => ?_
  have hi' : i < 64 := by simpa using hi
  rw [nth_set _ _ _ _ (by simp; exact hk), mxP_nth _ _ _ i hi', mxP_nth _ _ _ i hi']
  by_cases h : i = k
  · subst h; rw [if_pos rfl, if_pos (by omega)]
  · rw [if_neg h]
    by_cases h2 : i < k
    · rw [if_pos h2, if_pos (by omega)]
    · rw [if_neg h2, if_neg (by omega)]
theorem div_mono {r b q : List Int} (hb : b.length = 64) (hq : q.length = 64) (h : doneB b q = true) (i : Nat) (hi : i < 64) : nth (eachL nearI b q) i ≤ nth (eachL nearI (mxL r b) q) i := by
  obtain ⟨x0, x1, y0, y1⟩ := doneB_bd hb hq h i hi
  unfold mxL
  rw [eachL_nth _ _ _ i hi, eachL_nth _ _ _ i hi, mxP_nth _ _ _ i hi, if_pos hi]
  exact near_mono (by omega) y0
end Go.Proofs.Ytaahphocoedmdaa
