/- The plain law of QuantNearest: division to the nearest, and products. -/
import Derived.Test.YtaahphocoedmdaaQuK
import Derived.Test.YtaahphocoedmdaaRwq
namespace Go.Proofs.Ytaahphocoedmdaa
open Go.RowKit
open Go.Tin
set_option linter.unusedVariables false
set_option linter.unusedSimpArgs false


theorem near_split (x y : Int) (h0 : 0 ≤ x) (y0 : 1 ≤ y) : ∃ n r : Int, x = n * y + r ∧ 0 ≤ n ∧ 0 ≤ n * y ∧ n ≤ n * y ∧ ((y ≤ 2 * r ∧ r < y ∧ nearP x y = n + 1) ∨ (2 * r < y ∧ 0 ≤ r ∧ nearP x y = n)) := by
  obtain ⟨n, r, _, hx, r0, r1, n0, _, m0, _⟩ := near_parts x y h0 y0
  have hn := nearP_is hx r0 r1
  have h1 : n * 1 ≤ n * y := Int.mul_le_mul_of_nonneg_left y0 n0
  refine ⟨n, r, hx, n0, m0, by omega, ?_⟩
  by_cases h : y ≤ 2 * r
  · exact .inl ⟨h, r1, by rw [hn, if_pos h]⟩
  · exact .inr ⟨by omega, r0, by rw [hn, if_neg h]⟩
theorem nearP_le {x y : Int} (h0 : 0 ≤ x) (y0 : 1 ≤ y) : 0 ≤ nearP x y ∧ nearP x y ≤ x := by
  obtain ⟨n, r, hx, n0, m0, m1, h | h⟩ := near_split x y h0 y0
  · omega
  · omega
theorem near_le {x y : Int} (y0 : 1 ≤ y) {M : Int} (hM : -M ≤ x ∧ x ≤ M) : -M ≤ nearI x y ∧ nearI x y ≤ M := by
  unfold nearI
  split
  · have := nearP_le (x := -x) (by omega) y0
    omega
  · have := nearP_le (x := x) (by omega) y0
    omega
theorem nearP_off {x y : Int} (h0 : 0 ≤ x) (y0 : 1 ≤ y) : 2 * (nearP x y * y - x) ≤ y ∧ 2 * (x - nearP x y * y) ≤ y := by
  obtain ⟨n, r, hx, n0, m0, m1, ⟨h1, h2, h3⟩ | ⟨h1, h2, h3⟩⟩ := near_split x y h0 y0
  · rw [h3, Int.add_mul]
    omega
  · rw [h3]
    omega
theorem near_off (x : Int) {y : Int} (y0 : 1 ≤ y) : 2 * (nearI x y * y - x) ≤ y ∧ 2 * (x - nearI x y * y) ≤ y := by
  unfold nearI
  split
  · have h := nearP_off (x := -x) (by omega) y0
    have e : -nearP (-x) y * y = -(nearP (-x) y * y) := Int.neg_mul _ _
    rw [e]
    omega
  · exact nearP_off (by omega) y0
theorem nearP_zero {y : Int} (y0 : 1 ≤ y) : nearP 0 y = 0 := by
  obtain ⟨n, r, hx, n0, m0, m1, ⟨h1, h2, h3⟩ | ⟨h1, h2, h3⟩⟩ := near_split 0 y (by omega) y0
  · omega
  · omega
theorem near_neg (x : Int) {y : Int} (y0 : 1 ≤ y) : nearI (-x) y = -nearI x y := by
  unfold nearI
  by_cases h : x < 0
  · rw [if_neg (by omega), if_pos h]
    omega
  · by_cases h2 : x = 0
    · subst h2
      have := nearP_zero y0
      rw [if_neg (by omega), if_neg (by omega)]
      simp [this]
    · rw [if_pos (by omega), if_neg h, Int.neg_neg]
theorem nearP_mul {x y : Int} (h0 : 0 ≤ x) (y0 : 1 ≤ y) : nearP (x * y) y = x := by
  rw [nearP_is (n := x) (r := 0) (by omega) (by omega) (by omega), if_neg (by omega)]
theorem near_mul (x : Int) {y : Int} (y0 : 1 ≤ y) : nearI (x * y) y = x := by
  unfold nearI
  by_cases h : x < 0
  · have h1 : x * y < 0 := Int.mul_neg_of_neg_of_pos h (by omega)
    rw [if_pos h1]
    have e : -(x * y) = -x * y := (Int.neg_mul _ _).symm
    rw [e, nearP_mul (by omega) y0]
    omega
  · have h1 : 0 ≤ x * y := Int.mul_nonneg (by omega) (by omega)
    rw [if_neg (by omega), nearP_mul (by omega) y0]

def negL (a q : List Int) : List Int := eachL (fun x _ => -x) a q
theorem eachL_nth (G : Int → Int → Int) (a b : List Int) (i : Nat) (hi : i < 64) : nth (eachL G a b) i = G (nth a i) (nth b i) := nth_full _ _ _ hi
theorem inL_of {l : List Int} {a b : Int} (hl : l.length = 64) (h : ∀ i, i < 64 → a ≤ nth l i ∧ nth l i ≤ b) : inL l a b = true := by
  unfold inL
  rw [any_not l _ (fun i hi => by have := h i (by omega); unfold outB; simp; omega)]
  rfl
theorem done_of {a b a' : List Int} (ha : a.length = 64) (hb : b.length = 64) (ha' : a'.length = 64) (h : doneB a b = true) (hk : ∀ i, i < 64 → -1048576 ≤ nth a' i ∧ nth a' i ≤ 1048576) : doneB a' b = true := by
  unfold doneB at *
  rw [Bool.and_eq_true] at *
  exact ⟨h.1, inL_of ha' hk⟩
theorem done_near {a b : List Int} (ha : a.length = 64) (hb : b.length = 64) (h : doneB a b = true) : doneB (eachL nearI a b) b = true :=
  done_of ha hb (by simp) h fun i hi => by
    obtain ⟨x0, x1, y0, y1⟩ := doneB_bd ha hb h i hi
    rw [eachL_nth _ _ _ i hi]
    exact near_le y0 ⟨x0, x1⟩
theorem done_neg {a b : List Int} (ha : a.length = 64) (hb : b.length = 64) (h : doneB a b = true) : doneB (negL a b) b = true :=
  done_of ha hb (by simp [negL]) h fun i hi => by
    obtain ⟨x0, x1, y0, y1⟩ := doneB_bd ha hb h i hi
    unfold negL
    rw [eachL_nth _ _ _ i hi]
    omega
theorem near_again {a b : List Int} (ha : a.length = 64) (hb : b.length = 64) (h : doneB a b = true) : eachL nearI (eachL mulI a b) b = a := by
  refine ext_nth (by simp [ha]) fun i hi => ?_
  have hi' : i < 64 := by simpa using hi
  obtain ⟨x0, x1, y0, y1⟩ := doneB_bd ha hb h i hi'
  rw [eachL_nth _ _ _ i hi', eachL_nth _ _ _ i hi']
  exact near_mul _ y0
theorem neg_near {a b : List Int} (ha : a.length = 64) (hb : b.length = 64) (h : doneB a b = true) (i : Nat) (hi : i < 64) : nth (eachL nearI (negL a b) b) i = -nth (eachL nearI a b) i := by
  obtain ⟨x0, x1, y0, y1⟩ := doneB_bd ha hb h i hi
  unfold negL
  rw [eachL_nth _ _ _ i hi, eachL_nth _ _ _ i hi, eachL_nth _ _ _ i hi]
  exact near_neg _ y0
end Go.Proofs.Ytaahphocoedmdaa
