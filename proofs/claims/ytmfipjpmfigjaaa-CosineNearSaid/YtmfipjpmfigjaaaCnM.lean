/- The plain law of CosineNear: each coefficient is near the exact one. -/
import Derived.Test.YtmfipjpmfigjaaaQ
import Derived.Test.YtmfipjpmfigjaaaCnD
namespace Go.Proofs.Ytmfipjpmfigjaaa
open Go.RowKit
open Go.Tin
set_option linter.unusedVariables false
set_option linter.unusedSimpArgs false


/-- The two ends between which a part lies, of one as the sample. -/
def endA (u v x y : Nat) : Int := halfS u x * halfS v y * halfN u x * halfN v y
def endB (u v x y : Nat) : Int := halfS u x * halfS v y * (halfN u x + 1) * (halfN v y + 1)
def least1 (u v x y : Nat) (n : Int) : Int := n * halfS u x * halfS v y * halfN u x * halfN v y
def most1 (u v x y : Nat) (n : Int) : Int := n * halfS u x * halfS v y * (halfN u x + 1) * (halfN v y + 1)
def loT (l : List Int) (u v y x : Nat) : Int := min (least1 u v x y (nth l (8 * y + x))) (most1 u v x y (nth l (8 * y + x)))
def hiT (l : List Int) (u v y x : Nat) : Int := max (least1 u v x y (nth l (8 * y + x))) (most1 u v x y (nth l (8 * y + x)))
def loS (l : List Int) (u v : Nat) : Int := S (fun y => S (fun x => loT l u v y x) 8) 8
def hiS (l : List Int) (u v : Nat) : Int := S (fun y => S (fun x => hiT l u v y x) 8) 8
theorem least1_eq (u v x y : Nat) (n : Int) : least1 u v x y n = n * endA u v x y := by unfold least1 endA; simp only [Int.mul_assoc]
theorem most1_eq (u v x y : Nat) (n : Int) : most1 u v x y n = n * endB u v x y := by unfold most1 endB; simp only [Int.mul_assoc]

def ff (u v x y : Nat) : Int := fwdF u x * fwdF v y
def errT (u v x y : Nat) : Int := max 0 (max (128 * (100000000000000 * ff u v x y - 4294967296 * max (endA u v x y) (endB u v x y))) (128 * (4294967296 * min (endA u v x y) (endB u v x y) - 100000000000000 * ff u v x y)))
theorem err_bd : ∀ u, u < 8 → ∀ v, v < 8 → S (fun y => S (fun x => errT u v x y) 8) 8 ≤ 53687091200000000000000 := by decide +kernel
def upT (u v x y : Nat) : Int := max (127 * ff u v x y) (-128 * ff u v x y)
def dnT (u v x y : Nat) : Int := min (127 * ff u v x y) (-128 * ff u v x y)
theorem up_bd : ∀ u, u < 8 → ∀ v, v < 8 → S (fun y => S (fun x => upT u v x y) 8) 8 ≤ (if u + v = 0 then 1016 else 1023) * 4294967296 + 2147483647 := by decide +kernel
theorem dn_bd : ∀ u, u < 8 → ∀ v, v < 8 → -((if u + v = 0 then 1024 else 1023) * 4294967296 + 2147483647) ≤ S (fun y => S (fun x => dnT u v x y) 8) 8 := by decide +kernel

theorem S_comb (a b e : Nat → Int) (c d : Int) : ∀ n, (∀ i, i < n → a i * c - b i * d ≤ e i) → S a n * c - S b n * d ≤ S e n
  | 0, _ => by simp [S]
  | n + 1, h => by
    have h1 := S_comb a b e c d n (fun i hi => h i (by omega))
    have h2 := h n (by omega)
    simp only [S, Int.add_mul]
    omega
theorem S_le (f g : Nat → Int) : ∀ n, (∀ i, i < n → f i ≤ g i) → S f n ≤ S g n
  | 0, _ => by simp [S]
  | n + 1, h => by
    have h1 := S_le f g n (fun i hi => h i (by omega))
    have h2 := h n (by omega)
    simp only [S]
    omega
theorem mulb {n X : Int} (h0 : 0 ≤ n) (h1 : n ≤ 128) : n * X ≤ max 0 (128 * X) := by
  by_cases h : X ≤ 0
  · have := Int.mul_le_mul_of_nonneg_left h h0
    rw [Int.mul_zero] at this
    omega
  · have := Int.mul_le_mul_of_nonneg_right h1 (show 0 ≤ X by omega)
    omega
theorem hi_term {n A B f : Int} (h0 : -128 ≤ n) (h1 : n ≤ 127) : n * f * 100000000000000 - max (n * A) (n * B) * 4294967296 ≤ max 0 (max (128 * (100000000000000 * f - 4294967296 * max A B)) (128 * (4294967296 * min A B - 100000000000000 * f))) := by
  by_cases hn : 0 ≤ n
  · have h2 := mulb (X := 100000000000000 * f - 4294967296 * max A B) hn (by omega)
    have h3 : n * (100000000000000 * f - 4294967296 * max A B) = n * f * 100000000000000 - n * max A B * 4294967296 := by
      rw [Int.mul_sub, Int.mul_left_comm, Int.mul_left_comm n 4294967296, Int.mul_comm 100000000000000, Int.mul_comm 4294967296]
    have h4 : n * max A B ≤ max (n * A) (n * B) := by
      rcases Int.le_total A B with h | h
      · rw [Int.max_eq_right h]; omega
      · rw [Int.max_eq_left h]; omega
    omega
  · have h2 := mulb (n := -n) (X := 4294967296 * min A B - 100000000000000 * f) (by omega) (by omega)
    have h3 : -n * (4294967296 * min A B - 100000000000000 * f) = n * f * 100000000000000 - n * min A B * 4294967296 := by
      rw [Int.mul_sub, Int.mul_left_comm, Int.mul_left_comm (-n) 100000000000000, Int.neg_mul, Int.neg_mul, Int.mul_comm 100000000000000, Int.mul_comm 4294967296, Int.neg_mul, Int.neg_mul]
      omega
    have h4 : n * min A B ≤ max (n * A) (n * B) := by
      rcases Int.le_total A B with h | h
      · rw [Int.min_eq_left h]; omega
      · rw [Int.min_eq_right h]; omega
    omega
theorem lo_term {n A B f : Int} (h0 : -128 ≤ n) (h1 : n ≤ 127) : min (n * A) (n * B) * 4294967296 - n * f * 100000000000000 ≤ max 0 (max (128 * (100000000000000 * f - 4294967296 * max A B)) (128 * (4294967296 * min A B - 100000000000000 * f))) := by
  by_cases hn : 0 ≤ n
  · have h2 := mulb (X := 4294967296 * min A B - 100000000000000 * f) hn (by omega)
    have h3 : n * (4294967296 * min A B - 100000000000000 * f) = n * min A B * 4294967296 - n * f * 100000000000000 := by
      rw [Int.mul_sub, Int.mul_left_comm, Int.mul_left_comm n 100000000000000, Int.mul_comm 100000000000000, Int.mul_comm 4294967296]
    have h4 : min (n * A) (n * B) ≤ n * min A B := by
      rcases Int.le_total A B with h | h
      · rw [Int.min_eq_left h]; omega
      · rw [Int.min_eq_right h]; omega
    omega
  · have h2 := mulb (n := -n) (X := 100000000000000 * f - 4294967296 * max A B) (by omega) (by omega)
    have h3 : -n * (100000000000000 * f - 4294967296 * max A B) = n * max A B * 4294967296 - n * f * 100000000000000 := by
      rw [Int.mul_sub, Int.mul_left_comm, Int.mul_left_comm (-n) 4294967296, Int.neg_mul, Int.neg_mul, Int.mul_comm 100000000000000, Int.mul_comm 4294967296, Int.neg_mul, Int.neg_mul]
      omega
    have h4 : min (n * A) (n * B) ≤ n * max A B := by
      rcases Int.le_total A B with h | h
      · rw [Int.max_eq_right h]; omega
      · rw [Int.max_eq_left h]; omega
    omega
theorem out_eq (l : List Int) (u v : Nat) : outS fwdF l u v 8 = S (fun y => S (fun x => nth l (8 * y + x) * ff u v x y) 8) 8 := by
  rw [outS_S]
  exact S_congr _ _ 8 fun y _ => S_congr _ _ 8 fun x _ => by unfold ff; rw [Int.mul_assoc]
theorem hi_near (l : List Int) (hl : ∀ i, -128 ≤ nth l i ∧ nth l i ≤ 127) (u v : Nat) (hu : u < 8) (hv : v < 8) : outS fwdF l u v 8 * 100000000000000 - hiS l u v * 4294967296 ≤ 53687091200000000000000 := by
  rw [out_eq]
  unfold hiS
  refine Int.le_trans (S_comb _ _ _ _ _ 8 fun y _ => S_comb _ _ _ _ _ 8 fun x _ => ?_) (err_bd u hu v hv)
  unfold hiT errT
  rw [least1_eq, most1_eq]
  exact hi_term (hl _).1 (hl _).2
theorem lo_near (l : List Int) (hl : ∀ i, -128 ≤ nth l i ∧ nth l i ≤ 127) (u v : Nat) (hu : u < 8) (hv : v < 8) : loS l u v * 4294967296 - outS fwdF l u v 8 * 100000000000000 ≤ 53687091200000000000000 := by
  rw [out_eq]
  unfold loS
  refine Int.le_trans (S_comb _ _ _ _ _ 8 fun y _ => S_comb _ _ _ _ _ 8 fun x _ => ?_) (err_bd u hu v hv)
  unfold loT errT
  rw [least1_eq, most1_eq]
  exact lo_term (hl _).1 (hl _).2
theorem two_ends {n f : Int} (h0 : -128 ≤ n) (h1 : n ≤ 127) : min (127 * f) (-128 * f) ≤ n * f ∧ n * f ≤ max (127 * f) (-128 * f) := by
  by_cases hf : 0 ≤ f
  · have a := Int.mul_le_mul_of_nonneg_right h0 hf
    have b := Int.mul_le_mul_of_nonneg_right h1 hf
    omega
  · have a := Int.mul_le_mul_of_nonpos_right h0 (show f ≤ 0 by omega)
    have b := Int.mul_le_mul_of_nonpos_right h1 (show f ≤ 0 by omega)
    omega
theorem out_ends (l : List Int) (hl : ∀ i, -128 ≤ nth l i ∧ nth l i ≤ 127) (u v : Nat) (hu : u < 8) (hv : v < 8) :
    -((if u + v = 0 then 1024 else 1023) * 4294967296 + 2147483647) ≤ outS fwdF l u v 8 ∧ outS fwdF l u v 8 ≤ (if u + v = 0 then 1016 else 1023) * 4294967296 + 2147483647 := by
  rw [out_eq]
  exact ⟨Int.le_trans (dn_bd u hu v hv) (S_le _ _ 8 fun y _ => S_le _ _ 8 fun x _ => (two_ends (hl _).1 (hl _).2).1),
    Int.le_trans (S_le _ _ 8 fun y _ => S_le _ _ 8 fun x _ => (two_ends (hl _).1 (hl _).2).2) (up_bd u hu v hv)⟩
/-- What is asked of a coefficient. -/
theorem near_all (l : List Int) (hl : ∀ i, -128 ≤ nth l i ∧ nth l i ≤ 127) (u v : Nat) (hu : u < 8) (hv : v < 8) (c : Int) (hc : c = rnd (outS fwdF l u v 8)) :
    -1024 ≤ c ∧ c ≤ 1023 ∧ (u + v = 0 → c ≤ 1016) ∧ (0 < u + v → -1023 ≤ c) ∧ 800000000000000 * c ≤ 8 * hiS l u v + 500000000000000 ∧ 8 * loS l u v - 500000000000000 ≤ 800000000000000 * c := by
  have h1 := rnd_bd (outS fwdF l u v 8)
  have h2 := hi_near l hl u v hu hv
  have h3 := lo_near l hl u v hu hv
  have h4 := out_ends l hl u v hu hv
  rw [← hc] at h1
  generalize outS fwdF l u v 8 = O at *
  generalize hiS l u v = H at *
  generalize loS l u v = L at *
  by_cases h0 : u + v = 0
  · rw [if_pos h0, if_pos h0] at h4
    omega
  · rw [if_neg h0, if_neg h0] at h4
    omega
end Go.Proofs.Ytmfipjpmfigjaaa
