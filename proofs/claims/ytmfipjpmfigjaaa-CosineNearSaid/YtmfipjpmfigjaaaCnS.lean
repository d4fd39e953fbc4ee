/- The sums of CosineNear, and their bounds. -/
import Derived.Test.YtmfipjpmfigjaaaCnM
namespace Go.Proofs.Ytmfipjpmfigjaaa
open Go.RowKit
open Go.Tin
set_option linter.unusedVariables false
set_option linter.unusedSimpArgs false


def rowLo (l : List Int) (u v y n : Nat) : Int := S (fun x => loT l u v y x) n
def rowHi (l : List Int) (u v y n : Nat) : Int := S (fun x => hiT l u v y x) n
def sumLo (l : List Int) (u v n : Nat) : Int := S (fun y => rowLo l u v y 8) n
def sumHi (l : List Int) (u v n : Nat) : Int := S (fun y => rowHi l u v y 8) n
theorem S_cap (f : Nat → Int) (M : Int) : ∀ n, (∀ i, i < n → -M ≤ f i ∧ f i ≤ M) → -((n : Int) * M) ≤ S f n ∧ S f n ≤ (n : Int) * M
  | 0, _ => by simp [S]
  | n + 1, h => by
    have h1 := S_cap f M n (fun i hi => h i (by omega))
    have h2 := h n (by omega)
    simp only [S, Int.natCast_add, Int.add_mul]
    omega
/-- Bounds of all that is made of one sample. -/
theorem term_bd (n : Int) (hn : -128 ≤ n ∧ n ≤ 127) (u v x y : Nat) (hu : u < 8) (hv : v < 8) (hx : x < 8) (hy : y < 8) :
    (-128 ≤ n * halfS u x ∧ n * halfS u x ≤ 128) ∧ (-128 ≤ n * halfS u x * halfS v y ∧ n * halfS u x * halfS v y ≤ 128) ∧
    (-627702656 ≤ n * halfS u x * halfS v y * halfN u x ∧ n * halfS u x * halfS v y * halfN u x ≤ 627702656) ∧
    (-627702656 ≤ n * halfS u x * halfS v y * (halfN u x + 1) ∧ n * halfS u x * halfS v y * (halfN u x + 1) ≤ 627702656) ∧
    (-3078208002730112 ≤ least1 u v x y n ∧ least1 u v x y n ≤ 3078208002730112) ∧ (-3078208002730112 ≤ most1 u v x y n ∧ most1 u v x y n ≤ 3078208002730112) := by
  have h1 := half_bd u hu x hx
  have h2 := half_bd v hv y hy
  have s1 : -1 ≤ halfS u x ∧ halfS u x ≤ 1 := by omega
  have s2 : -1 ≤ halfS v y ∧ halfS v y ≤ 1 := by omega
  have a1 := mul_bd2 (M := 128) (R := 1) (x := n) (by omega) s1 (by decide) (by decide)
  have a2 := mul_bd2 (M := 128) (R := 1) (x := n * halfS u x) (by omega) s2 (by decide) (by decide)
  have a3 := mul_bd2 (M := 128) (R := 4903927) (x := n * halfS u x * halfS v y) (y := halfN u x) (by omega) (by omega) (by decide) (by decide)
  have a4 := mul_bd2 (M := 128) (R := 4903927) (x := n * halfS u x * halfS v y) (y := halfN u x + 1) (by omega) (by omega) (by decide) (by decide)
  have a5 := mul_bd2 (M := 627702656) (R := 4903927) (x := n * halfS u x * halfS v y * halfN u x) (y := halfN v y) (by omega) (by omega) (by decide) (by decide)
  have a6 := mul_bd2 (M := 627702656) (R := 4903927) (x := n * halfS u x * halfS v y * (halfN u x + 1)) (y := halfN v y + 1) (by omega) (by omega) (by decide) (by decide)
  unfold least1 most1
  refine ⟨by omega, by omega, by omega, by omega, by omega, by omega⟩
theorem loT_bd (l : List Int) (hl : ∀ i, -128 ≤ nth l i ∧ nth l i ≤ 127) (u v x y : Nat) (hu : u < 8) (hv : v < 8) (hx : x < 8) (hy : y < 8) : (-3078208002730112 ≤ loT l u v y x ∧ loT l u v y x ≤ 3078208002730112) ∧ (-3078208002730112 ≤ hiT l u v y x ∧ hiT l u v y x ≤ 3078208002730112) := by
  have h := term_bd _ (hl (8 * y + x)) u v x y hu hv hx hy
  unfold loT hiT
  omega
theorem row_bd (l : List Int) (hl : ∀ i, -128 ≤ nth l i ∧ nth l i ≤ 127) (u v y n : Nat) (hu : u < 8) (hv : v < 8) (hy : y < 8) (hn : n ≤ 8) : (-24625664021840896 ≤ rowLo l u v y n ∧ rowLo l u v y n ≤ 24625664021840896) ∧ (-24625664021840896 ≤ rowHi l u v y n ∧ rowHi l u v y n ≤ 24625664021840896) := by
  have h1 := S_cap (fun x => loT l u v y x) 3078208002730112 n fun i hi => (loT_bd l hl u v i y hu hv (by omega) hy).1
  have h2 := S_cap (fun x => hiT l u v y x) 3078208002730112 n fun i hi => (loT_bd l hl u v i y hu hv (by omega) hy).2
  unfold rowLo rowHi
  omega
theorem sum_bd (l : List Int) (hl : ∀ i, -128 ≤ nth l i ∧ nth l i ≤ 127) (u v n : Nat) (hu : u < 8) (hv : v < 8) (hn : n ≤ 8) : (-197005312174727168 ≤ sumLo l u v n ∧ sumLo l u v n ≤ 197005312174727168) ∧ (-197005312174727168 ≤ sumHi l u v n ∧ sumHi l u v n ≤ 197005312174727168) := by
  have h1 := S_cap (fun y => rowLo l u v y 8) 24625664021840896 n fun i hi => (row_bd l hl u v i 8 hu hv (by omega) (by omega)).1
  have h2 := S_cap (fun y => rowHi l u v y 8) 24625664021840896 n fun i hi => (row_bd l hl u v i 8 hu hv (by omega) (by omega)).2
  unfold sumLo sumHi
  omega
theorem row_next (l : List Int) (u v y n : Nat) : rowLo l u v y (n + 1) = rowLo l u v y n + loT l u v y n ∧ rowHi l u v y (n + 1) = rowHi l u v y n + hiT l u v y n := ⟨rfl, rfl⟩
theorem sum_next (l : List Int) (u v n : Nat) : sumLo l u v (n + 1) = sumLo l u v n + rowLo l u v n 8 ∧ sumHi l u v (n + 1) = sumHi l u v n + rowHi l u v n 8 := ⟨rfl, rfl⟩
theorem all_next (l : List Int) (u v : Nat) : loS l u v = sumLo l u v 8 ∧ hiS l u v = sumHi l u v 8 := ⟨rfl, rfl⟩
theorem term_if (l : List Int) (u v x y : Nat) : loT l u v y x = (if most1 u v x y (nth l (8 * y + x)) < least1 u v x y (nth l (8 * y + x)) then most1 u v x y (nth l (8 * y + x)) else least1 u v x y (nth l (8 * y + x))) ∧ hiT l u v y x = (if most1 u v x y (nth l (8 * y + x)) > least1 u v x y (nth l (8 * y + x)) then most1 u v x y (nth l (8 * y + x)) else least1 u v x y (nth l (8 * y + x))) := by
  unfold loT hiT
  constructor <;> split <;> omega
/-- What the tests ask of a coefficient. -/
theorem near_tests (l : List Int) (hno : ∀ i, -128 ≤ nth l i ∧ nth l i ≤ 127) (C : List Int) (hC : full 64 (refF fwdF l) = C) (u v : Nat) (hu : u < 8) (hv : v < 8) :
    -1024 ≤ nth C (8 * v + u) ∧ nth C (8 * v + u) ≤ 1023 ∧ (u + v = 0 → nth C (8 * v + u) ≤ 1016) ∧ (0 < u + v → -1023 ≤ nth C (8 * v + u)) ∧ 800000000000000 * nth C (8 * v + u) ≤ 8 * sumHi l u v 8 + 500000000000000 ∧ 8 * sumLo l u v 8 - 500000000000000 ≤ 800000000000000 * nth C (8 * v + u) := by
  rw [← hC, nth_full _ _ _ (by omega)]
  unfold refF
  rw [show (8 * v + u) % 8 = u by omega, show (8 * v + u) / 8 = v by omega]
  exact near_all l hno u v hu hv _ rfl
end Go.Proofs.Ytmfipjpmfigjaaa
