/- Plain numbers: a colour turned and back. -/
import Derived.Test.YtajobboldjgidaaClB
namespace Go.Proofs.Ytajobboldjgidaa
open Go.RowKit
open Go.Tin
set_option linter.unusedVariables false
set_option linter.unusedSimpArgs false


theorem clamp_near (n r : Int) (h0 : 0 ≤ r) (h1 : r ≤ 255) (h2 : n - r ≤ 1) (h3 : r - n ≤ 1) : clamp n - r ≤ 1 ∧ r - clamp n ≤ 1 := by
  unfold clamp; split
  · omega
  · split <;> omega
theorem rnd_spec (n : Int) : 65536 * rnd n ≤ n + 32768 ∧ n + 32768 < 65536 * rnd n + 65536 := by unfold rnd; omega
theorem lumY_spec (r g b : Int) (r0 : 0 ≤ r) (r1 : r ≤ 255) (g0 : 0 ≤ g) (g1 : g ≤ 255) (b0 : 0 ≤ b) (b1 : b ≤ 255) :
    65536 * lumY r g b ≤ 19595 * r + 38470 * g + 7471 * b + 32768 ∧ 19595 * r + 38470 * g + 7471 * b - 32768 ≤ 65536 * lumY r g b := by
  unfold lumY
  rw [clamp_in r0 r1, clamp_in g0 g1, clamp_in b0 b1]
  have h := rnd_spec (19595 * r + 38470 * g + 7471 * b)
  rw [clamp_in (by omega) (by omega)]
  omega
theorem clamp_off (n : Int) (h1 : 65536 * (n - 128) ≤ 8355840 + 32768) (h0 : -8355840 - 65536 < 65536 * (n - 128)) : clamp n = if n = 256 then 255 else n := by
  unfold clamp
  by_cases h : n = 256
  · subst h; simp
  · rw [if_neg (by omega), if_neg (by omega), if_neg h]
theorem lumB_spec (r g b : Int) (r0 : 0 ≤ r) (r1 : r ≤ 255) (g0 : 0 ≤ g) (g1 : g ≤ 255) (b0 : 0 ≤ b) (b1 : b ≤ 255) :
    65536 * (lumB r g b - 128) ≤ -11059 * r + -21709 * g + 32768 * b + 32768 ∧ -11059 * r + -21709 * g + 32768 * b - 32768 ≤ 65536 * (lumB r g b - 128) := by
  unfold lumB
  rw [clamp_in r0 r1, clamp_in g0 g1, clamp_in b0 b1]
  have h := rnd_spec (-11059 * r + -21709 * g + 32768 * b)
  rw [clamp_off _ (by omega) (by omega)]
  split <;> omega
theorem lumR_spec (r g b : Int) (r0 : 0 ≤ r) (r1 : r ≤ 255) (g0 : 0 ≤ g) (g1 : g ≤ 255) (b0 : 0 ≤ b) (b1 : b ≤ 255) :
    65536 * (lumR r g b - 128) ≤ 32768 * r + -27439 * g + -5329 * b + 32768 ∧ 32768 * r + -27439 * g + -5329 * b - 32768 ≤ 65536 * (lumR r g b - 128) := by
  unfold lumR
  rw [clamp_in r0 r1, clamp_in g0 g1, clamp_in b0 b1]
  have h := rnd_spec (32768 * r + -27439 * g + -5329 * b)
  rw [clamp_off _ (by omega) (by omega)]
  split <;> omega
theorem lum_bd (r g b : Int) : (0 ≤ lumY r g b ∧ lumY r g b ≤ 255) ∧ (0 ≤ lumB r g b ∧ lumB r g b ≤ 255) ∧ (0 ≤ lumR r g b ∧ lumR r g b ≤ 255) := ⟨clamp_bd _, clamp_bd _, clamp_bd _⟩
theorem pai_bd (r g b : Int) : (0 ≤ paiR r g b ∧ paiR r g b ≤ 255) ∧ (0 ≤ paiG r g b ∧ paiG r g b ≤ 255) ∧ (0 ≤ paiB r g b ∧ paiB r g b ≤ 255) := ⟨clamp_bd _, clamp_bd _, clamp_bd _⟩

theorem back_ok (r g b : Int) (r0 : 0 ≤ r) (r1 : r ≤ 255) (g0 : 0 ≤ g) (g1 : g ≤ 255) (b0 : 0 ≤ b) (b1 : b ≤ 255) :
    (paiR (lumY r g b) (lumB r g b) (lumR r g b) - r ≤ 1 ∧ r - paiR (lumY r g b) (lumB r g b) (lumR r g b) ≤ 1) ∧
    (paiG (lumY r g b) (lumB r g b) (lumR r g b) - g ≤ 1 ∧ g - paiG (lumY r g b) (lumB r g b) (lumR r g b) ≤ 1) ∧
    (paiB (lumY r g b) (lumB r g b) (lumR r g b) - b ≤ 1 ∧ b - paiB (lumY r g b) (lumB r g b) (lumR r g b) ≤ 1) := by
  have e1 := lumY_spec r g b r0 r1 g0 g1 b0 b1
  have e2 := lumB_spec r g b r0 r1 g0 g1 b0 b1
  have e3 := lumR_spec r g b r0 r1 g0 g1 b0 b1
  have bd := lum_bd r g b
  unfold paiR paiG paiB
  rw [clamp_in bd.1.1 bd.1.2, clamp_in bd.2.1.1 bd.2.1.2, clamp_in bd.2.2.1 bd.2.2.2]
  generalize lumY r g b = y at *
  generalize lumB r g b = u at *
  generalize lumR r g b = v at *
  have f1 := rnd_spec (65536 * y + 91881 * (v - 128))
  have f2 := rnd_spec (65536 * y + -22554 * (u - 128) + -46802 * (v - 128))
  have f3 := rnd_spec (65536 * y + 116130 * (u - 128))
  refine ⟨clamp_near _ _ r0 r1 ?_ ?_, clamp_near _ _ g0 g1 ?_ ?_, clamp_near _ _ b0 b1 ?_ ?_⟩
  · generalize rnd (65536 * y + 91881 * (v - 128)) = z at *
    clear f2 f3
    omega
  · generalize rnd (65536 * y + 91881 * (v - 128)) = z at *
    clear f2 f3
    omega
  · generalize rnd (65536 * y + -22554 * (u - 128) + -46802 * (v - 128)) = z at *
    clear f1 f3
    omega
  · generalize rnd (65536 * y + -22554 * (u - 128) + -46802 * (v - 128)) = z at *
    clear f1 f3
    omega
  · generalize rnd (65536 * y + 116130 * (u - 128)) = z at *
    clear f1 f2
    omega
  · generalize rnd (65536 * y + 116130 * (u - 128)) = z at *
    clear f1 f2
    omega
theorem lum_grey (n : Int) (h0 : 0 ≤ n) (h1 : n ≤ 255) : lumY n n n = n ∧ lumB n n n = 128 ∧ lumR n n n = 128 := by
  unfold lumY lumB lumR
  rw [clamp_in h0 h1]
  have e1 : rnd (19595 * n + 38470 * n + 7471 * n) = n := by unfold rnd; omega
  have e2 : rnd (-11059 * n + -21709 * n + 32768 * n) = 0 := by unfold rnd; omega
  have e3 : rnd (32768 * n + -27439 * n + -5329 * n) = 0 := by unfold rnd; omega
  rw [e1, e2, e3]
  exact ⟨clamp_in h0 h1, rfl, rfl⟩
theorem pai_grey (n : Int) (h0 : 0 ≤ n) (h1 : n ≤ 255) : paiR n 128 128 = n ∧ paiG n 128 128 = n ∧ paiB n 128 128 = n := by
  unfold paiR paiG paiB
  rw [clamp_in h0 h1, clamp_in (n := 128) (by decide) (by decide)]
  have e1 : rnd (65536 * n + 91881 * (128 - 128)) = n := by unfold rnd; omega
  have e2 : rnd (65536 * n + -22554 * (128 - 128) + -46802 * (128 - 128)) = n := by unfold rnd; omega
  have e3 : rnd (65536 * n + 116130 * (128 - 128)) = n := by unfold rnd; omega
  rw [e1, e2, e3]
  exact ⟨clamp_in h0 h1, clamp_in h0 h1, clamp_in h0 h1⟩
end Go.Proofs.Ytajobboldjgidaa
