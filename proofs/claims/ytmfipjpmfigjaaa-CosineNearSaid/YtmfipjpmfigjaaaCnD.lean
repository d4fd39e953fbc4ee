/- Seven digits of a cosine, and its sign. -/
import Derived.Test.YtmfipjpmfigjaaaA
namespace Go.Proofs.Ytmfipjpmfigjaaa
open Go.RowKit
open Go.Tin
set_option linter.unusedVariables false
set_option linter.unusedSimpArgs false


def digL : List Int := [0, 4903926, 4619397, 4157348, 3535533, 2777851, 1913417, 975451, 0]
def halfK (u x : Nat) : Nat := (2 * x + 1) * u % 32
def halfN (u x : Nat) : Int := if u = 0 then 3535533 else if halfK u x ≤ 8 then nth digL (halfK u x) else if halfK u x ≤ 16 then nth digL (16 - halfK u x) else if halfK u x ≤ 24 then nth digL (halfK u x - 16) else nth digL (32 - halfK u x)
def halfS (u x : Nat) : Int := if u = 0 then 1 else if halfK u x ≤ 8 then 1 else if halfK u x ≤ 24 then -1 else 1
theorem half_bd : ∀ u, u < 8 → ∀ x, x < 8 → 0 ≤ halfN u x ∧ halfN u x ≤ 4903926 ∧ (halfS u x = 1 ∨ halfS u x = -1) := by decide +kernel
end Go.Proofs.Ytmfipjpmfigjaaa
