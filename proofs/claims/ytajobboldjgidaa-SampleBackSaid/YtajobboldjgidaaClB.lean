/- The reference Luma, Paint. -/
import Derived.Test.YtajobboldjgidaaClA
namespace Go.Proofs.Ytajobboldjgidaa
open Go.RowKit
open Go.Tin
set_option linter.unusedVariables false
set_option linter.unusedSimpArgs false


theorem lumB_ref (r g b : Int) : lumB r g b = clamp (128 + rnd (32768 * clamp b - 11059 * clamp r - 21709 * clamp g)) := by
  unfold lumB
  rw [show (-11059 * clamp r + -21709 * clamp g + 32768 * clamp b) = (32768 * clamp b - 11059 * clamp r - 21709 * clamp g) from by omega, Int.add_comm]
theorem lumR_ref (r g b : Int) : lumR r g b = clamp (128 + rnd (32768 * clamp r - 27439 * clamp g - 5329 * clamp b)) := by
  unfold lumR
  rw [show (32768 * clamp r + -27439 * clamp g + -5329 * clamp b) = (32768 * clamp r - 27439 * clamp g - 5329 * clamp b) from by omega, Int.add_comm]
theorem paiG_ref (y b r : Int) : paiG y b r = clamp (rnd (65536 * clamp y - 22554 * (clamp b - 128) - 46802 * (clamp r - 128))) := by
  unfold paiG
  rw [show (65536 * clamp y + -22554 * (clamp b - 128) + -46802 * (clamp r - 128)) = (65536 * clamp y - 22554 * (clamp b - 128) - 46802 * (clamp r - 128)) from by omega]
theorem rluma_any (r g b : Int) (w : World) :
    Calls Try.prog 50 #[.int .i64 r, .int .i64 g, .int .i64 b] w fun e w' => e = .returned (.agg #[.int .i64 (lumY r g b), .int .i64 (lumB r g b), .int .i64 (lumR r g b)]) ∧ Below w.heap.size w w' := by
  have b1 := clamp_bd r
  have b2 := clamp_bd g
  have b3 := clamp_bd b
  have r1 := rnd_bd (19595 * clamp r + 38470 * clamp g + 7471 * clamp b) (by omega) (by omega)
  have r2 := rnd_bd (32768 * clamp b - 11059 * clamp r - 21709 * clamp g) (by omega) (by omega)
  have r3 := rnd_bd (32768 * clamp r - 27439 * clamp g - 5329 * clamp b) (by omega) (by omega)
  go_enter Try.func50, Try.ntmps50
  go_wp2_with (first | (go_at_call 60; refine (rclamp_any _ _).mono ?_; rintro e w' ⟨rfl, rfl⟩) | (go_at_call 61; refine (rounded_any _ _ (by omega) (by omega)).mono ?_; rintro e w' ⟨rfl, rfl⟩))
  refine bodyPost_ret (v := .agg #[.int .i64 (lumY r g b), .int .i64 (lumB r g b), .int .i64 (lumR r g b)]) ?_ rfl ⟨rfl, (Below.refl _ _).alloc (Nat.le_refl _) _⟩
  rw [lumB_ref, lumR_ref]
  simp [results, Try.results50, go_sem]
  rfl
theorem rpaint_any (y b r : Int) (w : World) :
    Calls Try.prog 45 #[.int .i64 y, .int .i64 b, .int .i64 r] w fun e w' => e = .returned (.agg #[.int .i64 (paiR y b r), .int .i64 (paiG y b r), .int .i64 (paiB y b r)]) ∧ Below w.heap.size w w' := by
  have b1 := clamp_bd y
  have b2 := clamp_bd b
  have b3 := clamp_bd r
  go_enter Try.func45, Try.ntmps45
  go_wp2_with (first | (go_at_call 60; refine (rclamp_any _ _).mono ?_; rintro e w' ⟨rfl, rfl⟩) | (go_at_call 61; refine (rounded_any _ _ (by omega) (by omega)).mono ?_; rintro e w' ⟨rfl, rfl⟩))
  refine bodyPost_ret (v := .agg #[.int .i64 (paiR y b r), .int .i64 (paiG y b r), .int .i64 (paiB y b r)]) ?_ rfl ⟨rfl, (Below.refl _ _).alloc (Nat.le_refl _) _⟩
  rw [paiG_ref]
  simp [results, Try.results45, go_sem]
  exact ⟨rfl, rfl⟩
end Go.Proofs.Ytajobboldjgidaa
