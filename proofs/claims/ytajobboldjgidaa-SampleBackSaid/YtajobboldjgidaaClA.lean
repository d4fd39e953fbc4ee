/- Clamp, Luma, Paint of both texts. -/
import Derived.Test.YtajobboldjgidaaRows
import Derived.Test.YtajobboldjgidaaLb
import Derived.WalkKit
import Derived.Lib.QuietBelow
import Derived.WalkLawsBesides
import Derived.OpenShut
import Derived.Laws.EntriesVeiled
namespace Go.Proofs.Ytajobboldjgidaa
open Go.RowKit
open Go.Tin
set_option linter.unusedVariables false
set_option linter.unusedSimpArgs false


def clamp (n : Int) : Int := if n < 0 then 0 else if 255 < n then 255 else n
theorem clamp_lo {n : Int} (h : n < 0) : clamp n = 0 := by unfold clamp; rw [if_pos h]
theorem clamp_hi {n : Int} (h : 255 < n) : clamp n = 255 := by unfold clamp; rw [if_neg (by omega), if_pos h]
theorem clamp_in {n : Int} (h : 0 ≤ n) (h' : n ≤ 255) : clamp n = n := by unfold clamp; rw [if_neg (by omega), if_neg (by omega)]
theorem clamp_bd (n : Int) : 0 ≤ clamp n ∧ clamp n ≤ 255 := by unfold clamp; split <;> (try split) <;> omega

theorem clamp_any (n : Int) (w : World) :
    Calls Try.prog 39 #[.int .i64 n] w fun e w' => e = .returned (.int .i64 (clamp n)) ∧ w = w' := by
  go_enter Try.func39, Try.ntmps39
  go_wp2
  all_goals
    go_ret
    refine ⟨ret_int ?_, rfl⟩
    first
    | exact (clamp_lo (by omega)).symm
    | exact (clamp_in (by omega) (by omega)).symm
    | exact (clamp_hi (by omega)).symm

theorem rclamp_any (n : Int) (w : World) :
    Calls Try.prog 60 #[.int .i64 n] w fun e w' => e = .returned (.int .i64 (clamp n)) ∧ w = w' := by
  go_enter Try.func60, Try.ntmps60
  go_wp2
  all_goals
    go_ret
    refine ⟨ret_int ?_, rfl⟩
    first
    | exact (clamp_lo (by omega)).symm
    | exact (clamp_in (by omega) (by omega)).symm
    | exact (clamp_hi (by omega)).symm

def rnd (n : Int) : Int := (n + 32768) / 65536

theorem of_any (a b c x y z : Int) (w : World) (h1 : -1000000000000 ≤ a * x) (h2 : a * x ≤ 1000000000000) (h3 : -1000000000000 ≤ b * y) (h4 : b * y ≤ 1000000000000) (h5 : -1000000000000 ≤ c * z) (h6 : c * z ≤ 1000000000000) :
    Calls Try.prog 59 #[.agg #[.int .i64 a, .int .i64 b, .int .i64 c], .int .i64 x, .int .i64 y, .int .i64 z] w fun e w' => e = .returned (.int .i64 (rnd (a * x + b * y + c * z))) ∧ Below w.heap.size w w' := by
  go_enter Try.func59, Try.ntmps59
  go_wp2
  go_ret
  exact ⟨rfl, (Below.refl _ _).alloc (Nat.le_refl _) _⟩

theorem tdiv_neg (m : Int) (h : m < 0) : m.tdiv 65536 = -((-m) / 65536) := by
  obtain ⟨k, rfl⟩ : ∃ k : Int, m = -k := ⟨-m, by omega⟩
  rw [Int.neg_tdiv, Int.tdiv_eq_ediv_of_nonneg (by omega), Int.neg_neg]
theorem tmod_neg (m : Int) (h : m < 0) : m.tmod 65536 = -((-m) % 65536) := by
  obtain ⟨k, rfl⟩ : ∃ k : Int, m = -k := ⟨-m, by omega⟩
  rw [Int.neg_tmod, Int.tmod_eq_emod_of_nonneg (by omega), Int.neg_neg]
theorem rnd_down (n : Int) (h0 : -1000000000000 ≤ n) (h : n + 32768 < 0) (h' : ((n + 32768).tmod 65536 != 0) = true) : wrap64 ((n + 32768).tdiv 65536 - 1) = rnd n := by
  have h'' : (n + 32768).tmod 65536 ≠ 0 := by simpa using h'
  rw [tmod_neg _ h] at h''
  rw [tdiv_neg _ h]
  unfold rnd
  rw [IntWalk.wrap64_in _ ⟨by omega, by omega⟩]
  omega
theorem rnd_down0 (n : Int) (h : n + 32768 < 0) (h' : ((n + 32768).tmod 65536 != 0) = false) : (n + 32768).tdiv 65536 = rnd n := by
  have h'' : (n + 32768).tmod 65536 = 0 := by simpa using h'
  rw [tmod_neg _ h] at h''
  rw [tdiv_neg _ h]
  unfold rnd
  omega

theorem rnd_bd (n : Int) (h1 : -100000000 ≤ n) (h2 : n ≤ 100000000) : -2000 ≤ rnd n ∧ rnd n ≤ 2000 := by unfold rnd; omega

theorem rounded_any (n : Int) (w : World) (h1 : -1000000000000 ≤ n) (h2 : n ≤ 1000000000000) :
    Calls Try.prog 61 #[.int .i64 n] w fun e w' => e = .returned (.int .i64 (rnd n)) ∧ w = w' := by
  go_enter Try.func61, Try.ntmps61
  go_wp2
  · go_ret
    exact ⟨ret_int (rnd_down n h1 (by assumption) (by assumption)), rfl⟩
  · go_ret
    exact ⟨ret_int (rnd_down0 n (by assumption) (by assumption)), rfl⟩
  · go_ret
    exact ⟨rfl, rfl⟩

def lumY (r g b : Int) : Int := clamp (rnd (19595 * clamp r + 38470 * clamp g + 7471 * clamp b))
def lumB (r g b : Int) : Int := clamp (rnd (-11059 * clamp r + -21709 * clamp g + 32768 * clamp b) + 128)
def lumR (r g b : Int) : Int := clamp (rnd (32768 * clamp r + -27439 * clamp g + -5329 * clamp b) + 128)

abbrev mth (a b c : Int) : Value := .func (.func 59) #[.agg #[.int .i64 a, .int .i64 b, .int .i64 c]] #[]

theorem luma_any (r g b : Int) (w : World) :
    Calls Try.prog 62 #[.int .i64 r, .int .i64 g, .int .i64 b] w fun e w' => e = .returned (.tuple #[.int .i64 (lumY r g b), .int .i64 (lumB r g b), .int .i64 (lumR r g b)]) ∧ Below w.heap.size w w' := by
  have b1 := clamp_bd r
  have b2 := clamp_bd g
  have b3 := clamp_bd b
  have r2 := rnd_bd (-11059 * clamp r + -21709 * clamp g + 32768 * clamp b) (by omega) (by omega)
  have r3 := rnd_bd (32768 * clamp r + -27439 * clamp g + -5329 * clamp b) (by omega) (by omega)
  go_enter Try.func62, Try.ntmps62
  go_wp2_with (go_at_call 39; refine (clamp_any _ _).mono ?_; rintro e w' ⟨rfl, rfl⟩)
  generalize hW : w.alloc (Obj.cells #[mth 19595 38470 7471, mth (-11059) (-21709) 32768, mth 32768 (-27439) (-5329)] 91) = W
  have c0 : W.cell? ⟨w.heap.size, 0, none⟩ = some (mth 19595 38470 7471) := by rw [← hW]; exact World.cell?_alloc_new _ _ _ _
  have c1 : W.cell? ⟨w.heap.size, 1, none⟩ = some (mth (-11059) (-21709) 32768) := by rw [← hW]; exact World.cell?_alloc_new _ _ _ _
  have c2 : W.cell? ⟨w.heap.size, 2, none⟩ = some (mth 32768 (-27439) (-5329)) := by rw [← hW]; exact World.cell?_alloc_new _ _ _ _
  have hb0 : Below w.heap.size w W := by rw [← hW]; exact (Below.refl _ _).alloc (Nat.le_refl _) _
  clear hW
  have k0 := cell_regrown c0
  have k1 := cell_regrown c1
  have k2 := cell_regrown c2
  clear c0 c1 c2
  refine wp_region_quiet_below (by kernel_rfl) (by kernel_rfl) ?_
  repeat (go_big_quiet_step (first | (go_at_call 39; exact Calls.regrown_of ((clamp_any _ _).mono fun _ _ ⟨h, h'⟩ => ⟨h, h' ▸ Below.refl _ _⟩)) | (go_at_call 59; exact Calls.regrown_of (of_any _ _ _ _ _ _ _ (by omega) (by omega) (by omega) (by omega) (by omega) (by omega)))))
  refine wpQuiet_nil ?_
  intro W1 hw'
  have hb1 : Below w.heap.size w W1 := by
    obtain ⟨p, rfl⟩ := hw'
    exact hb0.trans ((below_regrown W p.d p.os).mono hb0.size)
  clear hw' k0 k1 k2
  go_wp2
  go_ret3
  exact ⟨rfl, hb1⟩

def paiR (y b r : Int) : Int := clamp (rnd (65536 * clamp y + 91881 * (clamp r - 128)))
def paiG (y b r : Int) : Int := clamp (rnd (65536 * clamp y + -22554 * (clamp b - 128) + -46802 * (clamp r - 128)))
def paiB (y b r : Int) : Int := clamp (rnd (65536 * clamp y + 116130 * (clamp b - 128)))

theorem paint_any (y b r : Int) (w : World) :
    Calls Try.prog 44 #[.int .i64 y, .int .i64 b, .int .i64 r] w fun e w' => e = .returned (.tuple #[.int .i64 (paiR y b r), .int .i64 (paiG y b r), .int .i64 (paiB y b r)]) ∧ Below w.heap.size w w' := by
  have b1 := clamp_bd y
  have b2 := clamp_bd b
  have b3 := clamp_bd r
  go_enter Try.func44, Try.ntmps44
  go_wp2_with (go_at_call 39; refine (clamp_any _ _).mono ?_; rintro e w' ⟨rfl, rfl⟩)
  generalize hW : w.alloc (Obj.cells #[mth 65536 0 91881, mth 65536 (-22554) (-46802), mth 65536 116130 0] 91) = W
  have c0 : W.cell? ⟨w.heap.size, 0, none⟩ = some (mth 65536 0 91881) := by rw [← hW]; exact World.cell?_alloc_new _ _ _ _
  have c1 : W.cell? ⟨w.heap.size, 1, none⟩ = some (mth 65536 (-22554) (-46802)) := by rw [← hW]; exact World.cell?_alloc_new _ _ _ _
  have c2 : W.cell? ⟨w.heap.size, 2, none⟩ = some (mth 65536 116130 0) := by rw [← hW]; exact World.cell?_alloc_new _ _ _ _
  have hb0 : Below w.heap.size w W := by rw [← hW]; exact (Below.refl _ _).alloc (Nat.le_refl _) _
  clear hW
  have k0 := cell_regrown c0
  have k1 := cell_regrown c1
  have k2 := cell_regrown c2
  clear c0 c1 c2
  refine wp_region_quiet_below (by kernel_rfl) (by kernel_rfl) ?_
  repeat (go_big_quiet_step (first | (go_at_call 39; exact Calls.regrown_of ((clamp_any _ _).mono fun _ _ ⟨h, h'⟩ => ⟨h, h' ▸ Below.refl _ _⟩)) | (go_at_call 59; exact Calls.regrown_of (of_any _ _ _ _ _ _ _ (by omega) (by omega) (by omega) (by omega) (by omega) (by omega)))))
  refine wpQuiet_nil ?_
  intro W1 hw'
  have hb1 : Below w.heap.size w W1 := by
    obtain ⟨p, rfl⟩ := hw'
    exact hb0.trans ((below_regrown W p.d p.os).mono hb0.size)
  clear hw' k0 k1 k2
  go_wp2
  go_ret3
  exact ⟨rfl, hb1⟩
end Go.Proofs.Ytajobboldjgidaa
