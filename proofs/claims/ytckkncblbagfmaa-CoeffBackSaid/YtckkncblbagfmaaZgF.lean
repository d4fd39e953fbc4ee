/- The contracts of Last and of the references Before, Place, At. Conditions: a block has 64 numbers; places and steps within the block. -/
import Derived.Test.YtckkncblbagfmaaZgE
namespace Go.Proofs.Ytckkncblbagfmaa
open Go.RowKit
open Go.Tin
set_option linter.unusedVariables false
set_option linter.unusedSimpArgs false

/-- The last of so many numbers that is not 0. -/
def lastP (l : List Int) : Nat → Int
  | 0 => -1
  | j + 1 => if nth l j ≠ 0 then (j : Int) else lastP l j

/-- Does the reference's zigzag come to a ahead of b? -/
def before (a b : Nat) : Bool :=
  if a / 8 + a % 8 ≠ b / 8 + b % 8 then decide (a / 8 + a % 8 < b / 8 + b % 8) else if (a / 8 + a % 8) % 2 = 1 then decide (a / 8 < b / 8) else decide (b / 8 < a / 8)

theorem before_any (a b : Nat) (ha : a < 64) (hb : b < 64) (w : World) : Calls Try.prog 32 #[.int .i64 (a : Int), .int .i64 (b : Int)] w fun e w' => e = .returned (.bool (before a b)) ∧ w = w' := by
  have ha0 : (0 : Int) ≤ (a : Int) := by omega
  have ha1 : (a : Int) < 64 := by omega
  have hb0 : (0 : Int) ≤ (b : Int) := by omega
  have hb1 : (b : Int) < 64 := by omega
  by_cases h1 : a / 8 + a % 8 = b / 8 + b % 8
  · have e1 : ((a : Int) / 8 + (a : Int) % 8 != (b : Int) / 8 + (b : Int) % 8) = false := by simp; omega
    by_cases h2 : (a / 8 + a % 8) % 2 = 1
    · have e2 : (((a : Int) / 8 + (a : Int) % 8) % 2 == 1) = true := by simp; omega
      have hr : before a b = decide ((a : Int) / 8 < (b : Int) / 8) := by unfold before; rw [if_neg (by simpa using h1), if_pos h2]; simp; omega
      have HR := Lib.hid hr
      clear hr h1 h2
      go_enter Try.func32, Try.ntmps32
      go_wp2_with fail
      go_ret
      exact ⟨ret_bool HR.out.symm, rfl⟩
    · have e2 : (((a : Int) / 8 + (a : Int) % 8) % 2 == 1) = false := by simp; omega
      have hr : before a b = decide ((b : Int) / 8 < (a : Int) / 8) := by unfold before; rw [if_neg (by simpa using h1), if_neg h2]; simp; omega
      have HR := Lib.hid hr
      clear hr h1 h2
      go_enter Try.func32, Try.ntmps32
      go_wp2_with fail
      go_ret
      exact ⟨ret_bool HR.out.symm, rfl⟩
  · have e1 : ((a : Int) / 8 + (a : Int) % 8 != (b : Int) / 8 + (b : Int) % 8) = true := by simp; omega
    have hr : before a b = decide ((a : Int) / 8 + (a : Int) % 8 < (b : Int) / 8 + (b : Int) % 8) := by unfold before; rw [if_pos h1]; simp; omega
    have HR := Lib.hid hr
    clear hr h1
    go_enter Try.func32, Try.ntmps32
    go_wp2_with fail
    go_ret
    exact ⟨ret_bool HR.out.symm, rfl⟩

/-- How many of the first places come ahead of p. -/
def cnt (p : Nat) : Nat → Nat
  | 0 => 0
  | i + 1 => cnt p i + if before i p then 1 else 0
theorem cnt_unz : ∀ p, p < 64 → cnt p 64 = unz p := by decide +kernel
theorem cnt_le (p : Nat) : ∀ i, cnt p i ≤ i := by
  intro i
  induction i with
  | zero => exact Nat.le_refl _
  | succ i ih => unfold cnt; split <;> omega

theorem rplace_any (p : Nat) (hp : p < 64) (w : World) : Calls Try.prog 30 #[.int .i64 (p : Int)] w fun e w' => e = .returned (.int .i64 (unz p)) ∧ w = w' := by
  go_enter Try.func30, Try.ntmps30
  go_wp2_with fail
  go_loop [3, 4] (fun s3 s4 => ∃ i : Nat, i ≤ 64 ∧ s4 = .int .i64 (i : Int) ∧ s3 = .int .i64 (cnt p i : Int)) (fun _ s4 => 64 - (intOf s4).toNat)
  case atStart => exact ⟨0, by omega, rfl, rfl⟩
  case round =>
    obtain ⟨i, hi, rfl, rfl⟩ := hrel
    have hc := cnt_le p i
    by_cases hi64 : i < 64
    · have hi1 : (i : Int) < 64 := by omega
      by_cases hB : before i p = true
      · have hl : cnt p (i + 1) = cnt p i + 1 := by rw [cnt, if_pos hB]
        have HL := Lib.hid hl
        have HB := Lib.hid hB
        clear hl hB
        go_wp2_with fail
        refine (before_any i p hi64 hp _).mono ?_
        rw [HB.out]
        rintro e w' ⟨rfl, rfl⟩
        go_wp2_with fail
        go_round
        case rel => exact ⟨i + 1, by omega, by go_num, by rw [HL.out]; go_num⟩
        case measure => simp [intOf]; omega
      · have hB' : before i p = false := by simpa using hB
        have hl : cnt p (i + 1) = cnt p i := by rw [cnt, if_neg hB]; rfl
        have HL := Lib.hid hl
        have HB := Lib.hid hB'
        clear hl hB hB'
        go_wp2_with fail
        refine (before_any i p hi64 hp _).mono ?_
        rw [HB.out]
        rintro e w' ⟨rfl, rfl⟩
        go_wp2_with fail
        go_round
        case rel => exact ⟨i + 1, by omega, by go_num, by rw [HL.out]⟩
        case measure => simp [intOf]; omega
    · have hi1 : (64 : Int) ≤ (i : Int) := by omega
      obtain rfl : i = 64 := by omega
      have HU := Lib.hid (cnt_unz p hp)
      go_wp2_with fail
      go_ret
      exact ⟨by rw [← HU.out]; rfl, rfl⟩

theorem unz_at : ∀ j, j < 64 → ∀ i, i < 64 → (unz i = j ↔ (i : Int) = zig j) := by decide +kernel

theorem rat_any (j : Nat) (hj : j < 64) (w : World) : Calls Try.prog 20 #[.int .i64 (j : Int)] w fun e w' => e = .returned (.int .i64 (zig j)) ∧ w = w' := by
  have hz := zig_bd j hj
  go_enter Try.func20, Try.ntmps20
  go_wp2_with fail
  go_loop [3] (fun s3 => ∃ i : Nat, (i : Int) ≤ zig j ∧ s3 = .int .i64 (i : Int)) (fun s3 => 64 - (intOf s3).toNat)
  case atStart => exact ⟨0, by omega, rfl⟩
  case round =>
    obtain ⟨i, hi, rfl⟩ := hrel
    have hi64 : i < 64 := by omega
    have hi1 : (i : Int) < 64 := by omega
    have hu := unz_at j hj i hi64
    by_cases he : (i : Int) = zig j
    · have h1 : ((unz i : Int) == (j : Int)) = true := by rw [beq_iff_eq]; have := hu.2 he; omega
      have HE := Lib.hid he
      clear hu he
      go_wp2_with fail
      refine (rplace_any i hi64 _).mono ?_
      rintro e w' ⟨rfl, rfl⟩
      go_wp2_with fail
      go_ret
      exact ⟨ret_int HE.out, rfl⟩
    · have h1 : ((unz i : Int) == (j : Int)) = false := by rw [beq_eq_false_iff_ne]; intro h; exact he (hu.1 (by omega))
      have hi2 : (i : Int) < zig j := by omega
      clear hu he
      go_wp2_with fail
      refine (rplace_any i hi64 _).mono ?_
      rintro e w' ⟨rfl, rfl⟩
      go_wp2_with fail
      go_round
      case rel => exact ⟨i + 1, by omega, by go_num⟩
      case measure => simp [intOf]; omega
end Go.Proofs.Ytckkncblbagfmaa
