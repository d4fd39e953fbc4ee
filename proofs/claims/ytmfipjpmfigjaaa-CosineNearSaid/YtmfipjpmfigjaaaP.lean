/- Samples, forward and inverse, are within 4 of what they were. No program in sight. -/
import Derived.Test.YtmfipjpmfigjaaaO
namespace Go.Proofs.Ytmfipjpmfigjaaa
open Go.RowKit
open Go.Tin
set_option linter.unusedVariables false
set_option linter.unusedSimpArgs false

theorem S_one (g : Nat → Int) (F I : Nat → Nat → Int) (q m n : Nat) : S (fun x => S (fun a => g a * F x a) m * I q x) n = S (fun a => g a * S (fun x => F x a * I q x) n) m := by
  have h : ∀ x, S (fun a => g a * F x a) m * I q x = S (fun a => g a * F x a * I q x) m := fun x => S_mul _ _ _
  rw [S_congr _ _ n (fun x _ => h x), S_swap]
  refine S_congr _ _ _ fun a _ => ?_
  rw [Int.mul_comm, S_mul]
  exact S_congr _ _ _ fun x _ => by rw [Int.mul_assoc, Int.mul_comm]
theorem S_point (f : Nat → Int) (q : Nat) : ∀ n, S (fun a => if a = q then f a else 0) n = if q < n then f q else 0
  | 0 => by rw [if_neg (by omega)]; rfl
  | n + 1 => by
    rw [S, S_point f q n]
    by_cases h : n = q
    · subst h
      rw [if_neg (by omega), if_pos rfl, if_pos (by omega), Int.zero_add]
    · rw [if_neg h, Int.add_zero]
      by_cases h2 : q < n
      · rw [if_pos h2, if_pos (by omega)]
      · rw [if_neg h2, if_neg (by omega)]
/-- What the two transforms are, one behind the other, in one direction. -/
def mm (q a : Nat) : Int := S (fun x => fwdF x a * invF q x) 8
/-- How far off the one that it should be. -/
def off (q p a b : Nat) : Int := mm q a * mm p b - if a = q ∧ b = p then 18446744073709551616 else 0
theorem off_bd : ∀ q, q < 8 → ∀ p, p < 8 → S (fun b => S (fun a => ((off q p a b).natAbs : Int)) 8) 8 ≤ 36028797018963968 := by decide +kernel
theorem inv_sum : ∀ q, q < 8 → S (fun x => ((invF q x).natAbs : Int)) 8 ≤ 173136 := by decide +kernel

theorem two_dim (l : List Int) (q p : Nat) : S (fun y => S (fun x => outS fwdF l x y 8 * invF q x * invF p y) 8) 8 = S (fun b => S (fun a => nth l (8 * b + a) * mm q a) 8 * mm p b) 8 := by
  have e1 : ∀ y x, outS fwdF l x y 8 = S (fun b => S (fun a => nth l (8 * b + a) * fwdF x a) 8 * fwdF y b) 8 := fun y x => by
    rw [outS_S]
    exact S_congr _ _ _ fun b _ => by rw [S_mul]
  have e2 : ∀ y, S (fun x => outS fwdF l x y 8 * invF q x * invF p y) 8 = S (fun b => S (fun a => nth l (8 * b + a) * mm q a) 8 * fwdF y b) 8 * invF p y := fun y => by
    rw [← S_mul]
    congr 1
    rw [S_congr _ _ 8 (fun x _ => by rw [e1 y x, S_mul])]
    rw [S_swap]
    refine S_congr _ _ _ fun b _ => ?_
    have h := S_one (fun a => nth l (8 * b + a)) fwdF invF q 8 8
    show _ = S (fun a => nth l (8 * b + a) * S (fun x => fwdF x a * invF q x) 8) 8 * fwdF y b
    rw [← h, S_mul]
    exact S_congr _ _ _ fun x _ => by rw [Int.mul_assoc, Int.mul_assoc, Int.mul_comm (fwdF y b)]
  rw [S_congr _ _ 8 (fun y _ => e2 y)]
  exact S_one (fun b => S (fun a => nth l (8 * b + a) * mm q a) 8) fwdF invF p 8 8
theorem two_near (l : List Int) (hl : ∀ i, -128 ≤ nth l i ∧ nth l i ≤ 128) (q p : Nat) (hq : q < 8) (hp : p < 8) :
    18446744073709551616 * nth l (8 * p + q) - 4611686018427387904 ≤ S (fun b => S (fun a => nth l (8 * b + a) * mm q a) 8 * mm p b) 8 ∧
    S (fun b => S (fun a => nth l (8 * b + a) * mm q a) 8 * mm p b) 8 ≤ 18446744073709551616 * nth l (8 * p + q) + 4611686018427387904 := by
  have e1 : S (fun b => S (fun a => nth l (8 * b + a) * mm q a) 8 * mm p b) 8 = S (fun b => S (fun a => nth l (8 * b + a) * off q p a b) 8) 8 + 18446744073709551616 * nth l (8 * p + q) := by
    have e2 : ∀ b, S (fun a => nth l (8 * b + a) * mm q a) 8 * mm p b = S (fun a => nth l (8 * b + a) * off q p a b) 8 + (if b = p then 18446744073709551616 * nth l (8 * b + q) else 0) := fun b => by
      have e3 : (if b = p then 18446744073709551616 * nth l (8 * b + q) else 0) = S (fun a => if a = q then (if b = p then 18446744073709551616 * nth l (8 * b + a) else 0) else 0) 8 := by
        rw [S_point (fun a => if b = p then 18446744073709551616 * nth l (8 * b + a) else 0) q 8, if_pos hq]
      rw [e3, ← S_add, S_mul]
      refine S_congr _ _ _ fun a _ => ?_
      unfold off
      rw [Int.mul_sub, Int.mul_assoc]
      by_cases ha : a = q
      · by_cases hb : b = p
        · rw [if_pos ⟨ha, hb⟩, if_pos ha, if_pos hb]; omega
        · rw [if_neg (fun h => hb h.2), if_pos ha, if_neg hb]; omega
      · rw [if_neg (fun h => ha h.1), if_neg ha]; omega
    rw [S_congr _ _ 8 (fun b _ => e2 b), S_add, S_point (fun b => 18446744073709551616 * nth l (8 * b + q)) p 8, if_pos hp]
  have hb : ∀ b, b < 8 → - S (fun a => 128 * ((off q p a b).natAbs : Int)) 8 ≤ S (fun a => nth l (8 * b + a) * off q p a b) 8 ∧ S (fun a => nth l (8 * b + a) * off q p a b) 8 ≤ S (fun a => 128 * ((off q p a b).natAbs : Int)) 8 := fun b _ =>
    S_bd _ _ 8 fun a _ => mul_bd2 (hl (8 * b + a)) ⟨by omega, by omega⟩ (by decide) (by omega)
  have h1 := S_bd _ _ 8 hb
  have h2 := off_bd q hq p hp
  have e4 : S (fun b => S (fun a => 128 * ((off q p a b).natAbs : Int)) 8) 8 = S (fun b => S (fun a => ((off q p a b).natAbs : Int)) 8) 8 * 128 := by
    rw [S_mul]
    refine S_congr _ _ _ fun b _ => ?_
    rw [S_mul]
    exact S_congr _ _ _ fun a _ => Int.mul_comm _ _
  rw [e4] at h1
  rw [e1]
  omega

theorem rnd_bd (n : Int) : n - 2147483647 ≤ 4294967296 * rnd n ∧ 4294967296 * rnd n ≤ n + 2147483648 := by
  unfold rnd
  omega
theorem fwd_bd2 : ∀ q, q < 8 → S (fun x => ((fwdF q x).natAbs : Int)) 8 ≤ 185360 := by decide +kernel
/-- The coefficients of samples are small. -/
theorem out_small (l : List Int) (hl : ∀ i, -128 ≤ nth l i ∧ nth l i ≤ 128) (q p : Nat) (hq : q < 8) (hp : p < 8) : -4397866188800 ≤ outS fwdF l q p 8 ∧ outS fwdF l q p 8 ≤ 4397866188800 := by
  have hb : ∀ b, b < 8 → - (23726080 * ((fwdF p b).natAbs : Int)) ≤ S (fun x => nth l (8 * b + x) * fwdF q x * fwdF p b) 8 ∧ S (fun x => nth l (8 * b + x) * fwdF q x * fwdF p b) 8 ≤ 23726080 * ((fwdF p b).natAbs : Int) := fun b _ => by
    have h1 := S_bd (fun x => nth l (8 * b + x) * fwdF q x) (fun x => 128 * ((fwdF q x).natAbs : Int)) 8 fun x _ => mul_bd2 (hl (8 * b + x)) ⟨by omega, by omega⟩ (by decide) (by omega)
    have h2 := fwd_bd2 q hq
    have e : S (fun x => 128 * ((fwdF q x).natAbs : Int)) 8 = S (fun x => ((fwdF q x).natAbs : Int)) 8 * 128 := by
      rw [S_mul]
      exact S_congr _ _ _ fun x _ => Int.mul_comm _ _
    rw [e] at h1
    rw [← S_mul]
    exact mul_bd2 (M := 23726080) (R := ((fwdF p b).natAbs : Int)) ⟨by omega, by omega⟩ ⟨by omega, by omega⟩ (by decide) (by omega)
  have h1 := S_bd _ _ 8 hb
  have h2 := fwd_bd2 p hp
  have e : S (fun b => 23726080 * ((fwdF p b).natAbs : Int)) 8 = S (fun x => ((fwdF p x).natAbs : Int)) 8 * 23726080 := by
    rw [S_mul]
    exact S_congr _ _ _ fun x _ => Int.mul_comm _ _
  rw [e] at h1
  rw [outS_S]
  omega
theorem back_near (l : List Int) (hl : ∀ i, -128 ≤ nth l i ∧ nth l i ≤ 128) (q p : Nat) (hq : q < 8) (hp : p < 8) :
    nth l (8 * p + q) - 4 ≤ rnd (outS invF (full 64 (refF fwdF l)) q p 8) ∧ rnd (outS invF (full 64 (refF fwdF l)) q p 8) ≤ nth l (8 * p + q) + 4 := by
  have hT := two_near l hl q p hq hp
  rw [← two_dim] at hT
  have e1 : outS invF (full 64 (refF fwdF l)) q p 8 * 4294967296 = S (fun y => S (fun x => outS fwdF l x y 8 * invF q x * invF p y) 8) 8 + S (fun y => S (fun x => (4294967296 * rnd (outS fwdF l x y 8) - outS fwdF l x y 8) * invF q x * invF p y) 8) 8 := by
    rw [outS_S, S_mul, ← S_add]
    refine S_congr _ _ _ fun y hy => ?_
    rw [S_mul, ← S_add]
    refine S_congr _ _ _ fun x hx => ?_
    rw [nth_full _ _ _ (by omega)]
    unfold refF
    rw [show (8 * y + x) % 8 = x by omega, show (8 * y + x) / 8 = y by omega, Int.sub_mul, Int.sub_mul, Int.mul_comm _ 4294967296, ← Int.mul_assoc, ← Int.mul_assoc]
    omega
  have hb : ∀ y, y < 8 → - (371806740381696 * ((invF p y).natAbs : Int)) ≤ S (fun x => (4294967296 * rnd (outS fwdF l x y 8) - outS fwdF l x y 8) * invF q x * invF p y) 8 ∧ S (fun x => (4294967296 * rnd (outS fwdF l x y 8) - outS fwdF l x y 8) * invF q x * invF p y) 8 ≤ 371806740381696 * ((invF p y).natAbs : Int) := fun y _ => by
    have h1 := S_bd (fun x => (4294967296 * rnd (outS fwdF l x y 8) - outS fwdF l x y 8) * invF q x) (fun x => 2147483648 * ((invF q x).natAbs : Int)) 8 fun x _ => by
      have h := rnd_bd (outS fwdF l x y 8)
      exact mul_bd2 ⟨by omega, by omega⟩ ⟨by omega, by omega⟩ (by decide) (by omega)
    have h2 := inv_sum q hq
    have e : S (fun x => 2147483648 * ((invF q x).natAbs : Int)) 8 = S (fun x => ((invF q x).natAbs : Int)) 8 * 2147483648 := by
      rw [S_mul]
      exact S_congr _ _ _ fun x _ => Int.mul_comm _ _
    rw [e] at h1
    rw [← S_mul]
    exact mul_bd2 (M := 371806740381696) (R := ((invF p y).natAbs : Int)) ⟨by omega, by omega⟩ ⟨by omega, by omega⟩ (by decide) (by omega)
  have h1 := S_bd _ _ 8 hb
  have h2 := inv_sum p hp
  have e : S (fun y => 371806740381696 * ((invF p y).natAbs : Int)) 8 = S (fun x => ((invF p x).natAbs : Int)) 8 * 371806740381696 := by
    rw [S_mul]
    exact S_congr _ _ _ fun x _ => Int.mul_comm _ _
  rw [e] at h1
  generalize outS invF (full 64 (refF fwdF l)) q p 8 = X at *
  unfold rnd
  omega
end Go.Proofs.Ytmfipjpmfigjaaa
