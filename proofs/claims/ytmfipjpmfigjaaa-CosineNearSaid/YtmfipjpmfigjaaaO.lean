/- The contract of samples; sums, and a block turned about its diagonal. -/
import Derived.Test.YtmfipjpmfigjaaaN
namespace Go.Proofs.Ytmfipjpmfigjaaa
open Go.RowKit
open Go.Tin
set_option linter.unusedVariables false
set_option linter.unusedSimpArgs false

/-- Is a number no sample? -/
def outB (n : Int) : Bool := decide (n < -128) || decide (127 < n)
set_option maxRecDepth 100000 in
set_option maxHeartbeats 2000000 in
theorem samples_any (l : List Int) (hl : l.length = 64) (w : World) : Calls Try.prog 15 #[.agg (arr .i64 l)] w fun e w' => e = .returned (.bool (!l.any outB)) ∧ Below w.heap.size w w' := by
  have HL := Lib.hid hl
  clear hl
  go_enter Try.func15, Try.ntmps15
  have q0 := heap_alloc_new w (.cells (arr .i64 l) 26)
  have hB := ba (brefl w) (.cells (arr .i64 l) 26)
  have H0 := Lib.hid q0
  clear q0
  go_wp2_with fail
  generalize w.alloc _ = W0 at *
  go_loopw [3] (fun s3 wr => ∃ (i : Nat), i ≤ 64 ∧ s3 = .int .i64 (i : Int) ∧ (∀ j, j < i → outB (nth l j) = false) ∧ wr = W0) (fun s3 _ => 64 - (intOf s3).toNat)
  case atStart => exact ⟨0, by omega, rfl, fun j h => absurd h (Nat.not_lt_zero _), rfl⟩
  case round =>
    obtain ⟨i, hi, rfl, hno, rfl⟩ := hrel
    have HN := Lib.hid hno
    clear hno
    by_cases hil : i < 64
    · have i1 : (i : Int) < 64 := by omega
      have k0 := blk_cell H0.out i (by rw [HL.out]; exact hil)
      by_cases hq1 : nth l i < -128
      · go_wp2_with fail
        go_ret
        exact ⟨by rw [any_at l outB i (by rw [HL.out]; exact hil) (by simp [outB, hq1])]; rfl, hB⟩
      · by_cases hq2 : 127 < nth l i
        · go_wp2_with fail
          go_ret
          exact ⟨by rw [any_at l outB i (by rw [HL.out]; exact hil) (by simp [outB, hq2])]; rfl, hB⟩
        · go_wp2_with fail
          go_roundw
          case rel => exact ⟨i + 1, by omega, by go_num, fun j hj => by rcases (by omega : j < i ∨ j = i) with h | rfl; exact HN.out j h; simp [outB]; omega, by simp⟩
          case measure => simp [intOf]; omega
    · obtain rfl : i = 64 := by omega
      go_wp2_with fail
      go_ret
      exact ⟨by rw [any_not l outB (by rw [HL.out]; exact HN.out)]; rfl, hB⟩


/-- A sum of so many numbers. -/
def S (f : Nat → Int) : Nat → Int
  | 0 => 0
  | n + 1 => S f n + f n
theorem S_congr (f g : Nat → Int) : ∀ n, (∀ i, i < n → f i = g i) → S f n = S g n
  | 0, _ => rfl
  | n + 1, h => by rw [S, S, S_congr f g n (fun i hi => h i (by omega)), h n (by omega)]
theorem S_add (f g : Nat → Int) : ∀ n, S (fun i => f i + g i) n = S f n + S g n
  | 0 => rfl
  | n + 1 => by rw [S, S, S, S_add f g n]; omega
theorem S_zero : ∀ n, S (fun _ => 0) n = 0
  | 0 => rfl
  | n + 1 => by rw [S, S_zero n]; rfl
theorem S_mul (f : Nat → Int) (c : Int) : ∀ n, S f n * c = S (fun i => f i * c) n
  | 0 => by simp [S]
  | n + 1 => by rw [S, S, Int.add_mul, S_mul f c n]
theorem S_swap (g : Nat → Nat → Int) (m : Nat) : ∀ n, S (fun y => S (fun x => g y x) m) n = S (fun x => S (fun y => g y x) n) m
  | 0 => by
    have : ∀ m, S (fun x => S (fun y => g y x) 0) m = 0 := fun m => S_zero m
    rw [this]; rfl
  | n + 1 => by
    rw [S, S_swap g m n, ← S_add]
    exact S_congr _ _ _ fun i _ => rfl
theorem S_bd (f : Nat → Int) (b : Nat → Int) : ∀ n, (∀ i, i < n → - b i ≤ f i ∧ f i ≤ b i) → - S b n ≤ S f n ∧ S f n ≤ S b n
  | 0, _ => by simp [S]
  | n + 1, h => by
    have h1 := S_bd f b n (fun i hi => h i (by omega))
    have h2 := h n (by omega)
    rw [S, S]
    omega
theorem innS_S (F : Nat → Nat → Int) (l : List Int) (q p y : Nat) : ∀ n, innS F l q p y n = S (fun x => nth l (8 * y + x) * F q x * F p y) n
  | 0 => rfl
  | n + 1 => by rw [innS, S, innS_S F l q p y n]
theorem outS_S (F : Nat → Nat → Int) (l : List Int) (q p : Nat) : ∀ n, outS F l q p n = S (fun y => S (fun x => nth l (8 * y + x) * F q x * F p y) 8) n
  | 0 => rfl
  | n + 1 => by rw [outS, S, outS_S F l q p n, innS_S]
/-- A block turned about its diagonal. -/
def trn (l : List Int) : List Int := full 64 fun i => nth l (i % 8 * 8 + i / 8)
theorem trn_len (l : List Int) : (trn l).length = 64 := by simp [trn]
theorem trn_at (l : List Int) (x y : Nat) (hx : x < 8) (hy : y < 8) : nth (trn l) (8 * x + y) = nth l (8 * y + x) := by
  unfold trn
  rw [nth_full _ _ _ (by omega), show (8 * x + y) % 8 * 8 + (8 * x + y) / 8 = 8 * y + x by omega]
theorem outS_trn (F : Nat → Nat → Int) (l : List Int) (q p : Nat) : outS F (trn l) p q 8 = outS F l q p 8 := by
  rw [outS_S, outS_S, S_swap]
  refine S_congr _ _ _ fun y hy => S_congr _ _ _ fun x hx => ?_
  rw [trn_at l x y hx hy, Int.mul_assoc, Int.mul_assoc, Int.mul_comm (F p y)]
theorem ref_trn (F : Nat → Nat → Int) (l : List Int) (i : Nat) (hi : i < 64) : nth (full 64 (refF F (trn l))) (i % 8 * 8 + i / 8) = nth (full 64 (refF F l)) i := by
  rw [nth_full _ _ _ (by omega), nth_full _ _ _ hi]
  unfold refF
  rw [show (i % 8 * 8 + i / 8) % 8 = i / 8 by omega, show (i % 8 * 8 + i / 8) / 8 = i % 8 by omega, outS_trn]

theorem outS_flat (F : Nat → Nat → Int) (n : Int) (q p : Nat) : outS F (full 64 fun _ => n) q p 8 = S (fun y => F p y) 8 * (S (fun x => F q x) 8 * n) := by
  rw [outS_S, S_mul]
  refine S_congr _ _ _ fun y hy => ?_
  rw [Int.mul_comm (F p y), S_mul, S_mul]
  refine S_congr _ _ _ fun x hx => ?_
  rw [nth_full _ _ _ (by omega), Int.mul_comm n]
theorem fwd_sum : ∀ q, q < 8 → S (fun x => fwdF q x) 8 = if q = 0 then 185360 else 0 := by decide
theorem flat_no (n : Int) (h1 : -128 ≤ n) (h2 : n ≤ 127) : (full 64 fun _ => n).any bigB = false := by
  rw [List.any_eq_false]
  intro z hz
  simp only [full, List.mem_map, List.mem_range] at hz
  obtain ⟨_, _, rfl⟩ := hz
  simp [bigB]
  omega
theorem bl_full (m : Int) : bl m = full 64 fun i => if i = 0 then m else 0 := by
  unfold bl full
  apply List.ext_getElem
  · simp
  · intro i h1 h2
    rw [List.getElem_map, List.getElem_range]
    rcases i with _ | i
    · rfl
    · rw [List.getElem_cons_succ, List.getElem_replicate, if_neg (by omega)]
theorem flat_all (n : Int) (h1 : -128 ≤ n) (h2 : n ≤ 127) : dctL fwdF (full 64 fun _ => n) = bl (8 * n) ∧ dctE (full 64 fun _ => n) = 0 := by
  have hno := flat_no n h1 h2
  unfold dctL dctE
  rw [if_neg (by rw [hno]; decide), if_neg (by rw [hno]; decide), ← ref_dct, bl_full]
  refine ⟨full_congr _ _ _ fun i hi => ?_, rfl⟩
  unfold refF
  rw [outS_flat, fwd_sum _ (by omega), fwd_sum _ (by omega)]
  by_cases h0 : i = 0
  · subst h0
    unfold rnd
    simp
    omega
  · rw [if_neg h0]
    by_cases ha : i / 8 = 0
    · rw [if_neg (show ¬ i % 8 = 0 by omega), Int.zero_mul, Int.mul_zero]; rfl
    · rw [if_neg ha, Int.zero_mul]; rfl
end Go.Proofs.Ytmfipjpmfigjaaa
