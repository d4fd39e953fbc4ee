/- Blocks of a plane, joined, are the plane (no program in sight). -/
import Derived.Test.YtajobboldjgidaaSmY
import Derived.Test.YtajobboldjgidaaClD
namespace Go.Proofs.Ytajobboldjgidaa
open Go.RowKit
open Go.Tin
set_option linter.unusedVariables false
set_option linter.unusedSimpArgs false


theorem full_at {f : Nat → Int} {n i : Nat} (hi : i < n) : nth (full n f) i = f i := nth_full n f i hi
theorem blF_nth {f : Nat → Nat → Int} {k i : Nat} (hi : i < 64) : ∀ n, k < n → nth (blF f n) (k * 64 + i) = f k i
  | 0, h => by omega
  | n + 1, h => by
    rw [blF]
    by_cases hk : k < n
    · rw [nth_app_lt (by rw [blF_len]; omega)]
      exact blF_nth hi n hk
    · obtain rfl : k = n := by omega
      rw [nth_app_ge (by rw [blF_len]; omega), blF_len, show k * 64 + i - k * 64 = i by omega]
      exact full_at hi
theorem smp_back {n : Int} (h : 0 ≤ n ∧ n ≤ 255) : smp (n - 128) = n := by
  rw [smp_eq]
  split
  · omega
  · split <;> omega
theorem near_in {wd ht x y : Nat} {v : List Int} (hx : x < wd) (hy : y < ht) : nearV (wd : Int) (ht : Int) v (x : Int) (y : Int) = nth v (y * wd + x) := by
  unfold nearV npos
  rw [show min (y : Int) ((ht : Int) - 1) = (y : Int) by omega, show min (x : Int) ((wd : Int) - 1) = (x : Int) by omega, show (y : Int) * (wd : Int) + (x : Int) = ((y * wd + x : Nat) : Int) by push_cast; rfl, Int.toNat_natCast]
/-- A place of the blocks joined. -/
theorem join_blk {wd ht a N x y : Nat} {v : List Int} (hv : v.all okV = true) (hx : x < wd) (hy : y < ht) (ha : wd ≤ 8 * a) (hN : ht ≤ 8 * (N / a)) : joinV (blF (blkV (wd : Int) (ht : Int) v a) N) a x y = nth v (y * wd + x) := by
  have hq : x / 8 < a := by omega
  have hk : y / 8 * a + x / 8 < N := join_lt (by omega) (by omega)
  unfold joinV joinP
  rw [blF_nth (by omega) N hk]
  have e := rblk (W := (wd : Int)) (H := (ht : Int)) (v := v) (r := y / 8) (i := y % 8) hq (show x % 8 < 8 by omega)
  rw [show y % 8 * 8 + x % 8 = 8 * (y % 8) + x % 8 by omega, e]
  rw [show (8 * ((x / 8 : Nat) : Int) + ((x % 8 : Nat) : Int)) = (x : Int) by omega, show (8 * ((y / 8 : Nat) : Int) + ((y % 8 : Nat) : Int)) = (y : Int) by omega, near_in hx hy]
  refine smp_back ?_
  rw [← near_in (v := v) hx hy]
  exact near_bd hv _ _
theorem lin_nth {f : Nat → Nat → Int} {y x : Nat} : ∀ n, x < n → nth (lin f y n) x = f x y
  | 0, h => by omega
  | n + 1, h => by
    rw [lin]
    by_cases hx : x < n
    · rw [nth_app_lt (by rw [lin_len]; exact hx)]
      exact lin_nth n hx
    · obtain rfl : x = n := by omega
      rw [nth_app_ge (by rw [lin_len]; exact Nat.le_refl _), lin_len, Nat.sub_self]
      rfl
theorem grid_nth {f : Nat → Nat → Int} {wd x y : Nat} (hx : x < wd) : ∀ n, y < n → nth (grid f wd n) (y * wd + x) = f x y
  | 0, h => by omega
  | n + 1, h => by
    rw [grid]
    by_cases hy : y < n
    · rw [nth_app_lt (by
        rw [grid_len]
        have := Nat.mul_le_mul_right wd (show y + 1 ≤ n by omega)
        rw [Nat.succ_mul, Nat.mul_comm n wd] at this
        omega)]
      exact grid_nth hx n hy
    · obtain rfl : y = n := by omega
      rw [nth_app_ge (by rw [grid_len, Nat.mul_comm]; omega), grid_len, show y * wd + x - wd * y = x by rw [Nat.mul_comm wd y]; omega]
      exact lin_nth wd hx
theorem grid_self {v : List Int} {wd ht : Nat} {f : Nat → Nat → Int} (hv : v.length = wd * ht) (hf : ∀ x y, x < wd → y < ht → f x y = nth v (y * wd + x)) : grid f wd ht = v := by
  refine ext_nth (by rw [grid_len, hv]) fun j hj => ?_
  rw [grid_len] at hj
  have hw : 0 < wd := Nat.pos_of_ne_zero (fun e => by subst e; simp at hj)
  have hy : j / wd < ht := (Nat.div_lt_iff_lt_mul hw).2 (by rw [Nat.mul_comm]; exact hj)
  have hx : j % wd < wd := Nat.mod_lt _ hw
  have e : j = j / wd * wd + j % wd := by rw [Nat.mul_comm]; exact (Nat.div_add_mod j wd).symm
  rw [e, grid_nth hx ht hy, hf _ _ hx hy]
/-- The blocks of a plane, joined to its sides, are it. -/
theorem join_back {wd ht a N : Nat} {v : List Int} (hm : mayP (wd : Int) (ht : Int) v = true) (ha : wd ≤ 8 * a) (hN : ht ≤ 8 * (N / a)) : grid (joinV (blF (blkV (wd : Int) (ht : Int) v a) N) a) wd ht = v := by
  have hl := mayP_n hm
  rw [← Int.natCast_mul] at hl
  exact grid_self (by omega) fun x y hx hy => join_blk (mayP_all hm) hx hy ha hN
/-- With factors of one each a plane is brought down to itself. -/
theorem dn_one {wd ht x y : Nat} {v : List Int} (hx : x < wd) (hy : y < ht) : dnV (wd : Int) (ht : Int) v 1 1 x y = nth v (y * wd + x) := by
  unfold dnV boxS
  simp only [lsum]
  rw [show (((1 : Nat) : Int) * (x : Int) + ((0 : Nat) : Int)) = (x : Int) by omega, show (((1 : Nat) : Int) * (y : Int) + ((0 : Nat) : Int)) = (y : Int) by omega, near_in hx hy]
  omega
theorem ptN_one (n : Nat) : ptN n 1 = n := by unfold ptN; omega
theorem linT_nth {f : Nat → Nat → List Int} (h3 : ∀ x y, (f x y).length = 3) {y x j : Nat} (hj : j < 3) : ∀ n, x < n → nth (linT f y n) (3 * x + j) = nth (f x y) j
  | 0, h => by omega
  | n + 1, h => by
    rw [linT]
    by_cases hx : x < n
    · rw [nth_app_lt (by rw [linT_len h3]; omega)]
      exact linT_nth h3 hj n hx
    · obtain rfl : x = n := by omega
      rw [nth_app_ge (by rw [linT_len h3]; omega), linT_len h3, show 3 * x + j - 3 * x = j by omega]
theorem gridT_nth {f : Nat → Nat → List Int} (h3 : ∀ x y, (f x y).length = 3) {wd x y j : Nat} (hj : j < 3) (hx : x < wd) : ∀ n, y < n → nth (gridT f wd n) (3 * (y * wd + x) + j) = nth (f x y) j
  | 0, h => by omega
  | n + 1, h => by
    rw [gridT]
    by_cases hy : y < n
    · rw [nth_app_lt (by
        rw [gridT_len h3]
        have := Nat.mul_le_mul_right wd (show y + 1 ≤ n by omega)
        rw [Nat.succ_mul, Nat.mul_comm n wd] at this
        omega)]
      exact gridT_nth h3 hj hx n hy
    · obtain rfl : y = n := by omega
      rw [nth_app_ge (by rw [gridT_len h3, Nat.mul_comm y wd]; omega), gridT_len h3, show 3 * (y * wd + x) + j - 3 * (wd * y) = 3 * x + j by rw [Nat.mul_comm wd y]; omega]
      exact linT_nth h3 hj wd hx
/-- With factors of one each a picture of the planes is within 1 of it. -/
theorem back_near {l : List Int} (hby : Byts l) {wd ht : Nat} {m : Nat} (hm : m < 3 * (wd * ht)) :
    (0 ≤ nth (gridT (pixV (wd : Int) (ht : Int) (grid (pcV l wd 0) wd ht) (plO l wd ht 1 1 1).W (plO l wd ht 1 1 1).H (plO l wd ht 1 1 1).v (plO l wd ht 1 1 2).v 1 1) wd ht) m ∧ nth (gridT (pixV (wd : Int) (ht : Int) (grid (pcV l wd 0) wd ht) (plO l wd ht 1 1 1).W (plO l wd ht 1 1 1).H (plO l wd ht 1 1 1).v (plO l wd ht 1 1 2).v 1 1) wd ht) m ≤ 255) ∧
    nth (gridT (pixV (wd : Int) (ht : Int) (grid (pcV l wd 0) wd ht) (plO l wd ht 1 1 1).W (plO l wd ht 1 1 1).H (plO l wd ht 1 1 1).v (plO l wd ht 1 1 2).v 1 1) wd ht) m - nth l m ≤ 1 ∧ nth l m - nth (gridT (pixV (wd : Int) (ht : Int) (grid (pcV l wd 0) wd ht) (plO l wd ht 1 1 1).W (plO l wd ht 1 1 1).H (plO l wd ht 1 1 1).v (plO l wd ht 1 1 2).v 1 1) wd ht) m ≤ 1 := by
  have hk : m / 3 < wd * ht := by omega
  have hw : 0 < wd := Nat.pos_of_ne_zero (fun e => by subst e; simp at hk)
  have hy : m / 3 / wd < ht := (Nat.div_lt_iff_lt_mul hw).2 (by rw [Nat.mul_comm]; exact hk)
  have hx : m / 3 % wd < wd := Nat.mod_lt _ hw
  obtain ⟨x, hxe⟩ : ∃ x, m / 3 % wd = x := ⟨_, rfl⟩
  obtain ⟨y, hye⟩ : ∃ y, m / 3 / wd = y := ⟨_, rfl⟩
  obtain ⟨j, hje⟩ : ∃ j, m % 3 = j := ⟨_, rfl⟩
  have hj : j < 3 := by omega
  have e1 : y * wd + x = m / 3 := by rw [← hxe, ← hye, Nat.mul_comm]; exact Nat.div_add_mod _ _
  have em : m = 3 * (y * wd + x) + j := by omega
  rw [hxe] at hx
  rw [hye] at hy
  have hd : ∀ c, c ≠ 0 → plO l wd ht 1 1 c = ⟨(wd : Int), (ht : Int), grid (pcV l wd c) wd ht⟩ := by
    intro c hc
    unfold plO
    rw [if_neg hc, ptN_one, ptN_one]
    congr 1
    exact grid_self (grid_len _ _ _) fun x y hx hy => dn_one hx hy
  have hp : pixV (wd : Int) (ht : Int) (grid (pcV l wd 0) wd ht) (plO l wd ht 1 1 1).W (plO l wd ht 1 1 1).H (plO l wd ht 1 1 1).v (plO l wd ht 1 1 2).v 1 1 x y = [paiR (lumC l (m / 3) 0) (lumC l (m / 3) 1) (lumC l (m / 3) 2), paiG (lumC l (m / 3) 0) (lumC l (m / 3) 1) (lumC l (m / 3) 2), paiB (lumC l (m / 3) 0) (lumC l (m / 3) 1) (lumC l (m / 3) 2)] := by
    rw [hd 1 (by decide), hd 2 (by decide)]
    unfold pixV
    rw [Int.ediv_one, Int.ediv_one, near_in hx hy, near_in hx hy, near_in hx hy, grid_nth hx ht hy, grid_nth hx ht hy, grid_nth hx ht hy]
    unfold pcV
    rw [e1]
  rw [em, gridT_nth (fun _ _ => rfl) hj hx ht hy, hp, e1]
  have b0 := hby (3 * (m / 3))
  have b1 := hby (3 * (m / 3) + 1)
  have b2 := hby (3 * (m / 3) + 2)
  have hl : ∀ c, lumC l (m / 3) c = nth [lumY (nth l (3 * (m / 3))) (nth l (3 * (m / 3) + 1)) (nth l (3 * (m / 3) + 2)), lumB (nth l (3 * (m / 3))) (nth l (3 * (m / 3) + 1)) (nth l (3 * (m / 3) + 2)), lumR (nth l (3 * (m / 3))) (nth l (3 * (m / 3) + 1)) (nth l (3 * (m / 3) + 2))] c := fun _ => rfl
  rw [hl 0, hl 1, hl 2]
  have hk2 := back_ok _ _ _ b0.1 (show nth l (3 * (m / 3)) ≤ 255 by omega) b1.1 (show nth l (3 * (m / 3) + 1) ≤ 255 by omega) b2.1 (show nth l (3 * (m / 3) + 2) ≤ 255 by omega)
  have hp2 := pai_bd (lumY (nth l (3 * (m / 3))) (nth l (3 * (m / 3) + 1)) (nth l (3 * (m / 3) + 2))) (lumB (nth l (3 * (m / 3))) (nth l (3 * (m / 3) + 1)) (nth l (3 * (m / 3) + 2))) (lumR (nth l (3 * (m / 3))) (nth l (3 * (m / 3) + 1)) (nth l (3 * (m / 3) + 2)))
  have : j = 0 ∨ j = 1 ∨ j = 2 := by omega
  rcases this with rfl | rfl | rfl
  · exact ⟨hp2.1, hk2.1.1, hk2.1.2⟩
  · exact ⟨hp2.2.1, hk2.2.1.1, hk2.2.1.2⟩
  · exact ⟨hp2.2.2, hk2.2.2.1, hk2.2.2.2⟩
end Go.Proofs.Ytajobboldjgidaa
