/- Bits: the plain laws of BitsBack (no program in sight). -/
import Derived.Test.YtoclmeblbjpilaaBiZ
namespace Go.Proofs.Ytoclmeblbjpilaa
open Go.RowKit
open Go.Tin
set_option linter.unusedVariables false
set_option linter.unusedSimpArgs false


theorem stf_cons (c : Int) (l : List Int) : stf (c :: l) = (if c = 255 then [255, 0] else [c]) ++ stf l := by simp [stf]
theorem pln_stf : ∀ l : List Int, pln (stf l) = (l, (stf l).length)
  | [] => by simp [stf, pln]
  | c :: l => by
    rw [stf_cons]
    by_cases h : c = 255
    · subst h
      rw [if_pos rfl]
      show pln (255 :: 0 :: stf l) = _
      rw [pln_two, pln_stf l]
      simp
    · rw [if_neg h]
      show pln (c :: stf l) = _
      rw [pln_no h, pln_stf l]
      simp
theorem stf_ff : ∀ (l : List Int) (i : Nat), i < (stf l).length → nth (stf l) i = 255 → i + 1 < (stf l).length ∧ nth (stf l) (i + 1) = 0
  | [], i, h, _ => by simp [stf] at h
  | c :: l, i, h, h255 => by
    rw [stf_cons] at h h255 ⊢
    by_cases hc : c = 255
    · rw [if_pos hc] at h h255 ⊢
      match i with
      | 0 => exact ⟨by simp, by simp [nth]⟩
      | 1 => simp [nth] at h255
      | i + 2 =>
        have h1 : i < (stf l).length := by simpa using h
        have h2 : nth (stf l) i = 255 := by simpa [nth] using h255
        obtain ⟨h3, h4⟩ := stf_ff l i h1 h2
        exact ⟨by simp; omega, by simpa [nth] using h4⟩
    · rw [if_neg hc] at h h255 ⊢
      match i with
      | 0 => simp [nth] at h255; exact absurd h255 hc
      | i + 1 =>
        have h1 : i < (stf l).length := by simpa using h
        have h2 : nth (stf l) i = 255 := by simpa [nth] using h255
        obtain ⟨h3, h4⟩ := stf_ff l i h1 h2
        exact ⟨by simp; omega, by simpa [nth] using h4⟩
theorem BY.stf {l : List Int} (h : BY l) : BY (stf l) := BY.of fun x hx => by
  unfold Proofs.Ytoclmeblbjpilaa.stf at hx
  obtain ⟨c, hc, h1⟩ := List.mem_flatMap.1 hx
  have := h.mem c hc
  split at h1
  · simp at h1; omega
  · simp at h1; subst h1; exact this
theorem BY.pck {l : List Int} (h : ∀ x ∈ l, x = 0 ∨ x = 1) : BY (pck l) := BY.of fun x hx => by
  unfold Proofs.Ytoclmeblbjpilaa.pck pckN at hx
  obtain ⟨i, _, rfl⟩ := List.mem_map.1 hx
  exact part_bd l h i 8 (Nat.le_refl _)
theorem numL_cons (b : Int) (x : List Int) : numL (b :: x) = b * 2 ^ x.length + numL x := by
  have := numL_app [b] x
  simpa [numL] using this
theorem low_numL : ∀ (x : List Int), (∀ y ∈ x, y = 0 ∨ y = 1) → ∀ m : Int, low (m * 2 ^ x.length + numL x) x.length = x
  | [], _, _ => rfl
  | b :: x, hx, m => by
    have hb := hx b (by simp)
    have hx' : ∀ y ∈ x, y = 0 ∨ y = 1 := fun y hy => hx y (List.mem_cons_of_mem _ hy)
    have hbd := numL_bd x hx'
    have hp : (0 : Int) < 2 ^ x.length := Int.pow_pos (by decide)
    rw [List.length_cons, numL_cons]
    have e : m * 2 ^ (x.length + 1) + (b * 2 ^ x.length + numL x) = (m * 2 + b) * 2 ^ x.length + numL x := by
      rw [Int.pow_succ, Int.add_mul, Int.mul_assoc, Int.mul_comm (2 ^ x.length) 2]
      omega
    rw [e]
    show (((m * 2 + b) * 2 ^ x.length + numL x) / 2 ^ x.length % 2) :: low ((m * 2 + b) * 2 ^ x.length + numL x) x.length = b :: x
    rw [low_numL x hx' (m * 2 + b)]
    congr 1
    rw [Int.add_comm, Int.add_mul_ediv_right _ _ (by omega), Int.ediv_eq_zero_of_lt hbd.1 hbd.2]
    omega
theorem low_num (x : List Int) (hx : ∀ y ∈ x, y = 0 ∨ y = 1) (n : Nat) (hn : x.length = n) : low (numL x) n = x := by
  subst hn
  have := low_numL x hx 0
  simpa using this
theorem bitsL_pckN (l : List Int) (hl : ∀ x ∈ l, x = 0 ∨ x = 1) : ∀ k, 8 * k ≤ l.length → bitsL (pckN l k) = l.take (8 * k)
  | 0, _ => by simp [pckN, bitsL]
  | k + 1, h => by
    rw [pckN_next, bitsL_snoc, bitsL_pckN l hl k (by omega), low_num _ (fun y hy => hl y (List.mem_of_mem_drop (List.mem_of_mem_take hy))) 8 (by rw [List.length_take, List.length_drop]; omega)]
    rw [show 8 * (k + 1) = 8 * k + 8 by omega, List.take_add]
theorem bitsL_pck (l : List Int) (hl : ∀ x ∈ l, x = 0 ∨ x = 1) (h8 : l.length % 8 = 0) : bitsL (pck l) = l := by
  unfold pck
  rw [bitsL_pckN l hl _ (by omega), List.take_of_length_le (by omega)]
/-- The bits of the first entries. -/
def entB (zs : List Int) (i : Nat) : List Int := if 0 ≤ nth zs (i * 2 + 1) ∧ nth zs (i * 2 + 1) ≤ 16 then low (nth zs (i * 2)) (nth zs (i * 2 + 1)).toNat else []
def entL (zs : List Int) : Nat → List Int
  | 0 => []
  | i + 1 => entL zs i ++ entB zs i
theorem entB_len (zs : List Int) (i : Nat) : (entB zs i).length ≤ 16 := by
  unfold entB
  split
  · rw [low_len]; omega
  · simp
theorem entL_len (zs : List Int) : ∀ i, (entL zs i).length ≤ 16 * i
  | 0 => by simp [entL]
  | i + 1 => by
    have h1 := entL_len zs i
    have h2 := entB_len zs i
    simp only [entL, List.length_append]
    omega
theorem entL_bit (zs : List Int) : ∀ i, ∀ x ∈ entL zs i, x = 0 ∨ x = 1
  | 0, x, h => by simp [entL] at h
  | i + 1, x, h => by
    rcases List.mem_append.1 h with h | h
    · exact entL_bit zs i x h
    · unfold entB at h
      split at h
      · exact low_bit _ _ x h
      · simp at h
theorem entL_pre (zs : List Int) (i : Nat) : ∀ n, i ≤ n → ∃ m, entL zs n = entL zs i ++ m := by
  intro n
  induction n with
  | zero =>
    intro h
    obtain rfl : i = 0 := by omega
    exact ⟨[], by simp⟩
  | succ n ih =>
    intro h
    by_cases hi : i = n + 1
    · subst hi; exact ⟨[], by simp⟩
    · obtain ⟨m, hm⟩ := ih (by omega)
      exact ⟨m ++ entB zs n, by simp only [entL, hm, List.append_assoc]⟩
theorem ent_yes (zs : List Int) (i : Nat) (n : Nat) (h : nth zs (i * 2 + 1) = (n : Int)) (hn : n ≤ 16) : entL zs (i + 1) = entL zs i ++ low (nth zs (i * 2)) n := by
  simp only [entL, entB]
  rw [if_pos (by omega), h]
  simp
theorem ent_no (zs : List Int) (i : Nat) (h : nth zs (i * 2 + 1) < 0 ∨ 16 < nth zs (i * 2 + 1)) : entL zs (i + 1) = entL zs i := by
  simp only [entL, entB]
  rw [if_neg (by omega)]
  simp
/-- What is taken at the place of an entry. -/
theorem ent_take (zs : List Int) (len i n : Nat) (hi : i < len) (h : nth zs (i * 2 + 1) = (n : Int)) (hn : n ≤ 16) :
    (entL zs i).length + n ≤ (padL (entL zs len)).length ∧ numL (((padL (entL zs len)).drop (entL zs i).length).take n) = nth zs (i * 2) % 2 ^ n := by
  obtain ⟨m, hm⟩ := entL_pre zs (i + 1) len (by omega)
  rw [ent_yes zs i n h hn] at hm
  have hl := low_len (nth zs (i * 2)) n
  refine ⟨by rw [padL_len, hm]; simp only [List.length_append, hl]; omega, ?_⟩
  unfold padL
  rw [hm, List.append_assoc, List.append_assoc, List.append_assoc, List.drop_append_of_le_length (Nat.le_refl _), List.drop_length, List.nil_append, List.take_append_of_le_length (by omega), List.take_of_length_le (by omega), numL_low]
theorem and_mask64 (V : Int) (n : Nat) (hn : n ≤ 16) : bits .and .i64 V (2 ^ n - 1) = V % 2 ^ n := by
  obtain ⟨p1, p2⟩ := pow16 hn
  have hnat : ((2 : Int) ^ n - 1) = (((2 ^ n - 1 : Nat)) : Int) := by
    have : 1 ≤ 2 ^ n := Nat.one_le_two_pow
    rw [Int.ofNat_sub this, Int.natCast_pow]
    rfl
  have hle : 2 ^ n ≤ 65536 := by
    have : 2 ^ n ≤ 2 ^ 16 := Nat.pow_le_pow_right (by decide) hn
    exact Nat.le_trans this (by decide)
  have h1 : (BitVec.ofInt 64 ((2 : Int) ^ n - 1)).toNat = 2 ^ n - 1 := by
    rw [hnat, BitVec.toNat_ofInt]
    omega
  have key : (BitVec.ofInt 64 V &&& BitVec.ofInt 64 ((2 : Int) ^ n - 1)).toNat = (V % ((2 ^ 64 : Nat) : Int)).toNat % 2 ^ n := by
    rw [BitVec.toNat_and, BitVec.toNat_ofInt, h1, Nat.and_two_pow_sub_one_eq_mod]
  show IntKind.i64.wrap ((BitVec.ofInt 64 V &&& BitVec.ofInt 64 ((2 : Int) ^ n - 1)).toNat : Nat) = V % 2 ^ n
  rw [key, IntKind.wrap_i64]
  have hd : (V % ((2 ^ 64 : Nat) : Int)) % 2 ^ n = V % 2 ^ n := by
    refine Int.emod_emod_of_dvd V ⟨2 ^ (64 - n), ?_⟩
    rw [← Int.pow_add, show n + (64 - n) = 64 by omega]
    rfl
  have h0 : 0 ≤ V % ((2 ^ 64 : Nat) : Int) := Int.emod_nonneg _ (by decide)
  have hc : (((V % ((2 ^ 64 : Nat) : Int)).toNat % 2 ^ n : Nat) : Int) = V % 2 ^ n := by
    rw [← hd]
    clear hd key
    generalize V % ((2 ^ 64 : Nat) : Int) = y at *
    rw [Int.natCast_emod, Int.natCast_pow, Int.toNat_of_nonneg h0]
    rfl
  rw [hc]
  have e0 := Int.emod_nonneg V (show (2 : Int) ^ n ≠ 0 by omega)
  have e1 := Int.emod_lt_of_pos V (show (0 : Int) < 2 ^ n by omega)
  omega
/-- At the end only the 1s at the end are left. -/
theorem fil_end (L : List Int) (hL : ∀ x ∈ L, x = 0 ∨ x = 1) : filB (pck (padL L)) L.length = true := by
  have h1 := bitsL_pck (padL L) (padL_bit L hL) (padL_mod L)
  have h2 := bitsL_len (pck (padL L))
  rw [h1, padL_len] at h2
  unfold filB
  rw [h1]
  have h3 : (padL L).drop L.length = List.replicate (padN L.length) 1 := by
    unfold padL
    rw [List.drop_append_of_le_length (Nat.le_refl _), List.drop_length, List.nil_append]
  rw [h3, ← h2]
  have : padN L.length < 8 := by unfold padN; omega
  simp only [Bool.and_eq_true, decide_eq_true_eq, List.all_eq_true]
  refine ⟨by omega, fun x hx => ?_⟩
  rw [List.eq_of_mem_replicate hx]
  rfl
end Go.Proofs.Ytoclmeblbjpilaa
