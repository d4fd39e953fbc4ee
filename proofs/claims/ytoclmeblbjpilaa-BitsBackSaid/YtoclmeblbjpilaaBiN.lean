/- Bits: the reference's words (no program in sight). -/
import Derived.Test.YtoclmeblbjpilaaBiM
namespace Go.Proofs.Ytoclmeblbjpilaa
open Go.RowKit
open Go.Tin
set_option linter.unusedVariables false
set_option linter.unusedSimpArgs false


def bar : List Int → List Int
  | [] => []
  | [c] => [c]
  | c :: d :: l => if c = 255 then c :: bar l else c :: bar (d :: l)
theorem bar_no {c : Int} {l : List Int} (h : c ≠ 255) : bar (c :: l) = c :: bar l := by
  cases l with
  | nil => simp [bar]
  | cons d l => simp [bar, h]
theorem bar_two (l : List Int) : bar (255 :: l) = 255 :: bar (l.drop 1) := by
  cases l with
  | nil => simp [bar]
  | cons d l => simp [bar]
theorem bar_at {l : List Int} {i : Nat} {o : List Int} (hl : bar l = o ++ bar (l.drop i)) (hi : i < l.length) (h : nth l i ≠ 255) : bar l = o ++ [nth l i] ++ bar (l.drop (i + 1)) := by
  rw [hl, drop_nth l i hi, bar_no h]
  simp
theorem bar_at2 {l : List Int} {i : Nat} {o : List Int} (hl : bar l = o ++ bar (l.drop i)) (hi : i < l.length) (h : nth l i = 255) : bar l = o ++ [nth l i] ++ bar (l.drop (i + 2)) := by
  rw [hl, drop_nth l i hi, h, bar_two]
  simp
theorem bar_stop {l : List Int} {i : Nat} {o : List Int} (hl : bar l = o ++ bar (l.drop i)) (hi : l.length ≤ i) : bar l = o := by
  rw [hl, List.drop_eq_nil_of_le hi]
  simp [bar]
theorem bar_len (l : List Int) : ∀ n, l.length ≤ n → (bar l).length ≤ l.length := by
  intro n
  induction n generalizing l with
  | zero => intro h; have : l = [] := List.eq_nil_of_length_eq_zero (by omega); subst this; simp [bar]
  | succ n ih =>
    intro h
    match l, h with
    | [], _ => simp [bar]
    | [c], _ => simp [bar]
    | c :: d :: l, h =>
      simp only [List.length_cons] at h
      by_cases hc : c = 255
      · have := ih l (by omega)
        simp [bar, hc]; omega
      · have := ih (d :: l) (by simp; omega)
        rw [bar_no hc]; simp at this ⊢; omega
theorem bar_pln : ∀ (n : Nat) (l : List Int), l.length ≤ n → bar (l.take (pln l).2) = (pln l).1
  | 0, [], _ => by simp [pln, bar]
  | n + 1, [], _ => by simp [pln, bar]
  | n + 1, [c], _ => by by_cases h : c = 255 <;> simp [pln, bar, h]
  | n + 1, c :: d :: l, hn => by
    simp only [List.length_cons] at hn
    by_cases h : c = 255
    · by_cases h0 : d = 0
      · subst h; subst h0
        rw [pln_two]
        have := bar_pln n l (by omega)
        simp only [List.take_succ_cons, bar_two, List.drop_succ_cons, List.drop_zero]
        rw [this]
      · subst h
        rw [pln_other h0]
        simp [bar]
    · rw [pln_no h]
      have := bar_pln n (d :: l) (by simp; omega)
      simp only [List.take_succ_cons]
      rw [bar_no h, this]
/-- The lowest bits. -/
def low (v : Int) : Nat → List Int
  | 0 => []
  | n + 1 => (v / 2 ^ n % 2) :: low v n
theorem low_len (v : Int) : ∀ n, (low v n).length = n
  | 0 => rfl
  | n + 1 => by simp [low, low_len v n]
theorem low_bit (v : Int) : ∀ n, ∀ x ∈ low v n, x = 0 ∨ x = 1
  | 0, x, h => by simp [low] at h
  | n + 1, x, h => by
    rcases List.mem_cons.1 h with rfl | h
    · have : 0 ≤ v / 2 ^ n % 2 := Int.emod_nonneg _ (by decide)
      have : v / 2 ^ n % 2 < 2 := Int.emod_lt_of_pos _ (by decide)
      omega
    · exact low_bit v n x h
/-- The number of bits. -/
def numL (l : List Int) : Int := l.foldl (fun a b => 2 * a + b) 0
theorem numL_snoc (l : List Int) (b : Int) : numL (l ++ [b]) = 2 * numL l + b := by unfold numL; rw [List.foldl_append]; rfl
theorem numL_bd (l : List Int) (h : ∀ x ∈ l, x = 0 ∨ x = 1) : 0 ≤ numL l ∧ numL l < 2 ^ l.length := by
  have key : ∀ n (l : List Int), l.length = n → (∀ x ∈ l, x = 0 ∨ x = 1) → 0 ≤ numL l ∧ numL l < 2 ^ l.length := by
    intro n
    induction n with
    | zero => intro l hl _; have : l = [] := List.eq_nil_of_length_eq_zero hl; subst this; simp [numL]
    | succ n ih =>
      intro l hl hx
      have hne : l ≠ [] := by intro e; subst e; simp at hl
      obtain ⟨m, b, rfl⟩ : ∃ m b, l = m ++ [b] := ⟨l.dropLast, l.getLast hne, (List.dropLast_concat_getLast hne).symm⟩
      have h1 := ih m (by simpa using hl) (fun x hx' => hx x (List.mem_append_left _ hx'))
      have h2 := hx b (by simp)
      rw [numL_snoc, List.length_append, List.length_singleton, Int.pow_succ]
      omega
  exact key _ l rfl h
/-- All bits of bytes. -/
def bitsL (l : List Int) : List Int := l.flatMap fun c => low c 8
theorem bitsL_snoc (l : List Int) (c : Int) : bitsL (l ++ [c]) = bitsL l ++ low c 8 := by unfold bitsL; rw [List.flatMap_append]; simp
theorem bitsL_len (l : List Int) : (bitsL l).length = 8 * l.length := by
  induction l with
  | nil => rfl
  | cons c l ih =>
    have e : bitsL (c :: l) = low c 8 ++ bitsL l := by simp [bitsL]
    rw [e, List.length_append, low_len, ih, List.length_cons]
    omega
theorem pln_mem : ∀ (n : Nat) (l : List Int), l.length ≤ n → ∀ x ∈ (pln l).1, x = 255 ∨ x ∈ l
  | 0, [], _, x, h => by simp [pln] at h
  | n + 1, [], _, x, h => by simp [pln] at h
  | n + 1, [c], _, x, h => by
    by_cases hc : c = 255
    · simp [pln, hc] at h
    · simp [pln, hc] at h; simp [h]
  | n + 1, c :: d :: l, hn, x, h => by
    simp only [List.length_cons] at hn
    by_cases hc : c = 255
    · by_cases h0 : d = 0
      · subst hc; subst h0
        rw [pln_two] at h
        rcases List.mem_cons.1 h with h | h
        · exact .inl h
        · rcases pln_mem n l (by omega) x h with h | h
          · exact .inl h
          · exact .inr (by simp [h])
      · subst hc
        rw [pln_other h0] at h
        simp at h
    · rw [pln_no hc] at h
      rcases List.mem_cons.1 h with h | h
      · exact .inr (by simp [h])
      · rcases pln_mem n (d :: l) (by simp; omega) x h with h | h
        · exact .inl h
        · exact .inr (List.mem_cons_of_mem _ h)
/-- Each is a byte. -/
def BY (l : List Int) : Prop := ∀ i, 0 ≤ nth l i ∧ nth l i ≤ 255
theorem BY.of {l : List Int} (h : ∀ x ∈ l, 0 ≤ x ∧ x ≤ 255) : BY l := fun i => by
  unfold nth
  rw [List.getD_eq_getElem?_getD]
  cases hi : l[i]? with
  | none => simp
  | some x => exact h x (List.mem_of_getElem? hi)
theorem BY.mem {l : List Int} (h : BY l) : ∀ x ∈ l, 0 ≤ x ∧ x ≤ 255 := fun x hx => by
  obtain ⟨i, hi, rfl⟩ := List.mem_iff_getElem.1 hx
  have := h i
  simpa [nth, List.getD_eq_getElem?_getD, hi] using this
theorem BY.pln {l : List Int} (h : BY l) : BY (pln l).1 := BY.of fun x hx => by
  rcases pln_mem _ l (Nat.le_refl _) x hx with h1 | h1
  · omega
  · exact h.mem x h1
/-- Filled up with 1s; taken eight by eight. -/
def padN (n : Nat) : Nat := (8 - n % 8) % 8
def padL (l : List Int) : List Int := l ++ List.replicate (padN l.length) 1
theorem padL_len (l : List Int) : (padL l).length = l.length + padN l.length := by simp [padL]
theorem padL_mod (l : List Int) : (padL l).length % 8 = 0 := by rw [padL_len]; unfold padN; omega
theorem padL_bit (l : List Int) (h : ∀ x ∈ l, x = 0 ∨ x = 1) : ∀ x ∈ padL l, x = 0 ∨ x = 1 := fun x hx => by
  rcases List.mem_append.1 hx with h1 | h1
  · exact h x h1
  · exact .inr (List.eq_of_mem_replicate h1)
def pckN (l : List Int) (k : Nat) : List Int := (List.range k).map fun i => numL ((l.drop (8 * i)).take 8)
def pck (l : List Int) : List Int := pckN l (l.length / 8)
theorem pckN_len (l : List Int) (k : Nat) : (pckN l k).length = k := by simp [pckN]
theorem pckN_next (l : List Int) (k : Nat) : pckN l (k + 1) = pckN l k ++ [numL ((l.drop (8 * k)).take 8)] := by unfold pckN; rw [List.range_succ, List.map_append]; rfl
theorem part_next (l : List Int) (k j : Nat) (h : 8 * k + j < l.length) : (l.drop (8 * k)).take (j + 1) = (l.drop (8 * k)).take j ++ [nth l (8 * k + j)] := by
  rw [take_snoc _ _ (by rw [List.length_drop]; omega)]
  congr 2
  simp [nth, List.getD_eq_getElem?_getD]
theorem part_bd (l : List Int) (h : ∀ x ∈ l, x = 0 ∨ x = 1) (k j : Nat) (hj : j ≤ 8) : 0 ≤ numL ((l.drop (8 * k)).take j) ∧ numL ((l.drop (8 * k)).take j) ≤ 255 := by
  have h1 := numL_bd ((l.drop (8 * k)).take j) (fun x hx => h x (List.mem_of_mem_drop (List.mem_of_mem_take hx)))
  have h2 : (2 : Int) ^ ((l.drop (8 * k)).take j).length ≤ 2 ^ 8 := by
    have : (2 : Nat) ^ ((l.drop (8 * k)).take j).length ≤ 2 ^ 8 := Nat.pow_le_pow_right (by decide) (by rw [List.length_take]; omega)
    exact_mod_cast this
  omega
theorem low_nth (v : Int) : ∀ n i, i < n → nth (low v n) i = v / 2 ^ (n - 1 - i) % 2
  | n + 1, 0, _ => by simp [low, nth]
  | n + 1, i + 1, h => by
    have := low_nth v n i (by omega)
    rw [show n + 1 - 1 - (i + 1) = n - 1 - i by omega, ← this]
    simp [low, nth]
theorem bitsL_nth : ∀ (D : List Int) (K : Nat), K < 8 * D.length → nth (bitsL D) K = nth D (K / 8) / 2 ^ (7 - K % 8) % 2
  | [], K, h => by simp at h
  | c :: D, K, h => by
    have e : bitsL (c :: D) = low c 8 ++ bitsL D := by simp [bitsL]
    rw [e]
    by_cases hK : K < 8
    · have h1 : nth (low c 8 ++ bitsL D) K = nth (low c 8) K := by
        unfold nth
        rw [List.getD_eq_getElem?_getD, List.getElem?_append_left (by rw [low_len]; exact hK), List.getD_eq_getElem?_getD]
      rw [h1, low_nth c 8 K hK, show K / 8 = 0 by omega, show K % 8 = K by omega]
      simp [nth]
    · have h1 : nth (low c 8 ++ bitsL D) K = nth (bitsL D) (K - 8) := by
        unfold nth
        rw [List.getD_eq_getElem?_getD, List.getElem?_append_right (by rw [low_len]; omega), List.getD_eq_getElem?_getD, low_len]
      rw [h1, bitsL_nth D (K - 8) (by simp at h; omega), show (K - 8) % 8 = K % 8 by omega]
      have h2 : nth (c :: D) (K / 8) = nth D ((K - 8) / 8) := by
        rw [show K / 8 = (K - 8) / 8 + 1 by omega]
        simp [nth]
      rw [h2]
theorem bit_next (D : List Int) (k i : Nat) (h : k + i < 8 * D.length) : numL (((bitsL D).drop k).take (i + 1)) = 2 * numL (((bitsL D).drop k).take i) + nth D ((k + i) / 8) / 2 ^ (7 - (k + i) % 8) % 2 := by
  rw [take_snoc _ _ (by rw [List.length_drop, bitsL_len]; omega), numL_snoc]
  congr 1
  rw [← bitsL_nth D (k + i) h]
  simp [nth, List.getD_eq_getElem?_getD]
end Go.Proofs.Ytoclmeblbjpilaa
