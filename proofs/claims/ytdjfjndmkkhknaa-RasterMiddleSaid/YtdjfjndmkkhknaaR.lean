/- Box, Pad and Cut told in one: what they answer, whether they may or not. -/
import Derived.Test.YtdjfjndmkkhknaaN
import Derived.Test.YtdjfjndmkkhknaaI
namespace Go.Proofs.Ytdjfjndmkkhknaa
open Go.RowKit
open Go.Tin
set_option linter.unusedVariables false
set_option linter.unusedSimpArgs false
set_option maxRecDepth 100000

def ifB (q : Bool) (x : Int) : Int := if q = true then x else 0
def ifE (q : Bool) : Int := if q = true then 0 else 1

def boxR (l : List Int) (W H a b : Int) : List Int := if cutB W H l.length a b = true then rows (boxT l W.toNat H.toNat a.toNat b.toNat) a.toNat b.toNat else []
theorem box_all (W H a b : Int) (A : Option Addr) (l : List Int) (c : Nat) (w : World) (hsl : Sl .u8 w A l) (hlc : l.length ≤ c) (hby : Byts l) :
    Calls Try.prog 16 #[.agg #[.int .i64 W, .int .i64 H, .slice A l.length c], .int .i64 a, .int .i64 b] w fun e w' => ∃ A' n' c', e = .returned (.tuple #[.agg #[.int .i64 (ifB (cutB W H l.length a b) a), .int .i64 (ifB (cutB W H l.length a b) b), .slice A' n' c'], .int .i64 (ifE (cutB W H l.length a b))]) ∧ Own .u8 5 w' w.heap.size (.slice A' n' c') (boxR l W H a b) ∧ Below w.heap.size w w' := by
  unfold boxR ifB ifE
  by_cases h : cutB W H l.length a b = true
  · have h2 := h
    unfold cutB at h2
    simp only [Bool.and_eq_true, decide_eq_true_eq] at h2
    obtain ⟨hm, ⟨ha, hb⟩, _, _⟩ := h2
    obtain ⟨hW, hH, _⟩ := mayB_t hm
    have ha := okS_t ha
    have hb := okS_t hb
    obtain ⟨m, rfl⟩ := Int.eq_ofNat_of_zero_le (show 0 ≤ a by omega)
    obtain ⟨k, rfl⟩ := Int.eq_ofNat_of_zero_le (show 0 ≤ b by omega)
    obtain ⟨P, rfl⟩ := Int.eq_ofNat_of_zero_le (show 0 ≤ W by omega)
    obtain ⟨Q, rfl⟩ := Int.eq_ofNat_of_zero_le (show 0 ≤ H by omega)
    simp only [if_pos h]
    refine (box_yes P Q m k A l c w hsl hlc hby h).mono ?_
    rintro e w' ⟨v, rfl, hown, hb⟩
    obtain ⟨A', n', c', rfl⟩ := own_form hown
    exact ⟨A', n', c', rfl, hown, hb⟩
  · simp only [if_neg h]
    refine (box_no W H a b A l.length c w (by simpa using h)).mono ?_
    rintro e w' ⟨rfl, hb⟩
    exact ⟨none, 0, 0, rfl, Own.nil_ _ _ _ _, hb⟩

def cutR (l : List Int) (W H a b : Int) : List Int := if cutB W H l.length a b = true then rows (fun x y => col l (pos W (x : Int) (y : Int))) a.toNat b.toNat else []
theorem cut_all (W H a b : Int) (A : Option Addr) (l : List Int) (c : Nat) (w : World) (hsl : Sl .u8 w A l) (hlc : l.length ≤ c) (hby : Byts l) :
    Calls Try.prog 18 #[.agg #[.int .i64 W, .int .i64 H, .slice A l.length c], .int .i64 a, .int .i64 b] w fun e w' => ∃ A' n' c', e = .returned (.tuple #[.agg #[.int .i64 (ifB (cutB W H l.length a b) a), .int .i64 (ifB (cutB W H l.length a b) b), .slice A' n' c'], .int .i64 (ifE (cutB W H l.length a b))]) ∧ Own .u8 5 w' w.heap.size (.slice A' n' c') (cutR l W H a b) ∧ Below w.heap.size w w' := by
  unfold cutR ifB ifE
  by_cases h : cutB W H l.length a b = true
  · have h2 := h
    unfold cutB at h2
    simp only [Bool.and_eq_true, decide_eq_true_eq] at h2
    obtain ⟨hm, ⟨ha, hb⟩, _, _⟩ := h2
    obtain ⟨hW, hH, _⟩ := mayB_t hm
    have ha := okS_t ha
    have hb := okS_t hb
    obtain ⟨m, rfl⟩ := Int.eq_ofNat_of_zero_le (show 0 ≤ a by omega)
    obtain ⟨k, rfl⟩ := Int.eq_ofNat_of_zero_le (show 0 ≤ b by omega)
    simp only [if_pos h]
    refine (cut_yes W H m k A l c w hsl hlc h).mono ?_
    rintro e w' ⟨v, rfl, hown, hb⟩
    obtain ⟨A', n', c', rfl⟩ := own_form hown
    exact ⟨A', n', c', rfl, hown, hb⟩
  · simp only [if_neg h]
    refine (cut_no W H a b A l.length c w (by simpa using h)).mono ?_
    rintro e w' ⟨rfl, hb⟩
    exact ⟨none, 0, 0, rfl, Own.nil_ _ _ _ _, hb⟩

def padR (l : List Int) (W H a b : Int) : List Int := if padB W H l.length a b = true then rows (padT l W H) a.toNat b.toNat else []
theorem pad_all (W H a b : Int) (A : Option Addr) (l : List Int) (c : Nat) (w : World) (hsl : Sl .u8 w A l) (hlc : l.length ≤ c) (hby : Byts l) :
    Calls Try.prog 17 #[.agg #[.int .i64 W, .int .i64 H, .slice A l.length c], .int .i64 a, .int .i64 b] w fun e w' => ∃ A' n' c', e = .returned (.tuple #[.agg #[.int .i64 (ifB (padB W H l.length a b) a), .int .i64 (ifB (padB W H l.length a b) b), .slice A' n' c'], .int .i64 (ifE (padB W H l.length a b))]) ∧ Own .u8 5 w' w.heap.size (.slice A' n' c') (padR l W H a b) ∧ Below w.heap.size w w' := by
  unfold padR ifB ifE
  by_cases h : padB W H l.length a b = true
  · have h2 := h
    unfold padB at h2
    simp only [Bool.and_eq_true, decide_eq_true_eq] at h2
    obtain ⟨hm, ⟨ha, hb⟩, _, _⟩ := h2
    obtain ⟨hW, hH, _⟩ := mayB_t hm
    have ha := okS_t ha
    have hb := okS_t hb
    obtain ⟨m, rfl⟩ := Int.eq_ofNat_of_zero_le (show 0 ≤ a by omega)
    obtain ⟨k, rfl⟩ := Int.eq_ofNat_of_zero_le (show 0 ≤ b by omega)
    simp only [if_pos h]
    refine (pad_yes W H m k A l c w hsl hlc h).mono ?_
    rintro e w' ⟨v, rfl, hown, hb⟩
    obtain ⟨A', n', c', rfl⟩ := own_form hown
    exact ⟨A', n', c', rfl, hown, hb⟩
  · simp only [if_neg h]
    refine (pad_no W H a b A l.length c w (by simpa using h)).mono ?_
    rintro e w' ⟨rfl, hb⟩
    exact ⟨none, 0, 0, rfl, Own.nil_ _ _ _ _, hb⟩

theorem rows_congr (t t' : Nat → Nat → List Int) (wd : Nat) : ∀ ht, (∀ x y, x < wd → y < ht → t x y = t' x y) → rows t wd ht = rows t' wd ht
  | 0, _ => rfl
  | ht + 1, h => by
    have hc : ∀ k, k ≤ wd → cols t ht k = cols t' ht k := fun k => by
      induction k with
      | zero => intro _; rfl
      | succ k ih => intro hk; rw [cols, cols, ih (by omega), h k ht (by omega) (by omega)]
    rw [rows, rows, rows_congr t t' wd ht (fun x y hx hy => h x y hx (by omega)), hc wd (Nat.le_refl _)]
end Go.Proofs.Ytdjfjndmkkhknaa
