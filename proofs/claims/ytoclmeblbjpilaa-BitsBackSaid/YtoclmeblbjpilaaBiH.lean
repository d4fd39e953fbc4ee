/- The contract of a Reader's Filled. -/
import Derived.Test.YtoclmeblbjpilaaBiG
namespace Go.Proofs.Ytoclmeblbjpilaa
open Go.RowKit
open Go.Tin
set_option linter.unusedVariables false
set_option linter.unusedSimpArgs false


def filB (D : List Int) (k : Nat) : Bool := decide (8 * D.length - k < 8) && ((bitsL D).drop k).all fun x => x == 1
theorem and_u8_one (x : Int) (h0 : 0 ≤ x) (h1 : x ≤ 255) (j : Nat) : bits .and .u8 (x / 2 ^ j) 1 = x / 2 ^ j % 2 := by
  have hd0 : 0 ≤ x / 2 ^ j := Int.ediv_nonneg h0 (Int.le_of_lt (Int.pow_pos (by decide)))
  have hd1 : x / 2 ^ j ≤ 255 := by
    have : x / 2 ^ j ≤ x := Int.ediv_le_self _ h0
    omega
  generalize x / 2 ^ j = y at *
  obtain ⟨n, rfl⟩ := Int.eq_ofNat_of_zero_le hd0
  rw [show (1 : Int) = ((1 : Nat) : Int) from rfl, u8_and_nat n 1 (by omega) (by decide), Nat.and_one_is_mod]
  rfl
theorem nth_drop (l : List Int) (k i : Nat) : nth (l.drop k) i = nth l (k + i) := by simp [nth, List.getD_eq_getElem?_getD]
theorem fil_no (D : List Int) (k K : Nat) (h1 : k ≤ K) (h2 : K < 8 * D.length) (h : nth (bitsL D) K = 0) : filB D k = false := by
  unfold filB
  have hl := bitsL_len D
  have : ((bitsL D).drop k).all (fun x => x == 1) = false := by
    rw [List.all_eq_false]
    refine ⟨nth ((bitsL D).drop k) (K - k), mem_nth _ _ (by rw [List.length_drop]; omega), ?_⟩
    rw [nth_drop, show k + (K - k) = K by omega, h]
    decide
  rw [this, Bool.and_false]
theorem fil_yes (D : List Int) (k : Nat) (h0 : 8 * D.length - k < 8) (h : ∀ i, k ≤ i → i < 8 * D.length → nth (bitsL D) i = 1) : filB D k = true := by
  unfold filB
  have hl := bitsL_len D
  have : ((bitsL D).drop k).all (fun x => x == 1) = true := by
    rw [List.all_eq_true]
    intro x hx
    obtain ⟨i, hi, rfl⟩ := List.mem_iff_getElem.1 hx
    rw [List.length_drop] at hi
    have h1 := h (k + i) (by omega) (by omega)
    rw [← nth_drop] at h1
    simpa [nth, List.getD_eq_getElem?_getD, List.length_drop, hi] using h1
  rw [this, Bool.and_true]
  exact decide_eq_true h0

set_option maxRecDepth 100000 in
set_option maxHeartbeats 1000000 in
theorem filled_any (w : World) (g : Nat) (A : Option Addr) (c : Nat) (D : List Int) (k : Nat) (h : RS w g A c D k) :
    Calls Try.prog 24 #[.pointer (some ⟨g, 0, none⟩)] w fun e w' => e = .returned (.bool (filB D k)) ∧ Below w.heap.size w w' := by
  have HB := Lib.hid h
  have hl := h.len
  have hk := h.le
  have HL := Lib.hid (left_any w g A c D k h)
  clear h
  by_cases h8 : 8 * D.length - k < 8
  · have f1 : decide (8 ≤ 8 * D.length - k) = false := decide_eq_false (by omega)
    obtain ⟨M, hM⟩ : ∃ M : Nat, M = 8 * D.length - k := ⟨_, rfl⟩
    rw [← hM] at HL f1
    have i1 : (M : Int) < 8 := by omega
    have HM := Lib.hid hM
    clear hM
    go_enter Try.func24, Try.ntmps24
    go_wp2_with fail
    refine HL.out.mono ?_
    rintro e w2 ⟨rfl, hb2⟩
    have HB2 := Lib.hid (HB.out.keep hb2)
    have c0 := row_cell HB2.out.row 0 rfl
    have c1 := row_cell HB2.out.row 1 rfl
    go_wp2_with fail
    go_loop [3] (fun s3 => ∃ (K : Nat), k ≤ K ∧ K ≤ 8 * D.length ∧ s3 = .int .i64 (K : Int) ∧ ∀ i, k ≤ i → i < K → nth (bitsL D) i = 1) (fun s3 => 8 * D.length - (intOf s3).toNat)
    case atStart => exact ⟨k, by omega, hk, rfl, fun i h1 h2 => by omega⟩
    case round =>
      obtain ⟨K, hkK, hK, rfl, hall⟩ := hrel
      have HA := Lib.hid hall
      clear hall
      by_cases hK8 : K < 8 * D.length
      · have j1 : (K : Int) < 8 * (D.length : Int) := by omega
        obtain ⟨b, off, rfl, KC⟩ := Sl.cells HB2.out.sl (by omega)
        have k0 := KC.out w2 (brefl w2) (K / 8) (by omega)
        have q1 : (K : Int) / 8 < (D.length : Int) := by omega
        have q0 : 0 ≤ (K : Int) / 8 := by omega
        have q2 : ((K : Int) / 8).toNat = K / 8 := by omega
        have y0 := (HB2.out.by_ (K / 8)).1
        have y1 := (HB2.out.by_ (K / 8)).2
        have e7 := and_seven (K : Int)
        have eb := and_u8_one (nth D (K / 8)) y0 y1 (7 - K % 8)
        have hn := bitsL_nth D K hK8
        rw [← hn] at eb
        have hbit : nth (bitsL D) K = 0 ∨ nth (bitsL D) K = 1 := by omega
        have HN := Lib.hid hn
        clear hn
        rcases hbit with h0 | h0
        · have HR := Lib.hid (fil_no D k K hkK hK8 h0)
          have eb2 : (bits .and .u8 (nth D (K / 8) / 2 ^ (7 - K % 8)) 1 == 0) = true := by rw [eb, h0]; decide
          clear eb h0
          go_wp2_with fail
          go_ret
          exact ⟨ret_bool HR.out.symm, hb2⟩
        · have H1 := Lib.hid h0
          have eb2 : (bits .and .u8 (nth D (K / 8) / 2 ^ (7 - K % 8)) 1 == 0) = false := by rw [eb, h0]; decide
          clear eb h0
          go_wp2_with fail
          go_round
          case rel => exact ⟨K + 1, by omega, by omega, by go_num, fun i h1 h2 => by rcases (by omega : i < K ∨ i = K) with h | rfl; exact HA.out i h1 h; exact H1.out⟩
          case measure => simp [intOf]; omega
      · obtain rfl : K = 8 * D.length := by omega
        have HR := Lib.hid (fil_yes D k h8 HA.out)
        go_wp2_with fail
        go_ret
        exact ⟨ret_bool HR.out.symm, hb2⟩
  · have HR := Lib.hid (show filB D k = false by unfold filB; rw [decide_eq_false h8, Bool.false_and])
    obtain ⟨M, hM⟩ : ∃ M : Nat, M = 8 * D.length - k := ⟨_, rfl⟩
    rw [← hM] at HL
    have i1 : (8 : Int) ≤ (M : Int) := by omega
    have f1 : decide (8 ≤ M) = true := decide_eq_true (by omega)
    clear hM
    go_enter Try.func24, Try.ntmps24
    go_wp2_with fail
    refine HL.out.mono ?_
    rintro e w2 ⟨rfl, hb2⟩
    go_wp2_with fail
    go_ret
    exact ⟨ret_bool HR.out.symm, hb2⟩
end Go.Proofs.Ytoclmeblbjpilaa
