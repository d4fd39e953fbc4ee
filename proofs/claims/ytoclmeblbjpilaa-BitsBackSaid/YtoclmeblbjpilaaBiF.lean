/- The contracts of a Reader: Left, Take, Filled, New. -/
import Derived.Test.YtoclmeblbjpilaaBiE
import Derived.Test.YtoclmeblbjpilaaRes
import Derived.Test.YtoclmeblbjpilaaRek
import Derived.Deep.QuietTactic
import Derived.BigQuiet
namespace Go.Proofs.Ytoclmeblbjpilaa
open Go.RowKit
open Go.Tin
set_option linter.unusedVariables false
set_option linter.unusedSimpArgs false


/-- The reader at block g has bytes D, of whose bits k are taken. -/
structure RS (w : World) (g : Nat) (A : Option Addr) (c : Nat) (D : List Int) (k : Nat) : Prop where
  row : w.heap[g]? = some (.cells #[.slice A D.length c, .int .i64 (k : Int)] 55 (0, 0))
  sl : Sl .u8 w A D
  ne : ∀ a, A = some a → a.block ≠ g
  le : k ≤ 8 * D.length
  len : D.length ≤ 1000000
  by_ : BY D
theorem RS.keep {w w' : World} {g : Nat} {A : Option Addr} {c : Nat} {D : List Int} {k : Nat} (h : RS w g A c D k) (hb : Below w.heap.size w w') : RS w' g A c D k :=
  ⟨(hb.block _ (by rcases Nat.lt_or_ge g w.heap.size with h1 | h1; exact h1; have := h.row; rw [Array.getElem?_eq_none h1] at this; cases this)).trans h.row, h.sl.keep hb, h.ne, h.le, h.len, h.by_⟩

theorem bdn {B : Nat} {w0 w : World} (hb : Below B w0 w) (n : Nat) : Below B w0 (w.drewN n) := ⟨hb.os, hb.tape, hb.output, hb.size, hb.block⟩

theorem left_any (w : World) (g : Nat) (A : Option Addr) (c : Nat) (D : List Int) (k : Nat) (h : RS w g A c D k) :
    Calls Try.prog 23 #[.pointer (some ⟨g, 0, none⟩)] w fun e w' => e = .returned (.int .i64 ((8 * D.length - k : Nat) : Int)) ∧ Below w.heap.size w w' := by
  have c0 := row_cell h.row 0 rfl
  have c1 := row_cell h.row 1 rfl
  have l1 := h.le
  have l2 := h.len
  clear h
  go_enter Try.func23, Try.ntmps23
  go_wp2_with fail
  go_quiet (fail)
  go_wp2_with fail
  go_ret
  exact ⟨ret_int (by omega), bdn (brefl w) _⟩

theorem bitsL_bit (D : List Int) : ∀ x ∈ bitsL D, x = 0 ∨ x = 1 := fun x hx => by
  unfold bitsL at hx
  obtain ⟨c, _, h⟩ := List.mem_flatMap.1 hx
  exact low_bit c 8 x h
theorem RS.next {w : World} {g : Nat} {A : Option Addr} {c : Nat} {D : List Int} {K : Nat} (h : RS w g A c D K) (hK : K < 8 * D.length) (m : Nat) (x : Int) (hx : x = ((K + 1 : Nat) : Int)) :
    RS ((w.drewN m).setCell ⟨g, 1, none⟩ (.int .i64 x)) g A c D (K + 1) ∧ w.grownBy ((w.drewN m).setCell ⟨g, 1, none⟩ (.int .i64 x)) (some g) := by
  subst hx
  have hr : (w.drewN m).heap[g]? = some (.cells #[.slice A D.length c, .int .i64 (K : Int)] 55 (0, 0)) := h.row
  refine ⟨⟨by rw [row_set hr]; rfl, ?_, h.ne, by omega, h.len, h.by_⟩, ⟨rfl, rfl, rfl, by simp [World.setCell], fun q hq hne => ?_⟩⟩
  · rcases h.sl with h1 | ⟨b, off, hA, hlt, hc⟩
    · exact .inl h1
    · refine .inr ⟨b, off, hA, by simpa [World.setCell] using hlt, fun i hi => ?_⟩
      have hbg : b ≠ g := by have := h.ne _ hA; exact this
      rw [← hc i hi]
      unfold World.cell?
      rw [heap_setCell_other _ _ _ _ (show b ≠ g from hbg)]
      rfl
  · rw [heap_setCell_other _ _ _ _ (show q ≠ g from fun e => hne (by rw [e]))]
    rfl
theorem or_bit (V b : Int) (h0 : 0 ≤ V) (h1 : V < 65536) (hb : b = 0 ∨ b = 1) : bits .or .i64 (V * 2) b = 2 * V + b := by
  obtain ⟨n, rfl⟩ := Int.eq_ofNat_of_zero_le h0
  have hn : n < 65536 := by omega
  have key : (BitVec.ofInt 64 ((n : Int) * 2) ||| BitVec.ofInt 64 b).toNat = 2 * n + b.toNat := by
    have e1 : (BitVec.ofInt 64 ((n : Int) * 2)).toNat = n <<< 1 := by
      rw [BitVec.toNat_ofInt, Nat.shiftLeft_eq]; omega
    have e2 : (BitVec.ofInt 64 b).toNat = b.toNat := by rcases hb with rfl | rfl <;> decide
    rw [BitVec.toNat_or, e1, e2]
    rw [← Nat.shiftLeft_add_eq_or_of_lt (b := b.toNat) (i := 1) (by rcases hb with rfl | rfl <;> decide), Nat.shiftLeft_eq]
    omega
  show IntKind.i64.wrap ((BitVec.ofInt 64 ((n : Int) * 2) ||| BitVec.ofInt 64 b).toNat : Nat) = 2 * (n : Int) + b
  rw [key, wrap_i64]
  omega
theorem bit_u8 (x : Int) (h0 : 0 ≤ x) (h1 : x ≤ 255) (j : Nat) : wrap64 (bits .and .u8 (x / 2 ^ j) 1) = x / 2 ^ j % 2 := by
  have hd0 : 0 ≤ x / 2 ^ j := Int.ediv_nonneg h0 (Int.le_of_lt (Int.pow_pos (by decide)))
  have hd1 : x / 2 ^ j ≤ 255 := by
    have : x / 2 ^ j ≤ x := Int.ediv_le_self _ h0
    omega
  generalize x / 2 ^ j = y at *
  have e : bits .and .u8 y 1 = y % 2 := by
    obtain ⟨n, rfl⟩ := Int.eq_ofNat_of_zero_le hd0
    rw [show (1 : Int) = ((1 : Nat) : Int) from rfl, u8_and_nat n 1 (by omega) (by decide), Nat.and_one_is_mod]
    rfl
  rw [e]
  unfold wrap64
  omega
theorem and_seven (n : Int) : bits .and .i64 n 7 = n % 8 := by
  have h1 : (BitVec.ofInt 64 7).toNat = 2 ^ 3 - 1 := by decide
  have key : (BitVec.ofInt 64 n &&& BitVec.ofInt 64 7).toNat = (n % ((2 ^ 64 : Nat) : Int)).toNat % 2 ^ 3 := by
    rw [BitVec.toNat_and, BitVec.toNat_ofInt, h1, Nat.and_two_pow_sub_one_eq_mod]
  show IntKind.i64.wrap ((BitVec.ofInt 64 n &&& BitVec.ofInt 64 7).toNat : Nat) = n % 8
  rw [key, IntKind.wrap_i64]
  omega

set_option maxRecDepth 100000 in
set_option maxHeartbeats 1000000 in
theorem take_yes (w : World) (g : Nat) (A : Option Addr) (c : Nat) (D : List Int) (k n : Nat) (h : RS w g A c D k) (hn : n ≤ 16) (hk : k + n ≤ 8 * D.length) :
    Calls Try.prog 21 #[.pointer (some ⟨g, 0, none⟩), .int .i64 (n : Int)] w fun e w' => e = .returned (.tuple #[.int .i64 (numL (((bitsL D).drop k).take n)), .bool true]) ∧ RS w' g A c D (k + n) ∧ w.grownBy w' (some g) := by
  have HB := Lib.hid h
  have hl := h.len
  have HL := Lib.hid (left_any w g A c D k h)
  clear h
  have i1 : (n : Int) ≤ ((8 * D.length - k : Nat) : Int) := by omega
  have i2 : (n : Int) ≤ 16 := by omega
  have f1 : decide ((n : Int) < 0) = false := decide_eq_false (by omega)
  have f2 : decide (16 < (n : Int)) = false := decide_eq_false (by omega)
  have f3 : decide (8 * D.length - k < n) = false := decide_eq_false (by omega)
  generalize 8 * D.length - k = M at *
  go_enter Try.func21, Try.ntmps21
  go_wp2_with fail
  refine HL.out.mono ?_
  rintro e w2 ⟨rfl, hb2⟩
  go_wp2_with fail
  have hg2 : w.grownBy w2 (some g) := ⟨hb2.os, hb2.tape, hb2.output, hb2.size, fun q hq _ => hb2.block q hq⟩
  have HB2 := Lib.hid (HB.out.keep hb2)
  go_loopw [6, 24] (fun s6 s24 wr => ∃ (i K : Nat), i ≤ n ∧ K = k + i ∧ s24 = .int .i64 (i : Int) ∧ s6 = .int .i64 (numL (((bitsL D).drop k).take i)) ∧ RS wr g A c D K ∧ w.grownBy wr (some g)) (fun _ s24 _ => n - (intOf s24).toNat)
  case atStart => exact ⟨0, k, by omega, rfl, rfl, by simp [numL], HB2.out, hg2⟩
  case round =>
    obtain ⟨i, K, hi, hK, rfl, rfl, hB, hg⟩ := hrel
    have HB := Lib.hid hB
    clear hB HB2 hg2
    by_cases hin : i < n
    · have j1 : (i : Int) < (n : Int) := by omega
      have c0 := row_cell HB.out.row 0 rfl
      have c1 := row_cell HB.out.row 1 rfl
      have c3 := frozen_of_row wr _ 1 _ _ HB.out.row
      have hK2 : K < 8 * D.length := by omega
      obtain ⟨b, off, rfl, KC⟩ := Sl.cells HB.out.sl (by omega)
      have k0 := KC.out wr (brefl wr) (K / 8) (by omega)
      have HK := Lib.hid hK
      have hK8 : K / 8 < D.length := by omega
      have q1 : (K : Int) / 8 < (D.length : Int) := by omega
      have q0 : 0 ≤ (K : Int) / 8 := by omega
      have q2 : ((K : Int) / 8).toNat = K / 8 := by omega
      have y0 := (HB.out.by_ (K / 8)).1
      have y1 := (HB.out.by_ (K / 8)).2
      have hV := numL_bd (((bitsL D).drop k).take i) (fun x hx => bitsL_bit D x (List.mem_of_mem_drop (List.mem_of_mem_take hx)))
      have hV2 : (2 : Int) ^ (((bitsL D).drop k).take i).length ≤ 2 ^ 16 := by
        have : (2 : Nat) ^ (((bitsL D).drop k).take i).length ≤ 2 ^ 16 := Nat.pow_le_pow_right (by decide) (by rw [List.length_take]; omega)
        exact_mod_cast this
      have v0 := hV.1
      have v1 : numL (((bitsL D).drop k).take i) < 65536 := by have := hV.2; omega
      generalize hV3 : numL (((bitsL D).drop k).take i) = V at *
      replace hV3 := hV3.symm
      have HK8 := Lib.hid (show K < 8 * D.length by omega)
      have HN := Lib.hid (show numL (((bitsL D).drop k).take (i + 1)) = 2 * V + nth D (K / 8) / 2 ^ (7 - K % 8) % 2 by rw [hV3, hK]; exact bit_next D k i (by omega))
      have EB := Lib.hid (bit_u8 (nth D (K / 8)) y0 y1 (7 - K % 8))
      have EO := Lib.hid (or_bit V (nth D (K / 8) / 2 ^ (7 - K % 8) % 2) v0 v1 (by omega))
      have eV : IntKind.i64.wrap (V * 2) = V * 2 := by rw [wrap_i64]; omega
      have e7 := and_seven (K : Int)
      have e8 : IntKind.i64.wrap (7 - (K : Int) % 8) = 7 - (K : Int) % 8 := by rw [wrap_i64]; omega
      clear hV hV2 hV3 hK hK2
      go_wp2_with fail
      go_quiet (fail)
      go_wp2_with fail
      go_roundw
      case rel => exact ⟨i + 1, K + 1, by omega, by rw [HK.out]; rfl, by go_num, by rw [HN.out, EB.out, EO.out], (HB.out.next HK8.out _ _ (by omega)).1, hg.trans (HB.out.next HK8.out _ _ (by omega)).2⟩
      case measure => simp [intOf]; omega
    · obtain rfl : i = n := by omega
      have HK := Lib.hid hK
      clear hK
      go_wp2_with fail
      go_ret2
      exact ⟨rfl, by have h := HB.out; rw [HK.out] at h; exact h, hg⟩
end Go.Proofs.Ytoclmeblbjpilaa
