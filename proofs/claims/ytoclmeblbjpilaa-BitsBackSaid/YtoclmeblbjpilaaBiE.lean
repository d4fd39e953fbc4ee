/- The contracts of the reference's Bits and Bytes. -/
import Derived.Test.YtoclmeblbjpilaaBiD
namespace Go.Proofs.Ytoclmeblbjpilaa
open Go.RowKit
open Go.Tin
set_option linter.unusedVariables false
set_option linter.unusedSimpArgs false


theorem wf_of64 {z : Int} (h1 : -9223372036854775808 ≤ z) (h2 : z ≤ 9223372036854775807) : (Lit.int .i64 z).wf = true := by
  show (decide (IntKind.i64.min ≤ z) && decide (z ≤ IntKind.i64.max)) = true
  rw [min64, max64]
  simp
  omega

set_option maxRecDepth 100000 in
set_option maxHeartbeats 1000000 in
theorem rbits_any (A : Option Addr) (l : List Int) (c : Nat) (w : World) (hs : Sl .u8 w A l) (hl : l.length ≤ 1000000) (hc : l.length ≤ c) (hm : c ≤ maxLen) (hy : BY l) :
    Calls Try.prog 15 #[.slice A l.length c] w fun e w' => ∃ A' c', e = .returned (.slice A' (8 * (pln l).1.length) c') ∧ Own .i64 3 w' w.heap.size (.slice A' (8 * (pln l).1.length) c') (bitsL (pln l).1) ∧ 8 * (pln l).1.length ≤ c' ∧ c' ≤ maxLen ∧ Below w.heap.size w w' := by
  have HS := Lib.hid hs
  have HY := Lib.hid hy.pln
  have hd := pln_le _ l (Nat.le_refl _)
  have HD := Lib.hid (data_any A l c w hs (by omega))
  have hB := bare_any A (l.take (pln l).2) c w (hs.take _) (by rw [List.length_take]; omega)
  rw [bar_pln _ l (Nat.le_refl _), List.length_take, Nat.min_eq_left hd.1] at hB
  have HB := Lib.hid hB
  clear hs hy hB
  obtain ⟨d1, d2⟩ := hd
  generalize (pln l).1 = D at *
  generalize (pln l).2 = u at *
  have i1 : (u : Int) ≤ (c : Int) := by omega
  go_enter Try.func15, Try.ntmps15
  go_wp2_with fail
  refine HD.out.mono ?_
  rintro e w' ⟨rfl, rfl⟩
  go_wp2_with fail
  refine HB.out.mono ?_
  rintro e w3 ⟨A3, c3, rfl, ho3, hb3⟩
  have HS3 := Lib.hid ho3.sl'.2
  clear ho3
  go_wp2_with fail
  go_loopw [4, 5] (fun s4 s5 wr => ∃ (i : Nat) (A' : Option Addr) (c' : Nat), i ≤ D.length ∧ s5 = .int .i64 (i : Int) ∧ s4 = .slice A' (8 * i) c' ∧ Own .i64 3 wr w3.heap.size (.slice A' (8 * i) c') (bitsL (D.take i)) ∧ Below w3.heap.size w3 wr) (fun _ s5 _ => D.length - (intOf s5).toNat)
  case atStart => exact ⟨0, none, 0, by omega, rfl, rfl, Own.nil_ _ _ _ _, brefl w3⟩
  case round =>
    obtain ⟨i, A', c', hi, rfl, rfl, ho, hb⟩ := hrel
    have HO := Lib.hid ho
    clear ho
    have hz := hb.size
    by_cases hiD : i < D.length
    · have i1 : (i : Int) < (D.length : Int) := by omega
      obtain ⟨b, off, rfl, K⟩ := Sl.cells HS3.out (by omega)
      have k0 := K.out wr hb i hiD
      have hy1 := HY.out i
      obtain ⟨y0, y1⟩ := hy1
      have hlen : (bitsL (D.take i)).length = 8 * i := by rw [bitsL_len, List.length_take]; omega
      have HL := Lib.hid hlen
      have HN := Lib.hid (show bitsL (D.take (i + 1)) = bitsL (D.take i) ++ low (nth D i) 8 by rw [take_snoc D i hiD, bitsL_snoc])
      have LL := Lib.hid (low_len (nth D i) 8)
      clear hlen
      generalize bitsL (D.take i) = Z at *
      have HC := Lib.hid (lowest_any (nth D i) 8 wr (by omega) (wf_of64 (by omega) (by omega)))
      go_wp2_with fail
      refine HC.out.mono ?_
      rintro e w5 ⟨A5, c5, rfl, ho5, hb5⟩
      have hs5 := Lib.hid ho5.sl'.2
      have hO5 := Lib.hid (HO.out.keep hb5)
      have hbb := bt hb hb5
      clear ho5
      go_wp2_with (at_builtin; refine Tin.wpl_app bt3 _ rfl (.tmp 17) (.tmp 23) rfl w3.heap.size _ Z rfl hO5.out A5 8 c5 (low (nth D i) 8) rfl hs5.out LL.out.symm (by rw [LL.out, HL.out]; omega) (by rw [LL.out, HL.out]; omega) hbb.size ?_; intro v6 w6 ho6 hg6 how6; have hb6 := hO5.out.grown hbb hbb.size hg6; rw [← HN.out] at ho6; obtain ⟨A6, c6, rfl⟩ := own_form ho6; rw [HN.out, List.length_append, LL.out, HL.out] at ho6 ⊢; clear hg6 how6)
      go_roundw
      case rel => exact ⟨i + 1, A6, c6, by omega, by go_num, by rw [Nat.mul_succ], by rw [Nat.mul_succ, HN.out]; exact ho6, hb6⟩
      case measure => simp [intOf]; omega
    · obtain rfl : i = D.length := by omega
      have HO6 := Lib.hid (show Own .i64 3 wr w3.heap.size (.slice A' (8 * D.length) c') (bitsL D) by have h := HO.out; rw [List.take_of_length_le (by omega)] at h; exact h)
      have hcap := HO6.out.sl
      go_wp2_with fail
      go_ret
      obtain ⟨A9, c9, h9, -, h10, h11, -⟩ := hcap
      injection h9 with _ _ h12
      subst h12
      exact ⟨_, _, rfl, HO6.out.mono hb3.size, by rw [bitsL_len] at h10; exact h10, h11, bt hb3 hb⟩

set_option maxRecDepth 100000 in
set_option maxHeartbeats 2000000 in
theorem rbytes_any (A : Option Addr) (l : List Int) (c : Nat) (w : World) (hs : Sl .i64 w A l) (hl : l.length ≤ 1000000) (hx : ∀ x ∈ l, x = 0 ∨ x = 1) :
    Calls Try.prog 13 #[.slice A l.length c] w fun e w' => ∃ A' c', e = .returned (.slice A' (stf (pck (padL l))).length c') ∧ Own .u8 5 w' w.heap.size (.slice A' (stf (pck (padL l))).length c') (stf (pck (padL l))) ∧ Below w.heap.size w w' := by
  have HS := Lib.hid hs
  have HX := Lib.hid (padL_bit l hx)
  clear hs hx
  go_enter Try.func13, Try.ntmps13
  have hown0 := Own.new0 (k := .i64) (e := 3) w
  have hb1 : Below w.heap.size w (w.alloc (.cells #[] 3)) := ba (brefl w) _
  go_wp2_with (at_builtin; refine Tin.wpl_app bt3 _ rfl (.tmp 7) (.tmp 8) rfl w.heap.size _ [] rfl hown0 A l.length c l rfl (HS.out.keep hb1) rfl (by rw [List.length_nil]; omega) (by rw [List.length_nil]; omega) (by simp) ?_; intro v6 w6 hown6 hg6 how6; simp only [List.nil_append] at hown6; have hb6 := hown0.grown hb1 (by simp) hg6; obtain ⟨A6, c6, rfl⟩ := own_form hown6; clear hg6 how6 hown0 hb1)
  have HO6 := Lib.hid hown6
  clear hown6
  go_loopw [0] (fun s0 wr => ∃ (j : Nat) (A' : Option Addr) (c' : Nat), j ≤ padN l.length ∧ s0 = .slice A' (l.length + j) c' ∧ Own .i64 3 wr w.heap.size (.slice A' (l.length + j) c') (l ++ List.replicate j 1) ∧ Below w.heap.size w wr) (fun s0 _ => match s0 with | .slice _ n _ => l.length + 8 - n | _ => 0)
  case atStart => exact ⟨0, A6, c6, by omega, rfl, by simpa using HO6.out, hb6⟩
  case round =>
    clear HO6 hb6
    obtain ⟨j, A', c', hj, rfl, ho, hb⟩ := hrel
    have HO := Lib.hid ho
    clear ho
    have hz := hb.size
    have hj8 : j ≤ 7 := by unfold padN at hj; omega
    by_cases hmod : (l.length + j) % 8 = 0
    · have hjp : j = padN l.length := by unfold padN at hj ⊢; omega
      subst hjp
      have e1 : (((l.length : Int) + ((padN l.length : Nat) : Int)) % 8 != 0) = false := by simp; omega
      have hPL := padL_len l
      have hPM := padL_mod l
      have HP := Lib.hid (show Own .i64 3 wr w.heap.size (.slice A' (padL l).length c') (padL l) by rw [hPL]; exact HO.out)
      have e2 : l.length + padN l.length = (padL l).length := hPL.symm
      have hPN : (padL l).length ≤ 2000000 := by unfold padN at hPL; omega
      clear hPL HO hj hj8
      go_wp2_with fail
      simp only [e2]
      have HSP := Lib.hid HP.out.sl'.2
      clear HP e1 e2 hmod
      generalize hPP : padL l = P at *
      have HPP := Lib.hid hPP
      clear hPP
      obtain ⟨K, hK⟩ : ∃ K : Nat, P.length = 8 * K := ⟨P.length / 8, by omega⟩
      have hpck : pck P = pckN P K := by unfold pck; rw [show P.length / 8 = K by omega]
      have HPK := Lib.hid hpck
      clear hpck hPM
      obtain ⟨w2, rfl⟩ : ∃ w2, w2 = wr := ⟨wr, rfl⟩
      have hb2 := brefl w2
      go_loopw [3, 4] (fun s3 s4 wr => ∃ (k : Nat) (A2 : Option Addr) (c2 : Nat), k ≤ K ∧ s4 = .int .i64 ((8 * k : Nat) : Int) ∧ s3 = .slice A2 k c2 ∧ Own .u8 5 wr w2.heap.size (.slice A2 k c2) (pckN P k) ∧ Below w2.heap.size w2 wr) (fun _ s4 _ => 8 * K - (intOf s4).toNat)
      case atStart => exact ⟨0, none, 0, by omega, rfl, rfl, Own.nil_ _ _ _ _, hb2⟩
      case round =>
        clear hb2
        obtain ⟨k, A2, c2, hk, rfl, rfl, ho2, hb2⟩ := hrel
        have HO2 := Lib.hid ho2
        clear ho2
        have hz2 := hb2.size
        by_cases hkK : k < K
        · have i1 : ((8 * k : Nat) : Int) < (P.length : Int) := by omega
          obtain ⟨b, off, rfl, KC⟩ := Sl.cells3 HSP.out (by omega)
          have HN := Lib.hid (pckN_next P k)
          go_wp2_with fail
          go_loop [5, 6] (fun s5 s6 => ∃ (m : Nat), m ≤ 8 ∧ s6 = .int .i64 (m : Int) ∧ s5 = .int .i64 (numL ((P.drop (8 * k)).take m))) (fun _ s6 => 8 - (intOf s6).toNat)
          case atStart => exact ⟨0, by omega, rfl, by simp [numL]⟩
          case round =>
            obtain ⟨m, hm, rfl, rfl⟩ := hrel
            have hbd := part_bd P HX.out k m hm
            obtain ⟨n1, n2⟩ := hbd
            by_cases hm8 : m < 8
            · have m1 : (m : Int) < 8 := by omega
              have i2 : 8 * (k : Int) + (m : Int) < (P.length : Int) := by omega
              have k0 := KC.out wr hb2 (8 * k + m) (by omega)
              have h3 := HX.out (nth P (8 * k + m)) (mem_nth P (8 * k + m) (by omega))
              have n3 : 0 ≤ nth P (8 * k + m) := by omega
              have n4 : nth P (8 * k + m) ≤ 1 := by omega
              have HM := Lib.hid (show numL ((P.drop (8 * k)).take (m + 1)) = 2 * numL ((P.drop (8 * k)).take m) + nth P (8 * k + m) by rw [part_next P k m (by omega), numL_snoc])
              clear h3
              go_wp2_with fail
              go_round
              case rel => exact ⟨m + 1, by omega, by go_num, by rw [HM.out]⟩
              case measure => simp [intOf]; omega
            · obtain rfl : m = 8 := by omega
              have HL := Lib.hid (pckN_len P k)
              generalize pckN P k = Z at *
              go_wp2_with (at_builtin; refine Tin.wpl_push bt5 w2 wr (numL ((P.drop (8 * k)).take 8)) rfl (.tmp 36) (.tmp 39) rfl w2.heap.size A2 _ c2 Z rfl HO2.out hb2 hz2 rfl (by rw [HL.out]; omega) (by rw [HL.out]; omega) ?_; intro A4 c4 w4 ho4 hb4 hz4 hg4 how4; clear hg4 how4)
              go_roundw
              case rel => exact ⟨k + 1, by omega, by omega, A4, c4, ⟨rfl, rfl, rfl⟩, by rw [HN.out]; exact ho4⟩
              case measure => simp [intOf]; omega
        · obtain rfl : k = K := by omega
          have i1 : ¬ ((8 * k : Nat) : Int) < (P.length : Int) := by omega
          have hS2 := HO2.out.sl'.2
          have HL := Lib.hid (pckN_len P k)
          have hR := rstuff_any A2 (pckN P k) c2 wr hS2 (by rw [HL.out]; omega)
          rw [HL.out, ← HPK.out] at hR
          have HR := Lib.hid hR
          clear hR hS2
          go_wp2_with fail
          refine HR.out.mono ?_
          rintro e w5 ⟨A5, c5, rfl, ho5, hb5⟩
          have HO5 := Lib.hid ho5
          clear ho5
          go_wp2_with fail
          go_ret
          rw [HPP.out]
          exact ⟨_, _, rfl, HO5.out.mono (Nat.le_trans hz hz2), bt (bt hb hb2) hb5⟩
    · have e1 : (((l.length : Int) + (j : Int)) % 8 != 0) = true := by simp; omega
      have hj7 : j + 1 ≤ padN l.length := by unfold padN at hj ⊢; omega
      have HL := Lib.hid (show (l ++ List.replicate j (1 : Int)).length = l.length + j by simp)
      have HR := Lib.hid (show l ++ List.replicate (j + 1) (1 : Int) = (l ++ List.replicate j 1) ++ [1] by rw [List.replicate_succ', List.append_assoc])
      generalize l ++ List.replicate j (1 : Int) = Z at *
      go_wp2_with (at_builtin; refine Tin.wpl_push bt3 w wr 1 rfl (.tmp 14) (.tmp 15) rfl w.heap.size A' _ c' Z rfl HO.out hb hz rfl (by rw [HL.out]; omega) (by rw [HL.out]; omega) ?_; intro A4 c4 w4 ho4 hb4 hz4 hg4 how4; clear hg4 how4)
      go_roundw
      case rel => exact ⟨j + 1, A4, c4, hj7, rfl, by rw [HR.out]; exact ho4, hb4⟩
      case measure => simp; omega
end Go.Proofs.Ytoclmeblbjpilaa
