/- The contract of Put: a number's bytes. -/
import Derived.Test.YtmdcdmgbillehaaOcE
namespace Go.Proofs.Ytmdcdmgbillehaa
open Go.RowKit
open Go.Tin
set_option linter.unusedVariables false
set_option linter.unusedSimpArgs false


theorem bytesOf_cons : ∀ (k : Nat) (n : Int), bytesOf (k + 1) n = (n / 256 ^ k % 256) :: bytesOf k n
  | 0, n => by simp [bytesOf]
  | k + 1, n => by
    have e : n / 256 / 256 ^ k = n / 256 ^ (k + 1) := by
      rw [Int.ediv_ediv_of_nonneg (by decide), Int.pow_succ, Int.mul_comm]
    rw [bytesOf, bytesOf_cons k (n / 256), e]
    rfl
theorem revF_all (l : List Int) : revF l 0 l.length = l.reverse := by
  refine ext_nth (by simp [revF]) fun i hi => ?_
  have hi' : i < l.length := by simpa [revF] using hi
  unfold revF
  rw [revP_nth l 0 l.length l.length i hi', if_pos (by omega), rev_nth l i hi']
  congr 1
  omega
/-- So many low bytes told, noughts ahead. -/
def lowB (s i : Nat) (n : Int) : List Int := List.replicate (s - i) 0 ++ bytesOf i n
theorem lowB_len (s i : Nat) (n : Int) (h : i ≤ s) : (lowB s i n).length = s := by
  unfold lowB
  rw [List.length_append, List.length_replicate, bytesOf_len]
  omega
theorem lowB_set (s i : Nat) (n : Int) (h : i < s) : (lowB s i n).set (s - 1 - i) (n / 256 ^ i % 256) = lowB s (i + 1) n := by
  unfold lowB
  rw [bytesOf_cons, show s - i = s - 1 - i + 1 by omega, List.replicate_succ', show s - (i + 1) = s - 1 - i by omega, List.append_assoc, List.set_append_right _ _ (by simp)]
  simp
theorem lowB_all (s : Nat) (n : Int) : lowB s s n = bytesOf s n := by unfold lowB; simp

set_option maxRecDepth 100000 in
set_option maxHeartbeats 1000000 in
theorem put_yes (n : Int) (s : Nat) (o : Int) (w : World) (hy : putB n s o = true) :
    Calls Try.prog 60 #[.int .i64 n, .int .i64 (s : Int), .int .i64 o] w fun e w' => ∃ A c, e = .returned (.tuple #[.slice A s c, .bool true]) ∧ Own .u8 5 w' w.heap.size (.slice A s c) (putL n s o) ∧ Below w.heap.size w w' := by
  have hy2 := hy
  unfold putB mayO at hy2
  simp only [Bool.and_eq_true, decide_eq_true_eq] at hy2
  obtain ⟨⟨hz, ho⟩, n0, n1⟩ := hy2
  have hmay := Lib.hid (show mayO s o = true by unfold mayO; rw [hz, ho]; rfl)
  have hs4 : s ≤ 4 ∧ 1 ≤ s := by have := szB_t hz; omega
  have htop := topI_pos hz
  have ho' := orB_t ho
  have HT := Lib.hid (top_any s · hz)
  have HP := Lib.hid (show putL n s o = ordL o (bytesOf s n) by unfold putL; rw [if_pos hy]; rfl)
  have d0 : decide (n < 0) = false := by simpa using n0
  have d1 : decide (topI s ≤ n) = false := by simpa using n1
  generalize topI s = T at *
  clear hy hz ho
  go_enter Try.func60, Try.ntmps60
  go_wp2_with fail
  refine (may_any s o w).mono ?_
  rintro e w1 ⟨rfl, hb⟩
  rw [hmay.out]
  go_wp2_with fail
  refine (HT.out w1).mono ?_
  rintro e w2 ⟨rfl, rfl⟩
  go_wp2_with (at_make; refine Tin.wpl_makeN bt5 _ rfl (.tmp 24) (.tmp 24) rfl w1.heap.size .i64 .i64 _ _ s rfl rfl rfl rfl (by omega) (by unfold maxLen; omega) (Nat.le_refl _) ?_; intro w3 ho3 hg3)
  have hb3 : Below w1.heap.size w1 w3 := (brefl w1).grown hg3 (Nat.le_refl _) (fun k hk => by cases hk)
  have hgz : w1.heap.size < w3.heap.size := (World.ownsRow.lt ho3 _ rfl).2
  have hle : w.heap.size ≤ w1.heap.size := hb.size
  generalize w1.heap.size = g at *
  clear hg3
  go_loopw [28] (fun s28 wr => ∃ i : Nat, i ≤ s ∧ s28 = .int .i64 (i : Int) ∧ Own .u8 5 wr g (.slice (some ⟨g, 0, none⟩) s s) (lowB s i n) ∧ Below g w1 wr) (fun s28 _ => s - (intOf s28).toNat)
  case atStart => exact ⟨0, by omega, rfl, by unfold lowB bytesOf; rw [List.append_nil]; exact ho3, hb3⟩
  case round =>
    clear ho3 hb3
    obtain ⟨i, hi, rfl, ho3, hb3⟩ := hrel
    by_cases his : i < s
    · have i1 : (i : Int) < (s : Int) := by omega
      have e1 : (s : Int) - 1 - (i : Int) = ((s - 1 - i : Nat) : Int) := by omega
      have HS := Lib.hid (lowB_set s i n his)
      have HL := Lib.hid (lowB_len s i n (by omega))
      have HO := Lib.hid ho3
      clear ho3
      have hg0 : g < wr.heap.size := (World.ownsRow.lt HO.out _ rfl).2
      rcases (by omega : i = 0 ∨ i = 1 ∨ i = 2 ∨ i = 3) with rfl | rfl | rfl | rfl
      · have HV := Lib.hid (show n / 256 ^ 0 % 256 = n % 256 by simp)
        rw [HV.out] at HS
        have HJ := Lib.hid (show s - 1 < (lowB s 0 n).length by rw [HL.out]; omega)
        go_wp2_with ((with_reducible refine Tin.wpl_set bt5 _ ?_ (.tmp 42) (.tmp 41) ?_ g g s s _ HO.out (s - 1) HJ.out (n % 256) ?_ ?_ ?_); rfl; rfl; rfl; rfl; intro w4 ho4 hg4 hz4; simp only [Act.put])
        have HO4 := Lib.hid (show Own .u8 5 w4 g (.slice (some ⟨g, 0, none⟩) s s) (lowB s (0 + 1) n) by have := HS.out; rw [← this]; exact ho4)
        have hb4 := hb3.grown hg4 (by omega) (fun k hk => by cases hk; omega)
        clear ho4 hg4
        go_roundw
        case rel => exact ⟨0 + 1, by omega, rfl, HO4.out, hb4⟩
        case measure => simp [intOf]; omega

      · have HV := Lib.hid (show n / 256 ^ 1 % 256 = n / 256 % 256 by simp)
        rw [HV.out] at HS
        have HJ := Lib.hid (show s - 1 - 1 < (lowB s 1 n).length by rw [HL.out]; omega)
        go_wp2_with ((with_reducible refine Tin.wpl_set bt5 _ ?_ (.tmp 42) (.tmp 41) ?_ g g s s _ HO.out (s - 1 - 1) HJ.out (n / 256 % 256) ?_ ?_ ?_); rfl; rfl; rfl; rfl; intro w4 ho4 hg4 hz4; simp only [Act.put])
        have HO4 := Lib.hid (show Own .u8 5 w4 g (.slice (some ⟨g, 0, none⟩) s s) (lowB s (1 + 1) n) by have := HS.out; rw [← this]; exact ho4)
        have hb4 := hb3.grown hg4 (by omega) (fun k hk => by cases hk; omega)
        clear ho4 hg4
        go_roundw
        case rel => exact ⟨1 + 1, by omega, rfl, HO4.out, hb4⟩
        case measure => simp [intOf]; omega

      · have HV := Lib.hid (show n / 256 ^ 2 % 256 = n / 65536 % 256 by simp)
        rw [HV.out] at HS
        have HJ := Lib.hid (show s - 1 - 2 < (lowB s 2 n).length by rw [HL.out]; omega)
        go_wp2_with ((with_reducible refine Tin.wpl_set bt5 _ ?_ (.tmp 42) (.tmp 41) ?_ g g s s _ HO.out (s - 1 - 2) HJ.out (n / 65536 % 256) ?_ ?_ ?_); rfl; rfl; rfl; rfl; intro w4 ho4 hg4 hz4; simp only [Act.put])
        have HO4 := Lib.hid (show Own .u8 5 w4 g (.slice (some ⟨g, 0, none⟩) s s) (lowB s (2 + 1) n) by have := HS.out; rw [← this]; exact ho4)
        have hb4 := hb3.grown hg4 (by omega) (fun k hk => by cases hk; omega)
        clear ho4 hg4
        go_roundw
        case rel => exact ⟨2 + 1, by omega, rfl, HO4.out, hb4⟩
        case measure => simp [intOf]; omega

      · have HV := Lib.hid (show n / 256 ^ 3 % 256 = n / 16777216 by rw [show (256 : Int) ^ 3 = 16777216 from by decide]; omega)
        rw [HV.out] at HS
        have HJ := Lib.hid (show s - 1 - 3 < (lowB s 3 n).length by rw [HL.out]; omega)
        go_wp2_with ((with_reducible refine Tin.wpl_set bt5 _ ?_ (.tmp 42) (.tmp 41) ?_ g g s s _ HO.out (s - 1 - 3) HJ.out (n / 16777216) ?_ ?_ ?_); rfl; rfl; rfl; rfl; intro w4 ho4 hg4 hz4; simp only [Act.put])
        have HO4 := Lib.hid (show Own .u8 5 w4 g (.slice (some ⟨g, 0, none⟩) s s) (lowB s (3 + 1) n) by have := HS.out; rw [← this]; exact ho4)
        have hb4 := hb3.grown hg4 (by omega) (fun k hk => by cases hk; omega)
        clear ho4 hg4
        go_roundw
        case rel => exact ⟨3 + 1, by omega, rfl, HO4.out, hb4⟩
        case measure => simp [intOf]; omega

    · obtain rfl : i = s := by omega
      rw [lowB_all] at ho3
      have HO := Lib.hid ho3
      clear ho3
      have hb5 := hb.trans (hb3.mono hle)
      have hgr := (World.ownsRow.lt HO.out _ rfl).2
      rcases ho' with rfl | rfl
      · go_wp2_with fail
        refine (rev_any g g _ _ 0 i i _ wr HO.out (by rw [bytesOf_len]; omega) (Nat.le_refl _) (by rw [bytesOf_len]; omega)).mono ?_
        rintro e w5 ⟨rfl, ho5, hg5, hz5⟩
        have HO5 := Lib.hid (show Own .u8 5 w5 g (.slice (some ⟨g, 0, none⟩) i i) (putL n (i : Int) 1) by
          rw [HP.out]
          have e1 := revF_all (bytesOf i n)
          rw [bytesOf_len] at e1
          rw [e1] at ho5
          exact ho5)
        have hb6 := hb5.grown hg5 (by omega) (fun k hk => by cases hk; omega)
        clear ho5 hg5
        go_wp2_with fail
        go_ret2
        exact ⟨_, _, rfl, HO5.out.mono hle, hb6⟩
      · have HO5 := Lib.hid (show Own .u8 5 wr g (.slice (some ⟨g, 0, none⟩) i i) (putL n (i : Int) 2) by
          rw [HP.out]
          exact HO.out)
        go_wp2_with fail
        go_ret2
        exact ⟨_, _, rfl, HO5.out.mono hle, hb5⟩

set_option maxRecDepth 100000 in
theorem put_no (n s o : Int) (w : World) (hno : putB n s o = false) :
    Calls Try.prog 60 #[.int .i64 n, .int .i64 s, .int .i64 o] w fun e w' => e = .returned (.tuple #[.slice none 0 0, .bool false]) ∧ Below w.heap.size w w' := by
  go_enter Try.func60, Try.ntmps60
  go_wp2_with fail
  refine (may_any s o w).mono ?_
  rintro e w1 ⟨rfl, hb⟩
  by_cases hm : mayO s o = true
  · unfold putB at hno
    rw [hm, Bool.true_and] at hno
    have hz : szB s = true := by unfold mayO at hm; rw [Bool.and_eq_true] at hm; exact hm.1
    rw [hm]
    clear hm
    by_cases h0 : n < 0
    · have d0 : decide (n < 0) = true := by simpa using h0
      clear hno hz
      go_wp2_with fail
      go_ret2
      exact ⟨rfl, hb⟩
    · have d0 : decide (n < 0) = false := by simpa using h0
      have d1 : decide (topI s ≤ n) = true := by simp at hno; simp; omega
      have HT := Lib.hid (top_any s w1 hz)
      clear hno hz
      go_wp2_with fail
      refine HT.out.mono ?_
      rintro e w2 ⟨rfl, rfl⟩
      go_wp2_with fail
      go_ret2
      exact ⟨rfl, hb⟩
  · have hm' : mayO s o = false := by simpa using hm
    rw [hm']
    clear hno hm hm'
    go_wp2_with fail
    go_ret2
    exact ⟨rfl, hb⟩

theorem put_any (n s o : Int) (w : World) :
    Calls Try.prog 60 #[.int .i64 n, .int .i64 s, .int .i64 o] w fun e w' => ∃ A c, e = .returned (.tuple #[.slice A (putL n s o).length c, .bool (putB n s o)]) ∧ Own .u8 5 w' w.heap.size (.slice A (putL n s o).length c) (putL n s o) ∧ Below w.heap.size w w' := by
  by_cases h : putB n s o = true
  · have hz : szB s = true := by
      have h2 := h
      unfold putB mayO at h2
      simp only [Bool.and_eq_true] at h2
      exact h2.1.1
    obtain ⟨s, rfl⟩ := Int.eq_ofNat_of_zero_le (show 0 ≤ s by have := szB_t hz; omega)
    refine (put_yes n s o w h).mono ?_
    rintro e w' ⟨A, c, rfl, ho, hb⟩
    have hl : (putL n s o).length = s := by
      unfold putL ordL
      rw [if_pos h]
      split <;> simp [bytesOf_len]
    rw [hl, h]
    exact ⟨A, c, rfl, ho, hb⟩
  · have h' : putB n s o = false := by simpa using h
    have hl : putL n s o = [] := by unfold putL; rw [if_neg h]
    refine (put_no n s o w h').mono ?_
    rintro e w' ⟨rfl, hb⟩
    rw [hl, h']
    exact ⟨none, 0, rfl, Own.nil_ _ _ _ _, hb⟩
end Go.Proofs.Ytmdcdmgbillehaa
