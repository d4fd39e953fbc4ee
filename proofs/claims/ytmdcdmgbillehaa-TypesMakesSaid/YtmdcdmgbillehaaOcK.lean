/- The contract of Turn: bytes turned, number by number. -/
import Derived.Test.YtmdcdmgbillehaaOcE
namespace Go.Proofs.Ytmdcdmgbillehaa
open Go.RowKit
open Go.Tin
set_option linter.unusedVariables false
set_option linter.unusedSimpArgs false


/-- Turned up to a place. -/
def turnP (l : List Int) (s a : Nat) : List Int := (List.range l.length).map fun i => nth l (if i < a then i - i % s + (s - 1 - i % s) else i)
@[simp] theorem turnP_len (l : List Int) (s a : Nat) : (turnP l s a).length = l.length := by simp [turnP]
theorem turnP_nth (l : List Int) (s a i : Nat) (hi : i < l.length) : nth (turnP l s a) i = nth l (if i < a then i - i % s + (s - 1 - i % s) else i) := by
  conv => lhs; unfold nth turnP
  simp [List.getD_eq_getElem?_getD, hi]
theorem turnP_zero (l : List Int) (s : Nat) : turnP l s 0 = l := by
  refine ext_nth (by simp) fun i hi => ?_
  rw [turnP_len] at hi
  rw [turnP_nth l s 0 i hi, if_neg (by omega)]
theorem turnP_step (l : List Int) (s a t : Nat) (hs : s = 1 ∨ s = 2 ∨ s = 4 ∨ s = 8) (ha : a = s * t) (hfit : a + s ≤ l.length) : revF (turnP l s a) a s = turnP l s (a + s) := by
  refine ext_nth (by simp [revF]) fun i hi => ?_
  simp only [revF, revP_len, turnP_len] at hi
  unfold revF
  rw [revP_nth _ a s s i (by simpa using hi), turnP_nth l s (a + s) i hi]
  by_cases h1 : a ≤ i ∧ i < a + s
  · rw [if_pos (show a ≤ i ∧ i < a + s ∧ (i < a + s ∨ a + s ≤ i + s) by omega), if_pos h1.2, turnP_nth l s a _ (by omega), if_neg (by omega)]
    congr 1
    rcases hs with rfl | rfl | rfl | rfl <;> omega
  · rw [if_neg (by omega), turnP_nth l s a i hi]
    by_cases h2 : i < a
    · rw [if_pos h2, if_pos (by omega)]
    · rw [if_neg h2, if_neg (by omega)]
theorem turnB_t {s o : Int} (h : turnB s o = true) : (s = 1 ∨ s = 2 ∨ s = 4 ∨ s = 8) ∧ (o = 1 ∨ o = 2) := by
  unfold turnB at h
  rw [Bool.and_eq_true, Bool.or_eq_true] at h
  refine ⟨?_, orB_t h.2⟩
  rcases h.1 with h | h
  · have := szB_t h; omega
  · simp at h; omega
theorem turnP_end (l : List Int) (s a t : Nat) (hs : s = 1 ∨ s = 2 ∨ s = 4 ∨ s = 8) (ha : a = s * t) (h : l.length < a + s) (h' : a ≤ l.length) (hy : turnB s 1 = true) : turnP l s a = turnL l s 1 := by
  unfold turnL
  rw [if_pos hy]
  unfold turnP turnI
  refine List.map_congr_left fun i hi => ?_
  simp only [true_and, Int.toNat_natCast]
  have : l.length - l.length % s = a := by rcases hs with rfl | rfl | rfl | rfl <;> omega
  rw [this]
theorem turnL_big (l : List Int) (s : Int) (hy : turnB s 2 = true) : turnL l s 2 = l := by
  unfold turnL
  rw [if_pos hy]
  refine ext_nth (by simp) fun i hi => ?_
  have hi' : i < l.length := by simpa using hi
  unfold turnI
  conv => lhs; unfold nth
  simp [List.getD_eq_getElem?_getD, hi', nth]
theorem turnL_len (l : List Int) (s o : Int) (hy : turnB s o = true) : (turnL l s o).length = l.length := by
  unfold turnL
  rw [if_pos hy]
  simp

set_option maxRecDepth 100000 in
set_option maxHeartbeats 2000000 in
theorem turn_no (A : Option Addr) (n c : Nat) (s o : Int) (w : World) (hno : turnB s o = false) :
    Calls Try.prog 47 #[.slice A n c, .int .i64 s, .int .i64 o] w fun e w' => e = .returned (.slice none 0 0) ∧ Below w.heap.size w w' := by
  unfold turnB at hno
  have hm : mayO s o = false := by
    unfold mayO
    cases h1 : szB s <;> cases h2 : orB o <;> simp_all
  by_cases h8 : s = 8
  · subst h8
    have ho : orB o = false := by simpa using hno
    have hm1 : mayO 1 o = false := by unfold mayO; rw [ho]; simp
    have HM := Lib.hid hm
    have HM1 := Lib.hid hm1
    clear hno hm hm1 ho
    go_enter Try.func47, Try.ntmps47
    go_wp2_with fail
    refine (may_any 8 o w).mono ?_
    rintro e w1 ⟨rfl, hb⟩
    rw [HM.out]
    go_wp2_with fail
    refine (may_any 1 o w1).mono ?_
    rintro e w2 ⟨rfl, hb2⟩
    rw [HM1.out]
    go_wp2_with fail
    go_ret
    exact ⟨rfl, bt hb hb2⟩
  · have d8 : (s != 8) = true := by simpa using h8
    have HM := Lib.hid hm
    clear hno hm h8
    go_enter Try.func47, Try.ntmps47
    go_wp2_with fail
    refine (may_any s o w).mono ?_
    rintro e w1 ⟨rfl, hb⟩
    rw [HM.out]
    go_wp2_with fail
    go_ret
    exact ⟨rfl, hb⟩

set_option maxRecDepth 100000 in
set_option maxHeartbeats 4000000 in
theorem turn_yes (A : Option Addr) (l : List Int) (c : Nat) (s : Nat) (o : Int) (w : World) (hs : Sl .u8 w A l) (hl : l.length ≤ 1000000000) (hy : turnB s o = true) :
    Calls Try.prog 47 #[.slice A l.length c, .int .i64 (s : Int), .int .i64 o] w fun e w' => ∃ A' c', e = .returned (.slice A' l.length c') ∧ Own .u8 5 w' w.heap.size (.slice A' l.length c') (turnL l s o) ∧ Below w.heap.size w w' := by
  obtain ⟨hs4, horder⟩ := turnB_t hy
  have HY := Lib.hid hy
  by_cases h8 : s = 8
  · subst h8
    have HM := Lib.hid (show mayO 8 o = false by unfold mayO; rfl)
    have HM1 := Lib.hid (show mayO 1 o = true by unfold mayO; rcases horder with rfl | rfl <;> rfl)
    clear hy
    go_enter Try.func47, Try.ntmps47
    go_wp2_with fail
    refine (may_any 8 o w).mono ?_
    rintro e w0 ⟨rfl, hb0⟩
    rw [HM.out]
    go_wp2_with fail
    refine (may_any 1 o w0).mono ?_
    rintro e w1 ⟨rfl, hb1⟩
    rw [HM1.out]
    have hb := bt hb0 hb1
    have HS := Lib.hid (hs.keep hb)
    clear hb0 hb1 hs
    go_wp2_with (first | (at_make; refine Tin.wpl_makeN bt5 _ rfl (.tmp 23) (.tmp 23) rfl w1.heap.size .i64 .i64 _ _ l.length rfl rfl rfl rfl (by omega) (by unfold maxLen; omega) (Nat.le_refl _) ?_; intro w3 ho3 hg3; have hk3 := (brefl w1).grown hg3 (Nat.le_refl _) (fun k hk => by cases hk); have hS3 := Lib.hid (HS.out.keep hk3); have hz3 := hg3.size) | ((with_reducible refine Tin.wpl_copyAll bt5 _ ?_ (.tmp 25) (.tmp 26) ?_ w1.heap.size w1.heap.size l.length l.length _ List.length_replicate ?_ ho3 A c l ?_ ?_ hS3.out hz3 ?_); rfl; rfl; rfl; rfl; rfl; intro w4 ho4 hg4 hz4; simp only [Act.put]))
    have hb4 := hk3.grown hg4 hz3 (fun k hk => by cases hk; omega)
    have hgz : w1.heap.size < w4.heap.size := (World.ownsRow.lt ho4 _ rfl).2
    have hle : w.heap.size ≤ w1.heap.size := hb.size
    generalize w1.heap.size = g at *
    clear hg3 hg4 hz4 ho3 hk3 hS3 hz3 HM hgz
    rcases horder with rfl | rfl
    · go_loopw [8] (fun s8 wr => ∃ a t : Nat, a = 8 * t ∧ a ≤ l.length ∧ s8 = .int .i64 (a : Int) ∧ Own .u8 5 wr g (.slice (some ⟨g, 0, none⟩) l.length l.length) (turnP l 8 a) ∧ Below g w1 wr) (fun s8 _ => l.length - (intOf s8).toNat)
      case atStart => exact ⟨0, 0, by omega, by omega, rfl, by rw [turnP_zero]; exact ho4, hb4⟩
      case round =>
        clear ho4 hb4
        obtain ⟨a, t, hat, hal, rfl, ho5, hb5⟩ := hrel
        have HO := Lib.hid ho5
        have HA := Lib.hid hat
        clear ho5 hat
        by_cases hf : a + 8 ≤ l.length
        · have a0 : (a : Int) + 8 ≤ (l.length : Int) := by omega
          go_wp2_with fail
          refine (rev_any g g _ _ a 8 _ _ wr HO.out (by simpa using hf) (by omega) (by simpa using hl)).mono ?_
          rintro e w6 ⟨rfl, ho6, hg6, hz6⟩
          have HO6 := Lib.hid (show Own .u8 5 w6 g (.slice (some ⟨g, 0, none⟩) l.length l.length) (turnP l 8 (a + 8)) by rw [← turnP_step l 8 a t (by omega) HA.out hf]; exact ho6)
          have hgr : g < wr.heap.size := (World.ownsRow.lt HO.out _ rfl).2
          have hb6 := hb5.grown hg6 (by omega) (fun k hk => by cases hk; omega)
          have HA6 := Lib.hid (show a + 8 = 8 * (t + 1) by rw [HA.out, Nat.mul_add, Nat.mul_one])
          clear ho6 hg6 hz6
          go_wp2_with fail
          go_roundw
          case rel => exact ⟨a + 8, t + 1, HA6.out, hf, by go_num, HO6.out, hb6⟩
          case measure => simp [intOf]; omega
        · have a0 : (l.length : Int) < (a : Int) + 8 := by omega
          have a1 : decide ((a : Int) + 8 ≤ (l.length : Int)) = false := by simp; omega
          have HO6 := Lib.hid (show Own .u8 5 wr g (.slice (some ⟨g, 0, none⟩) l.length l.length) (turnL l 8 1) by have h := HO.out; rw [turnP_end l 8 a t (by omega) HA.out (by omega) hal HY.out] at h; exact h)
          go_wp2_with fail
          go_ret
          exact ⟨_, _, rfl, HO6.out.mono hle, hb.trans (hb5.mono hle)⟩
    · go_loopw [8] (fun s8 wr => s8 = .int .i64 0 ∧ wr = w4) (fun s8 _ => 0)
      case atStart => exact ⟨rfl, rfl⟩
      case round =>
        obtain ⟨rfl, rfl⟩ := hrel
        have HO6 := Lib.hid (show Own .u8 5 wr g (.slice (some ⟨g, 0, none⟩) l.length l.length) (turnL l 8 2) by rw [turnL_big l 8 HY.out]; exact ho4)
        clear ho4
        go_wp2_with fail
        go_ret
        exact ⟨_, _, rfl, HO6.out.mono hle, hb.trans (hb4.mono hle)⟩

  · have hm : mayO s o = true := by
      unfold turnB at hy
      have e8 : decide ((s : Int) = 8) = false := by simp; omega
      rw [e8, Bool.or_false] at hy
      exact hy
    have HM := Lib.hid hm
    clear hm hy
    go_enter Try.func47, Try.ntmps47
    go_wp2_with fail
    refine (may_any s o w).mono ?_
    rintro e w1 ⟨rfl, hb⟩
    rw [HM.out]
    have HS := Lib.hid (hs.keep hb)
    clear hs
    go_wp2_with (first | (at_make; refine Tin.wpl_makeN bt5 _ rfl (.tmp 23) (.tmp 23) rfl w1.heap.size .i64 .i64 _ _ l.length rfl rfl rfl rfl (by omega) (by unfold maxLen; omega) (Nat.le_refl _) ?_; intro w3 ho3 hg3; have hk3 := (brefl w1).grown hg3 (Nat.le_refl _) (fun k hk => by cases hk); have hS3 := Lib.hid (HS.out.keep hk3); have hz3 := hg3.size) | ((with_reducible refine Tin.wpl_copyAll bt5 _ ?_ (.tmp 25) (.tmp 26) ?_ w1.heap.size w1.heap.size l.length l.length _ List.length_replicate ?_ ho3 A c l ?_ ?_ hS3.out hz3 ?_); rfl; rfl; rfl; rfl; rfl; intro w4 ho4 hg4 hz4; simp only [Act.put]))
    have hb4 := hk3.grown hg4 hz3 (fun k hk => by cases hk; omega)
    have hgz : w1.heap.size < w4.heap.size := (World.ownsRow.lt ho4 _ rfl).2
    have hle : w.heap.size ≤ w1.heap.size := hb.size
    generalize w1.heap.size = g at *
    clear hg3 hg4 hz4 ho3 hk3 hS3 hz3 HM hgz
    rcases horder with rfl | rfl
    · go_loopw [8] (fun s8 wr => ∃ a t : Nat, a = s * t ∧ a ≤ l.length ∧ s8 = .int .i64 (a : Int) ∧ Own .u8 5 wr g (.slice (some ⟨g, 0, none⟩) l.length l.length) (turnP l s a) ∧ Below g w1 wr) (fun s8 _ => l.length - (intOf s8).toNat)
      case atStart => exact ⟨0, 0, by omega, by omega, rfl, by rw [turnP_zero]; exact ho4, hb4⟩
      case round =>
        clear ho4 hb4
        obtain ⟨a, t, hat, hal, rfl, ho5, hb5⟩ := hrel
        have HO := Lib.hid ho5
        have HA := Lib.hid hat
        clear ho5 hat
        by_cases hf : a + s ≤ l.length
        · have a0 : (a : Int) + s ≤ (l.length : Int) := by omega
          go_wp2_with fail
          refine (rev_any g g _ _ a s _ _ wr HO.out (by simpa using hf) (by omega) (by simpa using hl)).mono ?_
          rintro e w6 ⟨rfl, ho6, hg6, hz6⟩
          have HO6 := Lib.hid (show Own .u8 5 w6 g (.slice (some ⟨g, 0, none⟩) l.length l.length) (turnP l s (a + s)) by rw [← turnP_step l s a t (by omega) HA.out hf]; exact ho6)
          have hgr : g < wr.heap.size := (World.ownsRow.lt HO.out _ rfl).2
          have hb6 := hb5.grown hg6 (by omega) (fun k hk => by cases hk; omega)
          have HA6 := Lib.hid (show a + s = s * (t + 1) by rw [HA.out, Nat.mul_add, Nat.mul_one])
          clear ho6 hg6 hz6
          go_wp2_with fail
          go_roundw
          case rel => exact ⟨a + s, t + 1, HA6.out, hf, by go_num, HO6.out, hb6⟩
          case measure => simp [intOf]; omega
        · have a0 : (l.length : Int) < (a : Int) + s := by omega
          have a1 : decide ((a : Int) + s ≤ (l.length : Int)) = false := by simp; omega
          have HO6 := Lib.hid (show Own .u8 5 wr g (.slice (some ⟨g, 0, none⟩) l.length l.length) (turnL l s 1) by have h := HO.out; rw [turnP_end l s a t (by omega) HA.out (by omega) hal HY.out] at h; exact h)
          go_wp2_with fail
          go_ret
          exact ⟨_, _, rfl, HO6.out.mono hle, hb.trans (hb5.mono hle)⟩
    · go_loopw [8] (fun s8 wr => s8 = .int .i64 0 ∧ wr = w4) (fun s8 _ => 0)
      case atStart => exact ⟨rfl, rfl⟩
      case round =>
        obtain ⟨rfl, rfl⟩ := hrel
        have HO6 := Lib.hid (show Own .u8 5 wr g (.slice (some ⟨g, 0, none⟩) l.length l.length) (turnL l s 2) by rw [turnL_big l s HY.out]; exact ho4)
        clear ho4
        go_wp2_with fail
        go_ret
        exact ⟨_, _, rfl, HO6.out.mono hle, hb.trans (hb4.mono hle)⟩


theorem turn_any (A : Option Addr) (l : List Int) (c : Nat) (s o : Int) (w : World) (hs : Sl .u8 w A l) (hl : l.length ≤ 1000000000) :
    Calls Try.prog 47 #[.slice A l.length c, .int .i64 s, .int .i64 o] w fun e w' => ∃ A' c', e = .returned (.slice A' (turnL l s o).length c') ∧ Own .u8 5 w' w.heap.size (.slice A' (turnL l s o).length c') (turnL l s o) ∧ Below w.heap.size w w' := by
  by_cases h : turnB s o = true
  · rw [turnL_len l s o h]
    obtain ⟨s, rfl⟩ := Int.eq_ofNat_of_zero_le (show 0 ≤ s by have := (turnB_t h).1; omega)
    exact turn_yes A l c s o w hs hl h
  · have h' : turnB s o = false := by simpa using h
    have e : turnL l s o = [] := by unfold turnL; rw [if_neg h]
    rw [e]
    refine (turn_no A l.length c s o w h').mono ?_
    rintro e w' ⟨rfl, hb⟩
    exact ⟨none, 0, rfl, Own.nil_ _ _ _ _, hb⟩
end Go.Proofs.Ytmdcdmgbillehaa
