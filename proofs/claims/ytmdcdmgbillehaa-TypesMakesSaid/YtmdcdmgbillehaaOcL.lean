/- The contract of the reference of Turn: bytes turned, number by number. -/
import Derived.Test.YtmdcdmgbillehaaOcK
import Derived.Test.YtmdcdmgbillehaaOcD
namespace Go.Proofs.Ytmdcdmgbillehaa
open Go.RowKit
open Go.Tin
set_option linter.unusedVariables false
set_option linter.unusedSimpArgs false


theorem turnB_f {s o : Int} (h : turnB s o = false) : (szB s = false ∧ s ≠ 8) ∨ o < 1 ∨ 2 < o := by
  unfold turnB at h
  cases h2 : orB o
  · have := orB_f h2; omega
  · rw [h2] at h
    simp at h
    exact .inl ⟨h.1, h.2⟩
theorem topI_ne (s : Int) (h : topI s = 0) : (topI s == 0) = true := by simp [h]
set_option maxRecDepth 100000 in
set_option maxHeartbeats 1000000 in
theorem rturn_no (A : Option Addr) (n c : Nat) (s o : Int) (w : World) (hno : turnB s o = false) :
    Calls Try.prog 48 #[.slice A n c, .int .i64 s, .int .i64 o] w fun e w' => e = .returned (.slice none 0 0) ∧ Below w.heap.size w w' := by
  have hf := turnB_f hno
  have ht := topI_eq0 s
  clear hno
  by_cases h8 : szB s = false ∧ s ≠ 8
  · rw [h8.1] at ht
    have d8 : (s != 8) = true := by simpa using h8.2
    clear hf h8
    go_enter Try.func48, Try.ntmps48
    go_wp2_with (refine (rtop_any _ _).mono ?_; rintro e w1 ⟨rfl, rfl⟩)
    go_ret
    exact ⟨rfl, brefl _⟩
  · have hf' : o < 1 ∨ 2 < o := by
      rcases hf with h | h
      · exact absurd h h8
      · exact h
    cases hz : szB s
    · rw [hz] at ht
      obtain rfl : s = 8 := by rw [hz] at h8; simpa using h8
      clear hf h8 hz
      by_cases h1 : o < 1
      · have d1 : decide (o < 1) = true := by simpa using h1
        clear hf' h1
        go_enter Try.func48, Try.ntmps48
        go_wp2_with (refine (rtop_any _ _).mono ?_; rintro e w1 ⟨rfl, rfl⟩)
        go_ret
        exact ⟨rfl, brefl _⟩
      · have d1 : decide (o < 1) = false := by simpa using h1
        have d2 : decide (2 < o) = true := by simp; omega
        clear hf' h1
        go_enter Try.func48, Try.ntmps48
        go_wp2_with (refine (rtop_any _ _).mono ?_; rintro e w1 ⟨rfl, rfl⟩)
        go_ret
        exact ⟨rfl, brefl _⟩
    · rw [hz] at ht
      clear hf h8 hz
      by_cases h1 : o < 1
      · have d1 : decide (o < 1) = true := by simpa using h1
        clear hf' h1
        go_enter Try.func48, Try.ntmps48
        go_wp2_with (refine (rtop_any _ _).mono ?_; rintro e w1 ⟨rfl, rfl⟩)
        go_ret
        exact ⟨rfl, brefl _⟩
      · have d1 : decide (o < 1) = false := by simpa using h1
        have d2 : decide (2 < o) = true := by simp; omega
        clear hf' h1
        go_enter Try.func48, Try.ntmps48
        go_wp2_with (refine (rtop_any _ _).mono ?_; rintro e w1 ⟨rfl, rfl⟩)
        go_ret
        exact ⟨rfl, brefl _⟩

/-- Where a number's byte stands behind its turn. -/
def turnK (i s : Nat) : Nat := i - i % s + (s - 1 - i % s)
theorem turnK_lt (i s n : Nat) (hs : 0 < s) (h : i < n - n % s) : turnK i s < n := by
  have h1 := Nat.div_add_mod i s
  have h2 := Nat.div_add_mod n s
  have h3 := Nat.mod_lt i hs
  have h4 : i / s < n / s := by
    apply Nat.lt_of_not_le
    intro h5
    have := Nat.mul_le_mul_left s h5
    omega
  have h6 : s * (i / s) + s ≤ s * (n / s) := by
    have := Nat.mul_le_mul_left s (show i / s + 1 ≤ n / s by omega)
    rw [Nat.mul_add, Nat.mul_one] at this
    exact this
  unfold turnK
  omega
theorem turnL_nth (l : List Int) (s : Nat) (o : Int) (i : Nat) (hy : turnB s o = true) (hi : i < l.length) : nth (turnL l s o) i = if o = 1 ∧ i < l.length - l.length % s then nth l (turnK i s) else nth l i := by
  unfold turnL
  rw [if_pos hy]
  conv => lhs; unfold nth
  simp only [List.getD_eq_getElem?_getD, List.getElem?_map, List.getElem?_range hi, Option.map_some, Option.getD_some, turnI, Int.toNat_natCast]
  split <;> rfl

set_option maxRecDepth 100000 in
set_option maxHeartbeats 4000000 in
theorem rturn_yes (A : Option Addr) (l : List Int) (c : Nat) (s : Nat) (o : Int) (w : World) (hs : Sl .u8 w A l) (hl : l.length ≤ 1000000000) (hy : turnB s o = true) :
    Calls Try.prog 48 #[.slice A l.length c, .int .i64 (s : Int), .int .i64 o] w fun e w' => ∃ A' c', e = .returned (.slice A' l.length c') ∧ Own .u8 5 w' w.heap.size (.slice A' l.length c') (turnL l s o) ∧ Below w.heap.size w w' := by
  obtain ⟨hs4, horder⟩ := turnB_t hy
  have HY := Lib.hid hy
  have HS := Lib.hid hs
  have d1 : decide (o < 1) = false := by simp; omega
  have d2 : decide (2 < o) = false := by simp; omega
  have d3 : szB s = false → ((s : Int) != 8) = false := fun h => by have := szB_f h; simp; omega
  have ht := topI_eq0 s
  have s0 : 1 ≤ s := by omega
  have s1 : s ≤ 8 := by omega
  cases hz : szB s
  · rw [hz] at ht
    have d4 := d3 hz
    clear d3 hz hy hs hs4
    go_enter Try.func48, Try.ntmps48
    go_wp2_with (refine (rtop_any _ _).mono ?_; rintro e w1 ⟨rfl, rfl⟩)
    go_loopw [7, 8] (fun s7 s8 wr => ∃ (i : Nat) (A' : Option Addr) (c' : Nat), i ≤ l.length ∧ s8 = .int .i64 (i : Int) ∧ s7 = .slice A' i c' ∧ Own .u8 5 wr w.heap.size (.slice A' i c') ((turnL l s o).take i) ∧ Below w.heap.size w wr) (fun _ s8 _ => l.length - (intOf s8).toNat)
    case atStart => exact ⟨0, none, 0, by omega, rfl, rfl, Own.nil_ _ _ _ _, brefl w⟩
    case round =>
      obtain ⟨i, A', c', hi, rfl, rfl, ho, hb⟩ := hrel
      have HO := Lib.hid ho
      clear ho
      by_cases hil : i < l.length
      · have i1 : (i : Int) < (l.length : Int) := by omega
        have m0 : 0 ≤ (i : Int) % (s : Int) := Int.emod_nonneg _ (by omega)
        have m1 : (i : Int) % (s : Int) < (s : Int) := Int.emod_lt_of_pos _ (by omega)
        have m2 : (i : Int) % (s : Int) ≤ (i : Int) := by
          have h := Nat.mod_le i s
          rw [show (i : Int) % (s : Int) = ((i % s : Nat) : Int) from rfl]
          omega
        have n0 : 0 ≤ (l.length : Int) % (s : Int) := Int.emod_nonneg _ (by omega)
        have n1 : (l.length : Int) % (s : Int) < (s : Int) := Int.emod_lt_of_pos _ (by omega)
        obtain ⟨b, off, rfl, hlt, hcell⟩ := (HS.out.keep hb).at_ (by omega)
        have HK := Lib.hid hcell
        clear hcell
        have hz := hb.size
        have hnm : i - i % s + (s - 1 - i % s) = turnK i s := rfl
        have HTN := Lib.hid (turnL_nth l s o i HY.out hil)
        rcases horder with rfl | rfl
        · by_cases hk : i < l.length - l.length % s
          · have k1 : (i : Int) < (l.length : Int) - (l.length : Int) % (s : Int) := by
              rw [show (l.length : Int) % (s : Int) = ((l.length % s : Nat) : Int) from rfl]
              omega
            have hm : i % s ≤ i := Nat.mod_le i s
            have hm2 : i % s < s := Nat.mod_lt i (by omega)
            have hkl : turnK i s < l.length := turnK_lt i s l.length (by omega) hk
            have e1 : (i : Int) - (i : Int) % (s : Int) + (s : Int) - 1 - (i : Int) % (s : Int) = ((turnK i s : Nat) : Int) := by
              rw [show (i : Int) % (s : Int) = ((i % s : Nat) : Int) from rfl]
              unfold turnK
              omega
            have k0 := HK.out (turnK i s) hkl
            rw [show l.getD (turnK i s) 0 = nth l (turnK i s) from rfl] at k0
            have HTN2 := Lib.hid (show nth (turnL l s 1) i = nth l (turnK i s) by rw [HTN.out, if_pos ⟨rfl, hk⟩])
            generalize turnK i s = K at *
            clear hm hm2 HTN hk hnm
            go_wp2_with fail
            refine Tin.reg_begin 0 13 (by rfl) (by kernel_rfl) ?_
            refine Tin.reg_quiets [0, 1, 2, 3, 4, 5, 6, 7, 8, 9, 10, 11, 12] _ 0 rfl (by simp only [Tin.pick, List.map_cons, List.map_nil, Array.getD_eq_getD_getElem?, List.getElem?_toArray, List.getElem?_cons_zero, List.getElem?_cons_succ, Option.getD_some]; rfl) (by kernel_rfl) (by kernel_rfl) ?_
            repeat (first | go_big_quiet_step (fail))
            refine wpQuiet_nil ?_
            refine Tin.reg_done (by kernel_rfl) ?_
            go_wp2_with (at_builtin; refine Tin.wpl_app bt5 _ rfl (.tmp 57) (.tmp 62) rfl w.heap.size _ _ rfl (HO.out.drew.alloc _) (some ⟨wr.heap.size, 0, none⟩) 1 1 [nth l K] rfl (Sl.new_ wr.drew _ _ _ rfl) rfl (by rw [List.length_take]; simp; omega) (by rw [List.length_take]; simp; omega) (by simp; omega) ?_; intro v4 w4 ho4 hg4 how4)
            have HO4 := Lib.hid (show Own .u8 5 w4 w.heap.size v4 ((turnL l s 1).take (i + 1)) by rw [take_snoc_nth _ i (by rw [turnL_len l s 1 HY.out]; exact hil), HTN2.out]; exact ho4)
            obtain ⟨A4, c4, rfl⟩ := own_form HO4.out
            have hlen : ((turnL l s 1).take (i + 1)).length = i + 1 := by rw [List.length_take, turnL_len l s 1 HY.out]; omega
            rw [hlen] at HO4
            have hb4 : Below w.heap.size w w4 := (HO.out.drew.alloc (.cells #[.int .u8 (nth l K)] 5)).grown ((hb.drew).alloc hz (.cells #[.int .u8 (nth l K)] 5)) (by simp; omega) hg4
            clear ho4 hg4 how4
            simp only [hlen]
            clear hlen
            go_wp2_with fail
            go_roundw
            case rel => exact ⟨i + 1, A4, c4, by omega, by go_num, rfl, HO4.out, hb4⟩
            case measure => simp [intOf]; omega

          · have k1 : (l.length : Int) - (l.length : Int) % (s : Int) ≤ (i : Int) := by
              rw [show (l.length : Int) % (s : Int) = ((l.length % s : Nat) : Int) from rfl]
              omega
            have k2 : decide ((i : Int) < (l.length : Int) - (l.length : Int) % (s : Int)) = false := by simp; omega
            have k0 := HK.out i hil
            rw [show l.getD i 0 = nth l i from rfl] at k0
            have HTN2 := Lib.hid (show nth (turnL l s 1) i = nth l i by rw [HTN.out, if_neg (fun h => hk h.2)])
            clear HTN hk hnm
            go_wp2_with (at_builtin; refine Tin.wpl_app bt5 _ rfl (.tmp 57) (.tmp 62) rfl w.heap.size _ _ rfl (HO.out.alloc _) (some ⟨wr.heap.size, 0, none⟩) 1 1 [nth l i] rfl (Sl.new_ wr _ _ _ rfl) rfl (by rw [List.length_take]; simp; omega) (by rw [List.length_take]; simp; omega) (by simp; omega) ?_; intro v4 w4 ho4 hg4 how4)
            have HO4 := Lib.hid (show Own .u8 5 w4 w.heap.size v4 ((turnL l s 1).take (i + 1)) by rw [take_snoc_nth _ i (by rw [turnL_len l s 1 HY.out]; exact hil), HTN2.out]; exact ho4)
            obtain ⟨A4, c4, rfl⟩ := own_form HO4.out
            have hlen : ((turnL l s 1).take (i + 1)).length = i + 1 := by rw [List.length_take, turnL_len l s 1 HY.out]; omega
            rw [hlen] at HO4
            have hb4 : Below w.heap.size w w4 := (HO.out.alloc (.cells #[.int .u8 (nth l i)] 5)).grown ((hb).alloc hz (.cells #[.int .u8 (nth l i)] 5)) (by simp; omega) hg4
            clear ho4 hg4 how4
            simp only [hlen]
            clear hlen
            go_wp2_with fail
            go_roundw
            case rel => exact ⟨i + 1, A4, c4, by omega, by go_num, rfl, HO4.out, hb4⟩
            case measure => simp [intOf]; omega

        · have k0 := HK.out i hil
          rw [show l.getD i 0 = nth l i from rfl] at k0
          have HTN2 := Lib.hid (show nth (turnL l s 2) i = nth l i by rw [HTN.out, if_neg (fun h => by cases h.1)])
          clear HTN hnm
          · go_wp2_with (at_builtin; refine Tin.wpl_app bt5 _ rfl (.tmp 57) (.tmp 62) rfl w.heap.size _ _ rfl (HO.out.alloc _) (some ⟨wr.heap.size, 0, none⟩) 1 1 [nth l i] rfl (Sl.new_ wr _ _ _ rfl) rfl (by rw [List.length_take]; simp; omega) (by rw [List.length_take]; simp; omega) (by simp; omega) ?_; intro v4 w4 ho4 hg4 how4)
            have HO4 := Lib.hid (show Own .u8 5 w4 w.heap.size v4 ((turnL l s 2).take (i + 1)) by rw [take_snoc_nth _ i (by rw [turnL_len l s 2 HY.out]; exact hil), HTN2.out]; exact ho4)
            obtain ⟨A4, c4, rfl⟩ := own_form HO4.out
            have hlen : ((turnL l s 2).take (i + 1)).length = i + 1 := by rw [List.length_take, turnL_len l s 2 HY.out]; omega
            rw [hlen] at HO4
            have hb4 : Below w.heap.size w w4 := (HO.out.alloc (.cells #[.int .u8 (nth l i)] 5)).grown ((hb).alloc hz (.cells #[.int .u8 (nth l i)] 5)) (by simp; omega) hg4
            clear ho4 hg4 how4
            simp only [hlen]
            clear hlen
            go_wp2_with fail
            go_roundw
            case rel => exact ⟨i + 1, A4, c4, by omega, by go_num, rfl, HO4.out, hb4⟩
            case measure => simp [intOf]; omega

      · obtain rfl : i = l.length := by omega
        have HO6 := Lib.hid (show Own .u8 5 wr w.heap.size (.slice A' l.length c') (turnL l s o) by have h := HO.out; rw [List.take_of_length_le (by rw [turnL_len l s o HY.out]; omega)] at h; exact h)
        go_wp2_with fail
        go_ret
        exact ⟨_, _, rfl, HO6.out, hb⟩

  · rw [hz] at ht
    clear d3 hz hy hs hs4
    go_enter Try.func48, Try.ntmps48
    go_wp2_with (refine (rtop_any _ _).mono ?_; rintro e w1 ⟨rfl, rfl⟩)
    go_loopw [7, 8] (fun s7 s8 wr => ∃ (i : Nat) (A' : Option Addr) (c' : Nat), i ≤ l.length ∧ s8 = .int .i64 (i : Int) ∧ s7 = .slice A' i c' ∧ Own .u8 5 wr w.heap.size (.slice A' i c') ((turnL l s o).take i) ∧ Below w.heap.size w wr) (fun _ s8 _ => l.length - (intOf s8).toNat)
    case atStart => exact ⟨0, none, 0, by omega, rfl, rfl, Own.nil_ _ _ _ _, brefl w⟩
    case round =>
      obtain ⟨i, A', c', hi, rfl, rfl, ho, hb⟩ := hrel
      have HO := Lib.hid ho
      clear ho
      by_cases hil : i < l.length
      · have i1 : (i : Int) < (l.length : Int) := by omega
        have m0 : 0 ≤ (i : Int) % (s : Int) := Int.emod_nonneg _ (by omega)
        have m1 : (i : Int) % (s : Int) < (s : Int) := Int.emod_lt_of_pos _ (by omega)
        have m2 : (i : Int) % (s : Int) ≤ (i : Int) := by
          have h := Nat.mod_le i s
          rw [show (i : Int) % (s : Int) = ((i % s : Nat) : Int) from rfl]
          omega
        have n0 : 0 ≤ (l.length : Int) % (s : Int) := Int.emod_nonneg _ (by omega)
        have n1 : (l.length : Int) % (s : Int) < (s : Int) := Int.emod_lt_of_pos _ (by omega)
        obtain ⟨b, off, rfl, hlt, hcell⟩ := (HS.out.keep hb).at_ (by omega)
        have HK := Lib.hid hcell
        clear hcell
        have hz := hb.size
        have hnm : i - i % s + (s - 1 - i % s) = turnK i s := rfl
        have HTN := Lib.hid (turnL_nth l s o i HY.out hil)
        rcases horder with rfl | rfl
        · by_cases hk : i < l.length - l.length % s
          · have k1 : (i : Int) < (l.length : Int) - (l.length : Int) % (s : Int) := by
              rw [show (l.length : Int) % (s : Int) = ((l.length % s : Nat) : Int) from rfl]
              omega
            have hm : i % s ≤ i := Nat.mod_le i s
            have hm2 : i % s < s := Nat.mod_lt i (by omega)
            have hkl : turnK i s < l.length := turnK_lt i s l.length (by omega) hk
            have e1 : (i : Int) - (i : Int) % (s : Int) + (s : Int) - 1 - (i : Int) % (s : Int) = ((turnK i s : Nat) : Int) := by
              rw [show (i : Int) % (s : Int) = ((i % s : Nat) : Int) from rfl]
              unfold turnK
              omega
            have k0 := HK.out (turnK i s) hkl
            rw [show l.getD (turnK i s) 0 = nth l (turnK i s) from rfl] at k0
            have HTN2 := Lib.hid (show nth (turnL l s 1) i = nth l (turnK i s) by rw [HTN.out, if_pos ⟨rfl, hk⟩])
            generalize turnK i s = K at *
            clear hm hm2 HTN hk hnm
            go_wp2_with fail
            refine Tin.reg_begin 0 13 (by rfl) (by kernel_rfl) ?_
            refine Tin.reg_quiets [0, 1, 2, 3, 4, 5, 6, 7, 8, 9, 10, 11, 12] _ 0 rfl (by simp only [Tin.pick, List.map_cons, List.map_nil, Array.getD_eq_getD_getElem?, List.getElem?_toArray, List.getElem?_cons_zero, List.getElem?_cons_succ, Option.getD_some]; rfl) (by kernel_rfl) (by kernel_rfl) ?_
            repeat (first | go_big_quiet_step (fail))
            refine wpQuiet_nil ?_
            refine Tin.reg_done (by kernel_rfl) ?_
            go_wp2_with (at_builtin; refine Tin.wpl_app bt5 _ rfl (.tmp 57) (.tmp 62) rfl w.heap.size _ _ rfl (HO.out.drew.alloc _) (some ⟨wr.heap.size, 0, none⟩) 1 1 [nth l K] rfl (Sl.new_ wr.drew _ _ _ rfl) rfl (by rw [List.length_take]; simp; omega) (by rw [List.length_take]; simp; omega) (by simp; omega) ?_; intro v4 w4 ho4 hg4 how4)
            have HO4 := Lib.hid (show Own .u8 5 w4 w.heap.size v4 ((turnL l s 1).take (i + 1)) by rw [take_snoc_nth _ i (by rw [turnL_len l s 1 HY.out]; exact hil), HTN2.out]; exact ho4)
            obtain ⟨A4, c4, rfl⟩ := own_form HO4.out
            have hlen : ((turnL l s 1).take (i + 1)).length = i + 1 := by rw [List.length_take, turnL_len l s 1 HY.out]; omega
            rw [hlen] at HO4
            have hb4 : Below w.heap.size w w4 := (HO.out.drew.alloc (.cells #[.int .u8 (nth l K)] 5)).grown ((hb.drew).alloc hz (.cells #[.int .u8 (nth l K)] 5)) (by simp; omega) hg4
            clear ho4 hg4 how4
            simp only [hlen]
            clear hlen
            go_wp2_with fail
            go_roundw
            case rel => exact ⟨i + 1, A4, c4, by omega, by go_num, rfl, HO4.out, hb4⟩
            case measure => simp [intOf]; omega

          · have k1 : (l.length : Int) - (l.length : Int) % (s : Int) ≤ (i : Int) := by
              rw [show (l.length : Int) % (s : Int) = ((l.length % s : Nat) : Int) from rfl]
              omega
            have k2 : decide ((i : Int) < (l.length : Int) - (l.length : Int) % (s : Int)) = false := by simp; omega
            have k0 := HK.out i hil
            rw [show l.getD i 0 = nth l i from rfl] at k0
            have HTN2 := Lib.hid (show nth (turnL l s 1) i = nth l i by rw [HTN.out, if_neg (fun h => hk h.2)])
            clear HTN hk hnm
            go_wp2_with (at_builtin; refine Tin.wpl_app bt5 _ rfl (.tmp 57) (.tmp 62) rfl w.heap.size _ _ rfl (HO.out.alloc _) (some ⟨wr.heap.size, 0, none⟩) 1 1 [nth l i] rfl (Sl.new_ wr _ _ _ rfl) rfl (by rw [List.length_take]; simp; omega) (by rw [List.length_take]; simp; omega) (by simp; omega) ?_; intro v4 w4 ho4 hg4 how4)
            have HO4 := Lib.hid (show Own .u8 5 w4 w.heap.size v4 ((turnL l s 1).take (i + 1)) by rw [take_snoc_nth _ i (by rw [turnL_len l s 1 HY.out]; exact hil), HTN2.out]; exact ho4)
            obtain ⟨A4, c4, rfl⟩ := own_form HO4.out
            have hlen : ((turnL l s 1).take (i + 1)).length = i + 1 := by rw [List.length_take, turnL_len l s 1 HY.out]; omega
            rw [hlen] at HO4
            have hb4 : Below w.heap.size w w4 := (HO.out.alloc (.cells #[.int .u8 (nth l i)] 5)).grown ((hb).alloc hz (.cells #[.int .u8 (nth l i)] 5)) (by simp; omega) hg4
            clear ho4 hg4 how4
            simp only [hlen]
            clear hlen
            go_wp2_with fail
            go_roundw
            case rel => exact ⟨i + 1, A4, c4, by omega, by go_num, rfl, HO4.out, hb4⟩
            case measure => simp [intOf]; omega

        · have k0 := HK.out i hil
          rw [show l.getD i 0 = nth l i from rfl] at k0
          have HTN2 := Lib.hid (show nth (turnL l s 2) i = nth l i by rw [HTN.out, if_neg (fun h => by cases h.1)])
          clear HTN hnm
          · go_wp2_with (at_builtin; refine Tin.wpl_app bt5 _ rfl (.tmp 57) (.tmp 62) rfl w.heap.size _ _ rfl (HO.out.alloc _) (some ⟨wr.heap.size, 0, none⟩) 1 1 [nth l i] rfl (Sl.new_ wr _ _ _ rfl) rfl (by rw [List.length_take]; simp; omega) (by rw [List.length_take]; simp; omega) (by simp; omega) ?_; intro v4 w4 ho4 hg4 how4)
            have HO4 := Lib.hid (show Own .u8 5 w4 w.heap.size v4 ((turnL l s 2).take (i + 1)) by rw [take_snoc_nth _ i (by rw [turnL_len l s 2 HY.out]; exact hil), HTN2.out]; exact ho4)
            obtain ⟨A4, c4, rfl⟩ := own_form HO4.out
            have hlen : ((turnL l s 2).take (i + 1)).length = i + 1 := by rw [List.length_take, turnL_len l s 2 HY.out]; omega
            rw [hlen] at HO4
            have hb4 : Below w.heap.size w w4 := (HO.out.alloc (.cells #[.int .u8 (nth l i)] 5)).grown ((hb).alloc hz (.cells #[.int .u8 (nth l i)] 5)) (by simp; omega) hg4
            clear ho4 hg4 how4
            simp only [hlen]
            clear hlen
            go_wp2_with fail
            go_roundw
            case rel => exact ⟨i + 1, A4, c4, by omega, by go_num, rfl, HO4.out, hb4⟩
            case measure => simp [intOf]; omega

      · obtain rfl : i = l.length := by omega
        have HO6 := Lib.hid (show Own .u8 5 wr w.heap.size (.slice A' l.length c') (turnL l s o) by have h := HO.out; rw [List.take_of_length_le (by rw [turnL_len l s o HY.out]; omega)] at h; exact h)
        go_wp2_with fail
        go_ret
        exact ⟨_, _, rfl, HO6.out, hb⟩


theorem rturn_any (A : Option Addr) (l : List Int) (c : Nat) (s o : Int) (w : World) (hs : Sl .u8 w A l) (hl : l.length ≤ 1000000000) :
    Calls Try.prog 48 #[.slice A l.length c, .int .i64 s, .int .i64 o] w fun e w' => ∃ A' c', e = .returned (.slice A' (turnL l s o).length c') ∧ Own .u8 5 w' w.heap.size (.slice A' (turnL l s o).length c') (turnL l s o) ∧ Below w.heap.size w w' := by
  by_cases h : turnB s o = true
  · rw [turnL_len l s o h]
    obtain ⟨s, rfl⟩ := Int.eq_ofNat_of_zero_le (show 0 ≤ s by have := (turnB_t h).1; omega)
    exact rturn_yes A l c s o w hs hl h
  · have h' : turnB s o = false := by simpa using h
    have e : turnL l s o = [] := by unfold turnL; rw [if_neg h]
    rw [e]
    refine (rturn_no A l.length c s o w h').mono ?_
    rintro e w' ⟨rfl, hb⟩
    exact ⟨none, 0, rfl, Own.nil_ _ _ _ _, hb⟩
end Go.Proofs.Ytmdcdmgbillehaa
