/- The contract of the reference of Put: a number's bytes. -/
import Derived.Test.YtmdcdmgbillehaaOcF
namespace Go.Proofs.Ytmdcdmgbillehaa
open Go.RowKit
open Go.Tin
set_option linter.unusedVariables false
set_option linter.unusedSimpArgs false


theorem ordL_step1 (i : Nat) (n m x : Int) (hm : m = n / 256 ^ i) (hx : x = m % 256) : ordL 1 (bytesOf i n) ++ [x] = ordL 1 (bytesOf (i + 1) n) := by
  subst hm; subst hx
  rw [bytesOf_cons]
  simp [ordL]
theorem ordL_step2 (i : Nat) (n m x : Int) (hm : m = n / 256 ^ i) (hx : x = m % 256) : [x] ++ ordL 2 (bytesOf i n) = ordL 2 (bytesOf (i + 1) n) := by
  subst hm; subst hx
  rw [bytesOf_cons]
  simp [ordL]
theorem div_step (n m : Int) (i : Nat) (hm : m = n / 256 ^ i) : m / 256 = n / 256 ^ (i + 1) := by
  subst hm
  rw [Int.ediv_ediv_of_nonneg (Int.le_of_lt (Int.pow_pos (by decide))), Int.pow_succ]
theorem ordL_len (o : Int) (l : List Int) : (ordL o l).length = l.length := by unfold ordL; split <;> simp

set_option maxRecDepth 100000 in
set_option maxHeartbeats 1000000 in
theorem rput_yes (n : Int) (s : Nat) (o : Int) (w : World) (hy : putB n s o = true) :
    Calls Try.prog 63 #[.int .i64 n, .int .i64 (s : Int), .int .i64 o] w fun e w' => ∃ A c, e = .returned (.tuple #[.slice A s c, .bool true]) ∧ Own .u8 5 w' w.heap.size (.slice A s c) (putL n s o) ∧ Below w.heap.size w w' := by
  have hy2 := hy
  unfold putB mayO at hy2
  simp only [Bool.and_eq_true, decide_eq_true_eq] at hy2
  obtain ⟨⟨hz, ho⟩, n0, n1⟩ := hy2
  have hs4 : s ≤ 4 ∧ 1 ≤ s := by have := szB_t hz; omega
  have htop := topI_pos hz
  have ho' := orB_t ho
  have HP := Lib.hid (show putL n s o = ordL o (bytesOf s n) by unfold putL; rw [if_pos hy]; rfl)
  have d0 : decide (n < 0) = false := by simpa using n0
  have d1 : decide (topI s ≤ n) = false := by simpa using n1
  have d2 : decide (o < 1) = false := by simp; omega
  have d3 : decide (2 < o) = false := by simp; omega
  have HT := Lib.hid (rtop_any s w)
  generalize topI s = T at *
  clear hy hz ho
  go_enter Try.func63, Try.ntmps63
  go_wp2_with fail
  refine HT.out.mono ?_
  rintro e w2 ⟨rfl, rfl⟩
  go_wp2_with fail
  go_loopw [0, 8, 9] (fun s0 s8 s9 wr => ∃ (i : Nat) (m : Int) (A : Option Addr) (c : Nat), i ≤ s ∧ s9 = .int .i64 (i : Int) ∧ s0 = .int .i64 m ∧ m = n / 256 ^ i ∧ 0 ≤ m ∧ m < 4294967296 ∧ s8 = .slice A i c ∧ Own .u8 5 wr w.heap.size (.slice A i c) (ordL o (bytesOf i n)) ∧ Below w.heap.size w wr) (fun _ _ s9 _ => s - (intOf s9).toNat)
  case atStart => exact ⟨0, n, none, 0, by omega, rfl, rfl, by simp, n0, by omega, rfl, by unfold bytesOf ordL; simp; exact Own.nil_ _ _ _ _, brefl w⟩
  case round =>
    obtain ⟨i, m, A, c, hi, rfl, rfl, hm, m0, m1, rfl, hown, hb⟩ := hrel
    by_cases his : i < s
    · have i1 : (i : Int) < (s : Int) := by omega
      have HM := Lib.hid hm
      have HO := Lib.hid hown
      have hL := Lib.hid (show (ordL o (bytesOf i n)).length = i by rw [ordL_len, bytesOf_len])
      have hz := hb.size
      clear hm hown
      have HD := Lib.hid (div_step n m i HM.out)
      have hN : (Sl .u8 (wr.alloc (.cells #[.int .u8 (m % 256)] 5)) (some ⟨wr.heap.size, 0, none⟩) [m % 256]) := Sl.new_ wr _ _ _ rfl
      have hN2 := Own.lit (k := .u8) (e := 5) wr #[.int .u8 (m % 256)] [m % 256] 1 rfl rfl (by simp [maxLen])
      have hS := HO.out.sl'.2
      have HN := Lib.hid hN
      have HN2 := Lib.hid hN2
      have HS := Lib.hid hS
      clear hN hN2 hS
      rcases ho' with rfl | rfl
      · go_wp2_with (at_builtin; refine Tin.wpl_app bt5 _ rfl (.tmp 39) (.tmp 41) rfl w.heap.size _ _ rfl (HO.out.alloc _) (some ⟨wr.heap.size, 0, none⟩) 1 1 [m % 256] rfl HN.out rfl (by rw [hL.out]; simp; omega) (by rw [hL.out]; simp; omega) (by simp; omega) ?_; intro v4 w4 ho4 hg4 how4)
        have HO4 := Lib.hid (show Own .u8 5 w4 w.heap.size v4 (ordL 1 (bytesOf (i + 1) n)) by rw [← ordL_step1 i n m _ HM.out rfl]; exact ho4)
        obtain ⟨A4, c4, rfl⟩ := own_form HO4.out
        rw [ordL_len, bytesOf_len] at HO4
        have hb4 := (HO.out.alloc _).grown (hb.alloc hz (.cells #[.int .u8 (m % 256)] 5)) (by simp; omega) hg4
        clear ho4 hg4 how4
        simp only [ordL_len, bytesOf_len]
        go_wp2_with fail
        go_roundw
        case rel => exact ⟨i + 1, m / 256, A4, c4, by omega, by go_num, rfl, HD.out, by omega, by omega, rfl, HO4.out, hb4⟩
        case measure => simp [intOf]; omega
      · go_wp2_with (at_builtin; refine Tin.wpl_app bt5 _ rfl (.tmp 44) (.tmp 45) rfl wr.heap.size _ _ rfl HN2.out A i c (ordL 2 (bytesOf i n)) rfl (HS.out.keep (ba (brefl wr) _)) hL.out.symm (by rw [hL.out]; simp; omega) (by rw [hL.out]; simp; omega) (by simp) ?_; intro v4 w4 ho4 hg4 how4)
        have HO4 := Lib.hid (show Own .u8 5 w4 w.heap.size v4 (ordL 2 (bytesOf (i + 1) n)) by rw [← ordL_step2 i n m _ HM.out rfl]; exact ho4.mono hz)
        obtain ⟨A4, c4, rfl⟩ := own_form HO4.out
        rw [ordL_len, bytesOf_len] at HO4
        have hb4 := (HN2.out.mono hz).grown (hb.alloc hz (.cells #[.int .u8 (m % 256)] 5)) (by simp; omega) hg4
        clear ho4 hg4 how4
        simp only [ordL_len, bytesOf_len]
        go_wp2_with fail
        go_roundw
        case rel => exact ⟨i + 1, m / 256, A4, c4, by omega, by go_num, rfl, HD.out, by omega, by omega, rfl, HO4.out, hb4⟩
        case measure => simp [intOf]; omega
    · obtain rfl : i = s := by omega
      have HO := Lib.hid hown
      clear hown
      rw [← HP.out] at HO
      go_wp2_with fail
      go_ret2
      exact ⟨A, c, rfl, HO.out, hb⟩

theorem putB_f {n s o : Int} (h : putB n s o = false) : orB o = false ∨ n < 0 ∨ topI s ≤ n := by
  unfold putB mayO at h
  cases h2 : orB o
  · exact .inl rfl
  · cases h1 : szB s
    · have := topI_no h1
      omega
    · rw [h1, h2] at h
      simp at h
      omega
set_option maxRecDepth 100000 in
theorem rput_no (n s o : Int) (w : World) (hno : putB n s o = false) :
    Calls Try.prog 63 #[.int .i64 n, .int .i64 s, .int .i64 o] w fun e w' => e = .returned (.tuple #[.slice none 0 0, .bool false]) ∧ Below w.heap.size w w' := by
  have hf := putB_f hno
  clear hno
  by_cases h1 : o < 1
  · have d1 : decide (o < 1) = true := by simpa using h1
    clear hf h1
    go_enter Try.func63, Try.ntmps63
    go_wp2_with fail
    go_ret2
    exact ⟨rfl, brefl _⟩
  have d1 : decide (o < 1) = false := by simpa using h1
  by_cases h2 : 2 < o
  · have d2 : decide (2 < o) = true := by simpa using h2
    clear hf h1 h2
    go_enter Try.func63, Try.ntmps63
    go_wp2_with fail
    go_ret2
    exact ⟨rfl, brefl _⟩
  have d2 : decide (2 < o) = false := by simpa using h2
  have hf' : n < 0 ∨ topI s ≤ n := by
    rcases hf with h | h
    · have := orB_f h; omega
    · exact h
  clear hf h1 h2
  by_cases h3 : n < 0
  · have d3 : decide (n < 0) = true := by simpa using h3
    clear hf' h3
    go_enter Try.func63, Try.ntmps63
    go_wp2_with fail
    go_ret2
    exact ⟨rfl, brefl _⟩
  · have d3 : decide (n < 0) = false := by simpa using h3
    have d4 : decide (topI s ≤ n) = true := by simp; omega
    clear hf' h3
    go_enter Try.func63, Try.ntmps63
    go_wp2_with fail
    refine (rtop_any s w).mono ?_
    rintro e w1 ⟨rfl, rfl⟩
    go_wp2_with fail
    go_ret2
    exact ⟨rfl, brefl _⟩

theorem rput_any (n s o : Int) (w : World) :
    Calls Try.prog 63 #[.int .i64 n, .int .i64 s, .int .i64 o] w fun e w' => ∃ A c, e = .returned (.tuple #[.slice A (putL n s o).length c, .bool (putB n s o)]) ∧ Own .u8 5 w' w.heap.size (.slice A (putL n s o).length c) (putL n s o) ∧ Below w.heap.size w w' := by
  by_cases h : putB n s o = true
  · have hz : szB s = true := by
      have h2 := h
      unfold putB mayO at h2
      simp only [Bool.and_eq_true] at h2
      exact h2.1.1
    obtain ⟨s, rfl⟩ := Int.eq_ofNat_of_zero_le (show 0 ≤ s by have := szB_t hz; omega)
    refine (rput_yes n s o w h).mono ?_
    rintro e w' ⟨A, c, rfl, ho, hb⟩
    have hl : (putL n s o).length = s := by
      unfold putL ordL
      rw [if_pos h]
      split <;> simp [bytesOf_len]
    rw [hl, h]
    exact ⟨A, c, rfl, ho, hb⟩
  · have h' : putB n s o = false := by simpa using h
    have hl : putL n s o = [] := by unfold putL; rw [if_neg h]
    refine (rput_no n s o w h').mono ?_
    rintro e w' ⟨rfl, hb⟩
    rw [hl, h']
    exact ⟨none, 0, rfl, Own.nil_ _ _ _ _, hb⟩
end Go.Proofs.Ytmdcdmgbillehaa
