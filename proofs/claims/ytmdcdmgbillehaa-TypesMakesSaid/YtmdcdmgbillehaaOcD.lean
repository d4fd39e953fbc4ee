/- The contract of the reference of Get: the number in bytes. -/
import Derived.Test.YtmdcdmgbillehaaOcC
namespace Go.Proofs.Ytmdcdmgbillehaa
open Go.RowKit
open Go.Tin
set_option linter.unusedVariables false
set_option linter.unusedSimpArgs false


theorem be_acc : ∀ (t : List Int) (n : Int), t.foldl (fun n x => 256 * n + x) n = n * 256 ^ t.length + t.foldl (fun n x => 256 * n + x) 0
  | [], n => by simp
  | x :: t, n => by
    rw [List.foldl_cons, List.foldl_cons, be_acc t (256 * n + x), be_acc t (256 * 0 + x), List.length_cons, Int.pow_succ, Int.add_mul, Int.add_mul]
    have : 256 * n * 256 ^ t.length = n * (256 ^ t.length * 256) := by rw [Int.mul_comm 256 n, Int.mul_assoc, Int.mul_comm 256]
    omega
theorem be_cons (x : Int) (t : List Int) : be (x :: t) = x * 256 ^ t.length + be t := by
  unfold be
  rw [List.foldl_cons, be_acc]
  simp
theorem be_drop (q : List Int) (i : Nat) (h : i < q.length) : be (q.drop (q.length - (i + 1))) = be (q.drop (q.length - i)) + 256 ^ i * nth q (q.length - 1 - i) := by
  have e : q.length - (i + 1) = q.length - 1 - i := by omega
  rw [e, List.drop_eq_getElem_cons (by omega : q.length - 1 - i < q.length), be_cons, List.length_drop, show q.length - 1 - i + 1 = q.length - i by omega, show q.length - (q.length - i) = i by omega]
  have : nth q (q.length - 1 - i) = q[q.length - 1 - i]'(by omega) := by simp [nth, List.getD_eq_getElem?_getD, show q.length - 1 - i < q.length by omega]
  rw [this, Int.mul_comm, Int.add_comm]
theorem pw256 (i : Nat) (hi : i ≤ 4) : 1 ≤ (256 : Int) ^ i ∧ (256 : Int) ^ i ≤ 4294967296 := by
  rcases (by omega : i = 0 ∨ i = 1 ∨ i = 2 ∨ i = 3 ∨ i = 4) with rfl | rfl | rfl | rfl | rfl <;> decide

theorem getB_f {n : Nat} {a s o : Int} (h : getB n a s o = false) : szB s = false ∨ orB o = false ∨ a < 0 ∨ (n : Int) - s < a := by
  unfold getB mayO at h
  cases h1 : szB s
  · exact .inl rfl
  · cases h2 : orB o
    · exact .inr (.inl rfl)
    · rw [h1, h2] at h
      simp at h
      omega
theorem topI_eq0 (s : Int) : (topI s == 0) = !szB s := by
  cases h : szB s
  · rw [topI_no h]; rfl
  · have := topI_pos h
    simp; omega

set_option maxRecDepth 100000 in
set_option maxHeartbeats 1000000 in
theorem rget_no (A : Option Addr) (n c : Nat) (a s o : Int) (w : World) (hn : n ≤ 1000000000) (hno : getB n a s o = false) :
    Calls Try.prog 72 #[.slice A n c, .int .i64 a, .int .i64 s, .int .i64 o] w fun e w' => e = .returned (.tuple #[.int .i64 0, .bool false]) ∧ Below w.heap.size w w' := by
  have hf := getB_f hno
  have ht := topI_eq0 s
  clear hno
  cases hz : szB s
  · rw [hz] at ht
    clear hf
    go_enter Try.func72, Try.ntmps72
    go_wp2_with fail
    refine (rtop_any s w).mono ?_
    rintro e w1 ⟨rfl, rfl⟩
    go_wp2_with fail
    go_ret2
    exact ⟨rfl, brefl _⟩
  · rw [hz] at ht
    have hs := szB_t hz
    have s0 : 0 ≤ s := by omega
    have s1 : s ≤ 4 := by omega
    clear hs
    by_cases h1 : o < 1
    · have d1 : decide (o < 1) = true := by simpa using h1
      clear hf h1 hz
      go_enter Try.func72, Try.ntmps72
      go_wp2_with fail
      refine (rtop_any s w).mono ?_
      rintro e w1 ⟨rfl, rfl⟩
      go_wp2_with fail
      go_ret2
      exact ⟨rfl, brefl _⟩
    by_cases h2 : 2 < o
    · have d1 : decide (o < 1) = false := by simpa using h1
      have d2 : decide (2 < o) = true := by simpa using h2
      clear hf h1 hz h2
      go_enter Try.func72, Try.ntmps72
      go_wp2_with fail
      refine (rtop_any s w).mono ?_
      rintro e w1 ⟨rfl, rfl⟩
      go_wp2_with fail
      go_ret2
      exact ⟨rfl, brefl _⟩
    have d1 : decide (o < 1) = false := by simpa using h1
    have d2 : decide (2 < o) = false := by simpa using h2
    have hf' : a < 0 ∨ (n : Int) - s < a := by
      rcases hf with h | h | h
      · rw [hz] at h; cases h
      · have := orB_f h; omega
      · exact h
    clear hf h1 h2
    by_cases h3 : a < 0
    · have d3 : decide (a < 0) = true := by simpa using h3
      clear hf' hz h3
      go_enter Try.func72, Try.ntmps72
      go_wp2_with fail
      refine (rtop_any s w).mono ?_
      rintro e w1 ⟨rfl, rfl⟩
      go_wp2_with fail
      go_ret2
      exact ⟨rfl, brefl _⟩
    have d3 : decide (a < 0) = false := by simpa using h3
    by_cases h4 : (n : Int) < a
    · have d4 : decide ((n : Int) < a) = true := by simpa using h4
      clear hf' hz h3 h4
      go_enter Try.func72, Try.ntmps72
      go_wp2_with fail
      refine (rtop_any s w).mono ?_
      rintro e w1 ⟨rfl, rfl⟩
      go_wp2_with fail
      go_ret2
      exact ⟨rfl, brefl _⟩
    · have d4 : decide ((n : Int) < a) = false := by simpa using h4
      have d5 : decide ((n : Int) - a < s) = true := by simp; omega
      have a0 : 0 ≤ a := by omega
      have a1 : a ≤ n := by omega
      clear hf' hz h3 h4
      go_enter Try.func72, Try.ntmps72
      go_wp2_with fail
      refine (rtop_any s w).mono ?_
      rintro e w1 ⟨rfl, rfl⟩
      go_wp2_with fail
      go_ret2
      exact ⟨rfl, brefl _⟩

set_option maxRecDepth 100000 in
set_option maxHeartbeats 1000000 in
theorem rget_yes (A : Option Addr) (l : List Int) (c : Nat) (a s : Nat) (o : Int) (w : World) (hs : Sl .u8 w A l) (hl : l.length ≤ 1000000000) (hby : Byts l) (hy : getB l.length a s o = true) :
    Calls Try.prog 72 #[.slice A l.length c, .int .i64 (a : Int), .int .i64 (s : Int), .int .i64 o] w fun e w' => e = .returned (.tuple #[.int .i64 (be (segO l a s o)), .bool true]) ∧ Below w.heap.size w w' := by
  obtain ⟨hz, ho, a0, a1⟩ := getB_t hy
  have ht := topI_eq0 s
  rw [hz] at ht
  have hs4 : s ≤ 4 ∧ 1 ≤ s := by have := szB_t hz; omega
  have hfit : a + s ≤ l.length := by omega
  have ho' := orB_t ho
  have d1 : decide (o < 1) = false := by simp; omega
  have d2 : decide (2 < o) = false := by simp; omega
  have d4 : decide (l.length < a) = false := by simp; omega
  have d5 : decide ((l.length : Int) - (a : Int) < (s : Int)) = false := by simp; omega
  have HSL := Lib.hid (segO_len l a s o hfit)
  have HSN := Lib.hid (fun i hi => segO_nth l a s i o hfit hi)
  have HBS := Lib.hid (hby.seg a s o)
  have HS := Lib.hid hs
  have HB := Lib.hid hby
  generalize segO l a s o = q at *
  clear hs hby hz ho hy
  go_enter Try.func72, Try.ntmps72
  go_wp2_with fail
  refine (rtop_any s w).mono ?_
  rintro e w1 ⟨rfl, rfl⟩
  go_wp2_with fail
  go_loop [10, 11, 12] (fun s10 s11 s12 => ∃ (i : Nat) (p : Int), i ≤ s ∧ s12 = .int .i64 (i : Int) ∧ s11 = .int .i64 p ∧ p = 256 ^ i ∧ s10 = .int .i64 (be (q.drop (s - i)))) (fun _ _ s12 => s - (intOf s12).toNat)
  case atStart => exact ⟨0, 1, by omega, rfl, rfl, rfl, by rw [List.drop_of_length_le (by rw [HSL.out]; omega)]; rfl⟩
  case round =>
    obtain ⟨i, p, hi, rfl, rfl, hp, rfl⟩ := hrel
    by_cases his : i < s
    · have i1 : (i : Int) < (s : Int) := by omega
      obtain ⟨b, off, rfl, hlt, hcell⟩ := HS.out.at_ (by omega)
      obtain ⟨n0, n1, n2⟩ := be_top (HBS.out.drop (s - i)) (show (q.drop (s - i)).length ≤ i by rw [List.length_drop, HSL.out]; omega) (by omega)
      have hst := be_drop q i (by rw [HSL.out]; exact his)
      rw [HSL.out] at hst
      have hx := HSN.out (s - 1 - i) (by omega)
      rw [hx, ← hp] at hst
      have hpb := pw256 i (by omega)
      rw [← hp] at hpb
      have HP := Lib.hid (show (256 : Int) * p = 256 ^ (i + 1) by rw [hp, Int.pow_succ, Int.mul_comm])
      obtain ⟨p0, p1⟩ := hpb
      rcases ho' with rfl | rfl
      · rw [if_pos rfl, show a + s - 1 - (s - 1 - i) = a + i by omega] at hst
        have k0 := hcell (a + i) (by omega)
        rw [show l.getD (a + i) 0 = nth l (a + i) from rfl] at k0
        have b0 := HB.out.nth (a + i)
        have m0 : 0 ≤ p * nth l (a + i) := Int.mul_nonneg (by omega) b0.1
        have m1 : p * nth l (a + i) ≤ 4294967296 * 256 := Int.mul_le_mul p1 (by omega) b0.1 (by omega)
        have HST := Lib.hid hst
        clear hst hx hcell n2 hp
        go_wp2_with fail
        go_round
        case rel => exact ⟨i + 1, 256 * p, by omega, by go_num, rfl, HP.out, by rw [HST.out]⟩
        case measure => simp [intOf]; omega
      · rw [if_neg (by decide), show a + (s - 1 - i) = a + s - 1 - i by omega] at hst
        have k0 := hcell (a + s - 1 - i) (by omega)
        rw [show l.getD (a + s - 1 - i) 0 = nth l (a + s - 1 - i) from rfl] at k0
        have e1 : (a : Int) + (s : Int) - 1 - (i : Int) = ((a + s - 1 - i : Nat) : Int) := by omega
        have b0 := HB.out.nth (a + s - 1 - i)
        have m0 : 0 ≤ p * nth l (a + s - 1 - i) := Int.mul_nonneg (by omega) b0.1
        have m1 : p * nth l (a + s - 1 - i) ≤ 4294967296 * 256 := Int.mul_le_mul p1 (by omega) b0.1 (by omega)
        have HST := Lib.hid hst
        clear hst hx hcell n2 hp
        go_wp2_with fail
        go_round
        case rel => exact ⟨i + 1, 256 * p, by omega, by go_num, rfl, HP.out, by rw [HST.out]⟩
        case measure => simp [intOf]; omega
    · obtain rfl : i = s := by omega
      go_wp2_with fail
      go_ret2
      exact ⟨ret_ib (by simp) rfl, brefl _⟩

theorem rget_any (A : Option Addr) (l : List Int) (c : Nat) (a s o : Int) (w : World) (hs : Sl .u8 w A l) (hl : l.length ≤ 1000000000) (hby : Byts l) :
    Calls Try.prog 72 #[.slice A l.length c, .int .i64 a, .int .i64 s, .int .i64 o] w fun e w' => e = .returned (.tuple #[.int .i64 (getN l a s o), .bool (getB l.length a s o)]) ∧ Below w.heap.size w w' := by
  by_cases h : getB l.length a s o = true
  · obtain ⟨hz, ho, a0, a1⟩ := getB_t h
    obtain ⟨a, rfl⟩ := Int.eq_ofNat_of_zero_le a0
    obtain ⟨s, rfl⟩ := Int.eq_ofNat_of_zero_le (show 0 ≤ s by have := szB_t hz; omega)
    refine (rget_yes A l c a s o w hs hl hby h).mono ?_
    rintro e w' ⟨rfl, hb⟩
    exact ⟨ret_ib (by unfold getN; rw [if_pos h]; rfl) h.symm, hb⟩
  · have h' : getB l.length a s o = false := by simpa using h
    refine (rget_no A l.length c a s o w hl h').mono ?_
    rintro e w' ⟨rfl, hb⟩
    exact ⟨ret_ib (by unfold getN; rw [if_neg h]) h'.symm, hb⟩
end Go.Proofs.Ytmdcdmgbillehaa
