/- The walk of OctetTurned. -/
import Derived.Test.YtpjdhjkbfdmgpaaOcN
import Derived.Test.YtpjdhjkbfdmgpaaOcR
namespace Go.Proofs.Ytpjdhjkbfdmgpaa
open Go.RowKit
open Go.Tin
set_option linter.unusedVariables false
set_option linter.unusedSimpArgs false


theorem turnK_twice (i s n : Nat) (hs : s = 1 ∨ s = 2 ∨ s = 4 ∨ s = 8) (h : i < n - n % s) : turnK i s < n - n % s ∧ turnK (turnK i s) s = i := by
  unfold turnK
  rcases hs with rfl | rfl | rfl | rfl <;> omega
theorem turn_turn (l : List Int) (s : Nat) (o : Int) (hy : turnB s o = true) : turnL (turnL l s o) s o = l := by
  have hlen := turnL_len l s o hy
  refine ext_nth (by rw [turnL_len _ s o hy, hlen]) fun i hi => ?_
  rw [turnL_len _ s o hy, hlen] at hi
  rw [turnL_nth _ s o i hy (by rw [hlen]; exact hi), hlen]
  by_cases h : o = 1 ∧ i < l.length - l.length % s
  · have hs := (turnB_t hy).1
    obtain ⟨h1, h2⟩ := turnK_twice i s l.length (by omega) h.2
    rw [if_pos h, turnL_nth l s o _ hy (by omega), if_pos ⟨h.1, h1⟩, h2]
  · rw [if_neg h, turnL_nth l s o i hy hi, if_neg h]
theorem turn_seg (l : List Int) (s a t : Nat) (o : Int) (hy : turnB s o = true) (hs4 : s ≤ 4) (ha : a = s * t) (hfit : a + s ≤ l.length) : segO (turnL l s o) a s 2 = segO l a s o := by
  have hlen := turnL_len l s o hy
  have hs := (turnB_t hy).1
  refine ext_nth (by rw [segO_len _ a s 2 (by omega), segO_len _ a s o hfit]) fun i hi => ?_
  rw [segO_len _ a s 2 (by omega)] at hi
  rw [segO_nth _ a s i 2 (by omega) hi, segO_nth l a s i o hfit hi, if_neg (by decide), turnL_nth l s o (a + i) hy (by omega)]
  have hm : a + i < l.length - l.length % s := by
    rcases (by omega : s = 1 ∨ s = 2 ∨ s = 4) with rfl | rfl | rfl <;> omega
  by_cases h1 : o = 1
  · rw [if_pos ⟨h1, hm⟩, if_pos h1]
    congr 1
    unfold turnK
    rcases (by omega : s = 1 ∨ s = 2 ∨ s = 4) with rfl | rfl | rfl <;> omega
  · rw [if_neg (fun h => h1 h.1), if_neg h1]
theorem Byts.turn {l : List Int} (h : Byts l) (s o : Int) : Byts (turnL l s o) := by
  intro x hx
  unfold turnL at hx
  split at hx
  · obtain ⟨i, _, rfl⟩ := List.mem_map.1 hx
    exact h.nth _
  · simp at hx

set_option maxRecDepth 100000 in
set_option maxHeartbeats 4000000 in
theorem turned_no (A : Option Addr) (l : List Int) (c : Nat) (s o : Int) (w : World) (hs : Sl .u8 w A l) (hl : l.length ≤ 300) (hno : turnB s o = false) :
    Calls Try.prog 6 #[.slice A l.length c, .int .i64 s, .int .i64 o] w fun e w' => e = .returned (.bool true) ∧ Below w.heap.size w w' := by
  have h3 : (l.length : Int) ≤ 300 := by omega
  have HT := Lib.hid (turn_no A l.length c s o w hno)
  by_cases hz : s = 1 ∨ s = 2 ∨ s = 4 ∨ s = 8
  · have ho : orB o = false := by
      unfold turnB at hno
      rcases hz with rfl | rfl | rfl | rfl <;> simpa [szB] using hno
    obtain ⟨o1, o2⟩ := orB_f ho
    have d1 : (o != 1) = true := by simpa using o1
    have d2 : (o != 2) = true := by simpa using o2
    clear ho o1 o2 hno hs
    rcases hz with rfl | rfl | rfl | rfl
    all_goals
      go_enter Try.func6, Try.ntmps6
      go_wp2_with fail
      refine HT.out.mono ?_
      rintro e w1 ⟨rfl, hb⟩
      go_wp2_with fail
      refine (awake_any w1).mono ?_
      rintro e w2 ⟨rfl, hb2⟩
      go_wp2_with fail
      go_ret
      exact ⟨rfl, bt hb hb2⟩
  · have d1 : (s != 1) = true := by simp; omega
    have d2 : (s != 2) = true := by simp; omega
    have d3 : (s != 4) = true := by simp; omega
    have d4 : (s != 8) = true := by simp; omega
    clear hz hno hs
    go_enter Try.func6, Try.ntmps6
    go_wp2_with fail
    refine HT.out.mono ?_
    rintro e w1 ⟨rfl, hb⟩
    go_wp2_with fail
    refine (awake_any w1).mono ?_
    rintro e w2 ⟨rfl, hb2⟩
    go_wp2_with fail
    go_ret
    exact ⟨rfl, bt hb hb2⟩

set_option maxRecDepth 100000 in
set_option maxHeartbeats 4000000 in
theorem turned_1 (A : Option Addr) (l : List Int) (c : Nat) (o : Int) (w : World) (hs : Sl .u8 w A l) (hby : Byts l) (hl : l.length ≤ 300) (ho : o = 1 ∨ o = 2) (hy : turnB 1 o = true) :
    Calls Try.prog 6 #[.slice A l.length c, .int .i64 1, .int .i64 o] w fun e w' => e = .returned (.bool true) ∧ Below w.heap.size w w' := by
  have h3 : (l.length : Int) ≤ 300 := by omega
  have hlen := turnL_len l 1 o hy
  have HTT := Lib.hid (turn_turn l 1 o hy)
  have HTS := Lib.hid (fun (h4 : 1 ≤ 4) a t ha hf => turn_seg l 1 a t o hy h4 ha hf)
  have HT := Lib.hid (turn_any A l c 1 o w hs (by omega))
  have HS := Lib.hid hs
  have HB := Lib.hid hby
  have HTB := Lib.hid (hby.turn 1 o)
  have HY := Lib.hid hy
  clear hs hby hy
  rw [hlen] at HT
  simp only [Int.cast_ofNat_Int] at HTT HTS
  have HT2 := Lib.hid (fun B d W (hS : Sl .u8 W B (turnL l 1 o)) => turn_any B (turnL l 1 o) d 1 o W hS (by omega))
  rw [HTT.out, hlen] at HT2
  generalize turnL l 1 o = q at *
  have HL := Lib.hid hlen
  clear hlen
  have hcases : (o != 1) = false ∨ ((o != 1) = true ∧ (o != 2) = false) := by rcases ho with rfl | rfl <;> decide
  rcases hcases with e1 | ⟨e1, e2⟩
  all_goals
    go_enter Try.func6, Try.ntmps6
    go_wp2_with fail
    refine HT.out.mono ?_
    rintro e w1 ⟨A1, c1, rfl, ho1, hB⟩
    have S1 := Lib.hid ho1.sl'.2
    clear ho1
    go_wp2_with fail
    refine (HT2.out A1 c1 w1 S1.out).mono ?_
    rintro e w2 ⟨A2, c2, rfl, ho2, hC⟩
    have S2 := Lib.hid ho2.sl'.2
    clear ho2
    go_wp2_with fail
    refine (same_any A2 A l l c2 c w2 S2.out (HS.out.keep (bt hB hC)) (by omega) (by omega)).mono ?_
    rw [show decide (l = l) = true by simp]
    rintro e w3 ⟨rfl, hb⟩
    replace hC := bt hC hb
    clear hb S2
    go_wp2_with fail
    replace hB := bt hB hC
    replace S1 := Lib.hid (S1.out.keep hC)
    replace HS := Lib.hid (HS.out.keep hB)
    clear hC
    go_loopw [8] (fun s8 wr => ∃ a t : Nat, a = 1 * t ∧ a ≤ l.length ∧ s8 = .int .i64 (a : Int) ∧ Below w3.heap.size w3 wr) (fun s8 _ => l.length - (intOf s8).toNat)
    case atStart => exact ⟨0, 0, by omega, by omega, rfl, brefl w3⟩
    case round =>
      obtain ⟨a, t, hat, hal, rfl, hb⟩ := hrel
      have HA := Lib.hid hat
      clear hat
      by_cases hf : a + 1 ≤ l.length
      · have a0 : (a : Int) + 1 ≤ (l.length : Int) := by omega
        go_wp2_with fail
        refine (get_any A l c (a : Int) 1 _ wr (HS.out.keep hb) (by omega) HB.out).mono ?_
        have HG1 := getB_in l.length a 1 o (by omega) (by omega) hf
        have HG2 := getB_in l.length a 1 2 (by omega) (by omega) hf
        simp only [Int.cast_ofNat_Int] at HG1 HG2
        have HE := Lib.hid (show getN q a 1 2 = getN l a 1 o by
          unfold getN
          rw [HL.out, if_pos HG1, if_pos HG2]
          exact congrArg be (HTS.out (by omega) a t HA.out hf))
        rw [HG1]
        rintro e w5 ⟨rfl, hb5⟩
        go_wp2_with fail
        have hg := get_any A1 q c1 (a : Int) 1 2 w5 (S1.out.keep (bt hb hb5)) (by rw [HL.out]; omega) HTB.out
        rw [HL.out, HG2, HE.out] at hg
        refine hg.mono ?_
        clear hg HG1 HG2 HE
        rintro e w6 ⟨rfl, hb6⟩
        replace hb := bt (bt hb hb5) hb6
        clear hb5 hb6
        have HA6 := Lib.hid (show a + 1 = 1 * (t + 1) by rw [HA.out, Nat.mul_add, Nat.mul_one])
        go_wp2_with fail
        go_roundw
        case rel => exact ⟨a + 1, t + 1, HA6.out, hf, by go_num, hb⟩
        case measure => simp [intOf]; omega
      · have a0 : (l.length : Int) < (a : Int) + 1 := by omega
        have a1 : decide ((a : Int) + 1 ≤ (l.length : Int)) = false := by simp; omega
        go_wp2_with fail
        refine (awake_any wr).mono ?_
        rintro e w6 ⟨rfl, hb6⟩
        go_wp2_with fail
        go_ret
        exact ⟨rfl, bt (bt hB hb) hb6⟩


set_option maxRecDepth 100000 in
set_option maxHeartbeats 4000000 in
theorem turned_2 (A : Option Addr) (l : List Int) (c : Nat) (o : Int) (w : World) (hs : Sl .u8 w A l) (hby : Byts l) (hl : l.length ≤ 300) (ho : o = 1 ∨ o = 2) (hy : turnB 2 o = true) :
    Calls Try.prog 6 #[.slice A l.length c, .int .i64 2, .int .i64 o] w fun e w' => e = .returned (.bool true) ∧ Below w.heap.size w w' := by
  have h3 : (l.length : Int) ≤ 300 := by omega
  have hlen := turnL_len l 2 o hy
  have HTT := Lib.hid (turn_turn l 2 o hy)
  have HTS := Lib.hid (fun (h4 : 2 ≤ 4) a t ha hf => turn_seg l 2 a t o hy h4 ha hf)
  have HT := Lib.hid (turn_any A l c 2 o w hs (by omega))
  have HS := Lib.hid hs
  have HB := Lib.hid hby
  have HTB := Lib.hid (hby.turn 2 o)
  have HY := Lib.hid hy
  clear hs hby hy
  rw [hlen] at HT
  simp only [Int.cast_ofNat_Int] at HTT HTS
  have HT2 := Lib.hid (fun B d W (hS : Sl .u8 W B (turnL l 2 o)) => turn_any B (turnL l 2 o) d 2 o W hS (by omega))
  rw [HTT.out, hlen] at HT2
  generalize turnL l 2 o = q at *
  have HL := Lib.hid hlen
  clear hlen
  have hcases : (o != 1) = false ∨ ((o != 1) = true ∧ (o != 2) = false) := by rcases ho with rfl | rfl <;> decide
  rcases hcases with e1 | ⟨e1, e2⟩
  all_goals
    go_enter Try.func6, Try.ntmps6
    go_wp2_with fail
    refine HT.out.mono ?_
    rintro e w1 ⟨A1, c1, rfl, ho1, hB⟩
    have S1 := Lib.hid ho1.sl'.2
    clear ho1
    go_wp2_with fail
    refine (HT2.out A1 c1 w1 S1.out).mono ?_
    rintro e w2 ⟨A2, c2, rfl, ho2, hC⟩
    have S2 := Lib.hid ho2.sl'.2
    clear ho2
    go_wp2_with fail
    refine (same_any A2 A l l c2 c w2 S2.out (HS.out.keep (bt hB hC)) (by omega) (by omega)).mono ?_
    rw [show decide (l = l) = true by simp]
    rintro e w3 ⟨rfl, hb⟩
    replace hC := bt hC hb
    clear hb S2
    go_wp2_with fail
    replace hB := bt hB hC
    replace S1 := Lib.hid (S1.out.keep hC)
    replace HS := Lib.hid (HS.out.keep hB)
    clear hC
    go_loopw [8] (fun s8 wr => ∃ a t : Nat, a = 2 * t ∧ a ≤ l.length ∧ s8 = .int .i64 (a : Int) ∧ Below w3.heap.size w3 wr) (fun s8 _ => l.length - (intOf s8).toNat)
    case atStart => exact ⟨0, 0, by omega, by omega, rfl, brefl w3⟩
    case round =>
      obtain ⟨a, t, hat, hal, rfl, hb⟩ := hrel
      have HA := Lib.hid hat
      clear hat
      by_cases hf : a + 2 ≤ l.length
      · have a0 : (a : Int) + 2 ≤ (l.length : Int) := by omega
        go_wp2_with fail
        refine (get_any A l c (a : Int) 2 _ wr (HS.out.keep hb) (by omega) HB.out).mono ?_
        have HG1 := getB_in l.length a 2 o (by omega) (by omega) hf
        have HG2 := getB_in l.length a 2 2 (by omega) (by omega) hf
        simp only [Int.cast_ofNat_Int] at HG1 HG2
        have HE := Lib.hid (show getN q a 2 2 = getN l a 2 o by
          unfold getN
          rw [HL.out, if_pos HG1, if_pos HG2]
          exact congrArg be (HTS.out (by omega) a t HA.out hf))
        rw [HG1]
        rintro e w5 ⟨rfl, hb5⟩
        go_wp2_with fail
        have hg := get_any A1 q c1 (a : Int) 2 2 w5 (S1.out.keep (bt hb hb5)) (by rw [HL.out]; omega) HTB.out
        rw [HL.out, HG2, HE.out] at hg
        refine hg.mono ?_
        clear hg HG1 HG2 HE
        rintro e w6 ⟨rfl, hb6⟩
        replace hb := bt (bt hb hb5) hb6
        clear hb5 hb6
        have HA6 := Lib.hid (show a + 2 = 2 * (t + 1) by rw [HA.out, Nat.mul_add, Nat.mul_one])
        go_wp2_with fail
        go_roundw
        case rel => exact ⟨a + 2, t + 1, HA6.out, hf, by go_num, hb⟩
        case measure => simp [intOf]; omega
      · have a0 : (l.length : Int) < (a : Int) + 2 := by omega
        have a1 : decide ((a : Int) + 2 ≤ (l.length : Int)) = false := by simp; omega
        go_wp2_with fail
        refine (awake_any wr).mono ?_
        rintro e w6 ⟨rfl, hb6⟩
        go_wp2_with fail
        go_ret
        exact ⟨rfl, bt (bt hB hb) hb6⟩


set_option maxRecDepth 100000 in
set_option maxHeartbeats 4000000 in
theorem turned_4 (A : Option Addr) (l : List Int) (c : Nat) (o : Int) (w : World) (hs : Sl .u8 w A l) (hby : Byts l) (hl : l.length ≤ 300) (ho : o = 1 ∨ o = 2) (hy : turnB 4 o = true) :
    Calls Try.prog 6 #[.slice A l.length c, .int .i64 4, .int .i64 o] w fun e w' => e = .returned (.bool true) ∧ Below w.heap.size w w' := by
  have h3 : (l.length : Int) ≤ 300 := by omega
  have hlen := turnL_len l 4 o hy
  have HTT := Lib.hid (turn_turn l 4 o hy)
  have HTS := Lib.hid (fun (h4 : 4 ≤ 4) a t ha hf => turn_seg l 4 a t o hy h4 ha hf)
  have HT := Lib.hid (turn_any A l c 4 o w hs (by omega))
  have HS := Lib.hid hs
  have HB := Lib.hid hby
  have HTB := Lib.hid (hby.turn 4 o)
  have HY := Lib.hid hy
  clear hs hby hy
  rw [hlen] at HT
  simp only [Int.cast_ofNat_Int] at HTT HTS
  have HT2 := Lib.hid (fun B d W (hS : Sl .u8 W B (turnL l 4 o)) => turn_any B (turnL l 4 o) d 4 o W hS (by omega))
  rw [HTT.out, hlen] at HT2
  generalize turnL l 4 o = q at *
  have HL := Lib.hid hlen
  clear hlen
  have hcases : (o != 1) = false ∨ ((o != 1) = true ∧ (o != 2) = false) := by rcases ho with rfl | rfl <;> decide
  rcases hcases with e1 | ⟨e1, e2⟩
  all_goals
    go_enter Try.func6, Try.ntmps6
    go_wp2_with fail
    refine HT.out.mono ?_
    rintro e w1 ⟨A1, c1, rfl, ho1, hB⟩
    have S1 := Lib.hid ho1.sl'.2
    clear ho1
    go_wp2_with fail
    refine (HT2.out A1 c1 w1 S1.out).mono ?_
    rintro e w2 ⟨A2, c2, rfl, ho2, hC⟩
    have S2 := Lib.hid ho2.sl'.2
    clear ho2
    go_wp2_with fail
    refine (same_any A2 A l l c2 c w2 S2.out (HS.out.keep (bt hB hC)) (by omega) (by omega)).mono ?_
    rw [show decide (l = l) = true by simp]
    rintro e w3 ⟨rfl, hb⟩
    replace hC := bt hC hb
    clear hb S2
    go_wp2_with fail
    replace hB := bt hB hC
    replace S1 := Lib.hid (S1.out.keep hC)
    replace HS := Lib.hid (HS.out.keep hB)
    clear hC
    go_loopw [8] (fun s8 wr => ∃ a t : Nat, a = 4 * t ∧ a ≤ l.length ∧ s8 = .int .i64 (a : Int) ∧ Below w3.heap.size w3 wr) (fun s8 _ => l.length - (intOf s8).toNat)
    case atStart => exact ⟨0, 0, by omega, by omega, rfl, brefl w3⟩
    case round =>
      obtain ⟨a, t, hat, hal, rfl, hb⟩ := hrel
      have HA := Lib.hid hat
      clear hat
      by_cases hf : a + 4 ≤ l.length
      · have a0 : (a : Int) + 4 ≤ (l.length : Int) := by omega
        go_wp2_with fail
        refine (get_any A l c (a : Int) 4 _ wr (HS.out.keep hb) (by omega) HB.out).mono ?_
        have HG1 := getB_in l.length a 4 o (by omega) (by omega) hf
        have HG2 := getB_in l.length a 4 2 (by omega) (by omega) hf
        simp only [Int.cast_ofNat_Int] at HG1 HG2
        have HE := Lib.hid (show getN q a 4 2 = getN l a 4 o by
          unfold getN
          rw [HL.out, if_pos HG1, if_pos HG2]
          exact congrArg be (HTS.out (by omega) a t HA.out hf))
        rw [HG1]
        rintro e w5 ⟨rfl, hb5⟩
        go_wp2_with fail
        have hg := get_any A1 q c1 (a : Int) 4 2 w5 (S1.out.keep (bt hb hb5)) (by rw [HL.out]; omega) HTB.out
        rw [HL.out, HG2, HE.out] at hg
        refine hg.mono ?_
        clear hg HG1 HG2 HE
        rintro e w6 ⟨rfl, hb6⟩
        replace hb := bt (bt hb hb5) hb6
        clear hb5 hb6
        have HA6 := Lib.hid (show a + 4 = 4 * (t + 1) by rw [HA.out, Nat.mul_add, Nat.mul_one])
        go_wp2_with fail
        go_roundw
        case rel => exact ⟨a + 4, t + 1, HA6.out, hf, by go_num, hb⟩
        case measure => simp [intOf]; omega
      · have a0 : (l.length : Int) < (a : Int) + 4 := by omega
        have a1 : decide ((a : Int) + 4 ≤ (l.length : Int)) = false := by simp; omega
        go_wp2_with fail
        refine (awake_any wr).mono ?_
        rintro e w6 ⟨rfl, hb6⟩
        go_wp2_with fail
        go_ret
        exact ⟨rfl, bt (bt hB hb) hb6⟩


set_option maxRecDepth 100000 in
set_option maxHeartbeats 4000000 in
theorem turned_8 (A : Option Addr) (l : List Int) (c : Nat) (o : Int) (w : World) (hs : Sl .u8 w A l) (hby : Byts l) (hl : l.length ≤ 300) (ho : o = 1 ∨ o = 2) (hy : turnB 8 o = true) :
    Calls Try.prog 6 #[.slice A l.length c, .int .i64 8, .int .i64 o] w fun e w' => e = .returned (.bool true) ∧ Below w.heap.size w w' := by
  have h3 : (l.length : Int) ≤ 300 := by omega
  have hlen := turnL_len l 8 o hy
  have HTT := Lib.hid (turn_turn l 8 o hy)
  have HTS := Lib.hid (fun (h4 : 8 ≤ 4) a t ha hf => turn_seg l 8 a t o hy h4 ha hf)
  have HT := Lib.hid (turn_any A l c 8 o w hs (by omega))
  have HS := Lib.hid hs
  have HB := Lib.hid hby
  have HTB := Lib.hid (hby.turn 8 o)
  have HY := Lib.hid hy
  clear hs hby hy
  rw [hlen] at HT
  simp only [Int.cast_ofNat_Int] at HTT HTS
  have HT2 := Lib.hid (fun B d W (hS : Sl .u8 W B (turnL l 8 o)) => turn_any B (turnL l 8 o) d 8 o W hS (by omega))
  rw [HTT.out, hlen] at HT2
  generalize turnL l 8 o = q at *
  have HL := Lib.hid hlen
  clear hlen
  have hcases : (o != 1) = false ∨ ((o != 1) = true ∧ (o != 2) = false) := by rcases ho with rfl | rfl <;> decide
  rcases hcases with e1 | ⟨e1, e2⟩
  all_goals
    go_enter Try.func6, Try.ntmps6
    go_wp2_with fail
    refine HT.out.mono ?_
    rintro e w1 ⟨A1, c1, rfl, ho1, hB⟩
    have S1 := Lib.hid ho1.sl'.2
    clear ho1
    go_wp2_with fail
    refine (HT2.out A1 c1 w1 S1.out).mono ?_
    rintro e w2 ⟨A2, c2, rfl, ho2, hC⟩
    have S2 := Lib.hid ho2.sl'.2
    clear ho2
    go_wp2_with fail
    refine (same_any A2 A l l c2 c w2 S2.out (HS.out.keep (bt hB hC)) (by omega) (by omega)).mono ?_
    rw [show decide (l = l) = true by simp]
    rintro e w3 ⟨rfl, hb⟩
    replace hC := bt hC hb
    clear hb S2
    go_wp2_with fail
    go_loopw [8] (fun s8 wr => s8 = .int .i64 0 ∧ wr = w3) (fun s8 _ => 0)
    case atStart => exact ⟨rfl, rfl⟩
    case round =>
      obtain ⟨rfl, rfl⟩ := hrel
      go_wp2_with fail
      refine (awake_any _).mono ?_
      rintro e w6 ⟨rfl, hb6⟩
      go_wp2_with fail
      go_ret
      exact ⟨rfl, bt (bt hB hC) hb6⟩


set_option maxRecDepth 100000 in
theorem turned_any (A : Option Addr) (len cap : Nat) (zs : List Int) (s o : Int) (w : World) (hr : IsRow .u8 w A len cap zs) (wsz : (Lit.int .i64 s).wf = true) (wo : (Lit.int .i64 o).wf = true) :
    Calls Try.prog 6 #[.slice A len cap, .int .i64 s, .int .i64 o] w fun e w' => e = .returned (.bool true) ∧ Below w.heap.size w w' := by
  obtain ⟨hs, hlen, hlc, hcm, hwf⟩ := Sl.of_row hr
  have hby := byts_wf hwf
  generalize zs.take len = l at *
  subst hlen
  clear hwf hr hlc wsz wo
  unfold maxLen at hcm
  by_cases h300 : 300 < l.length
  · have h3 : (300 : Int) < (l.length : Int) := by omega
    clear hs hby
    go_enter Try.func6, Try.ntmps6
    go_wp2_with fail
    refine (awake_any w).mono ?_
    rintro e w1 ⟨rfl, hb⟩
    go_wp2_with fail
    go_ret
    exact ⟨rfl, hb⟩
  · by_cases h : turnB s o = true
    · obtain ⟨hz, ho⟩ := turnB_t h
      rcases hz with rfl | rfl | rfl | rfl
      · exact turned_1 A l cap o w hs hby (by omega) ho h
      · exact turned_2 A l cap o w hs hby (by omega) ho h
      · exact turned_4 A l cap o w hs hby (by omega) ho h
      · exact turned_8 A l cap o w hs hby (by omega) ho h
    · exact turned_no A l cap s o w hs (by omega) (by simpa using h)
end Go.Proofs.Ytpjdhjkbfdmgpaa
