/- The walk of OctetBack. -/
import Derived.Test.YtpjdhjkbfdmgpaaOcN
namespace Go.Proofs.Ytpjdhjkbfdmgpaa
open Go.RowKit
open Go.Tin
set_option linter.unusedVariables false
set_option linter.unusedSimpArgs false


theorem sp1 {n s : Int} (h : sgB n s = true) : plB (sgN n s) s = true ∧ plN (sgN n s) s = n := by
  have h2 := h
  unfold sgB at h2
  unfold sgN plN plB
  rw [if_pos h]
  rcases top4 s with e | e | e | e <;> rw [e] at h2 ⊢ <;> simp at h2 <;> (try omega)
  all_goals
    split
    · refine ⟨by simp; omega, ?_⟩
      rw [if_pos (by simp; omega), if_pos (by omega)]
      omega
    · refine ⟨by simp; omega, ?_⟩
      rw [if_pos (by simp; omega), if_neg (by omega)]
theorem sp2 {n s : Int} (h : plB n s = true) : sgB (plN n s) s = true ∧ sgN (plN n s) s = n := by
  have h2 := h
  unfold plB at h2
  unfold plN sgN sgB
  rw [if_pos h]
  rcases top4 s with e | e | e | e <;> rw [e] at h2 ⊢ <;> simp at h2 <;> (try omega)
  all_goals
    split
    · refine ⟨by simp; omega, ?_⟩
      rw [if_pos (by simp; omega), if_pos (by omega)]
      omega
    · refine ⟨by simp; omega, ?_⟩
      rw [if_pos (by simp; omega), if_neg (by omega)]
theorem putB_t {n s o : Int} (h : putB n s o = true) : (s = 1 ∨ s = 2 ∨ s = 4) ∧ (o = 1 ∨ o = 2) ∧ 0 ≤ n ∧ n < topI s := by
  unfold putB mayO at h
  simp only [Bool.and_eq_true, decide_eq_true_eq] at h
  exact ⟨szB_t h.1.1, orB_t h.1.2, h.2⟩
theorem be_bytes {n : Int} {s : Nat} (hs : s = 1 ∨ s = 2 ∨ s = 4) (n0 : 0 ≤ n) (n1 : n < topI s) : be (bytesOf s n) = n := by
  rcases hs with rfl | rfl | rfl
  · have : n < 256 := n1
    simp [bytesOf, be]; omega
  · have : n < 65536 := n1
    simp [bytesOf, be]; omega
  · have : n < 4294967296 := n1
    simp [bytesOf, be]; omega
theorem ordL_ordL (o : Int) (l : List Int) : ordL o (ordL o l) = l := by unfold ordL; split <;> simp
theorem getB_in (n a s : Nat) (o : Int) (hs : s = 1 ∨ s = 2 ∨ s = 4) (ho : o = 1 ∨ o = 2) (h : a + s ≤ n) : getB n a s o = true := by
  unfold getB mayO
  have h1 : szB s = true := by rcases hs with rfl | rfl | rfl <;> rfl
  have h2 : orB o = true := by rcases ho with rfl | rfl <;> rfl
  rw [h1, h2]
  simp
  omega
theorem get_put {n : Int} {s : Nat} {o : Int} (hy : putB n s o = true) (X Y : List Int) : getB (X ++ putL n s o ++ Y).length (X.length : Int) s o = true ∧ getN (X ++ putL n s o ++ Y) (X.length : Int) s o = n := by
  obtain ⟨hs, ho, n0, n1⟩ := putB_t hy
  have hP : putL n s o = ordL o (bytesOf s n) := by unfold putL; rw [if_pos hy]; rfl
  have hl : (putL n s o).length = s := by rw [hP, ordL_len, bytesOf_len]
  have hg : getB (X ++ putL n s o ++ Y).length (X.length : Int) s o = true := getB_in _ X.length s o (by omega) ho (by simp; omega)
  refine ⟨hg, ?_⟩
  unfold getN
  rw [if_pos hg]
  simp only [Int.toNat_natCast]
  rw [List.append_assoc, List.drop_left' rfl, List.take_left' hl, hP, ordL_ordL, be_bytes (by omega) n0 n1]
theorem put_turn {n : Int} {s : Nat} {o : Int} (hy : putB n s o = true) (i : Nat) (hi : i < s) : nth (putL n s o) i = nth (putL n s (3 - o)) (s - 1 - i) := by
  obtain ⟨hs, ho, n0, n1⟩ := putB_t hy
  have hy2 : putB n s (3 - o) = true := by
    unfold putB mayO at hy ⊢
    rcases ho with rfl | rfl <;> simpa [orB] using hy
  have hl := bytesOf_len s n
  unfold putL
  rw [if_pos hy, if_pos hy2]
  simp only [Int.toNat_natCast]
  rcases ho with rfl | rfl
  · unfold ordL
    rw [if_pos rfl, if_neg (by decide), rev_nth _ i (by omega), hl]
  · unfold ordL
    rw [if_neg (by decide), if_pos (by decide), rev_nth _ _ (by omega), hl]
    congr 1
    omega

set_option maxRecDepth 100000 in
set_option maxHeartbeats 4000000 in
theorem back_no (A A' : Option Addr) (l m : List Int) (c d : Nat) (n s o : Int) (w : World) (hl : l.length ≤ 200) (hm : m.length ≤ 200) (hno : putB n s o = false) :
    Calls Try.prog 5 #[.slice A l.length c, .slice A' m.length d, .int .i64 n, .int .i64 s, .int .i64 o] w fun e w' => e = .returned (.bool true) ∧ Below w.heap.size w w' := by
  have h1 : (l.length : Int) ≤ 200 := by omega
  have h2 : (m.length : Int) ≤ 200 := by omega
  have HN := Lib.hid hno
  have HS1 := Lib.hid (@sp1 n s)
  have HS2 := Lib.hid (@sp2 n s)
  clear hno
  cases hsg : sgB n s <;> cases hpl : plB n s
  all_goals
    go_enter Try.func5, Try.ntmps5
    go_wp2_with fail
    refine (put_no n s o w HN.out).mono ?_
    rintro e w1 ⟨rfl, hB⟩
    go_wp2_with fail
    refine (put_any n s _ w1).mono ?_
    rintro e w2 ⟨A2, c2, rfl, _, hb⟩
    replace hB := bt hB hb
    clear hb
    go_wp2_with fail
    refine (signed_any n s w2).mono ?_
    rw [hsg]
    rintro e w3 ⟨rfl, hb⟩
    replace hB := bt hB hb
    clear hb
    go_wp2_with fail
  ·
    refine (plain_any n s _).mono ?_
    rw [hpl]
    rintro e w5 ⟨rfl, hb⟩
    replace hB := bt hB hb
    clear hb
    go_wp2_with fail

    refine (awake_any _).mono ?_
    rintro e w7 ⟨rfl, hb⟩
    go_wp2_with fail
    go_ret
    exact ⟨rfl, bt hB hb⟩

  ·
    refine (plain_any n s _).mono ?_
    rw [hpl]
    rintro e w5 ⟨rfl, hb⟩
    replace hB := bt hB hb
    clear hb
    go_wp2_with fail

    refine (signed_any (plN n s) s _).mono ?_
    rw [(HS2.out hpl).1, (HS2.out hpl).2]
    rintro e w6 ⟨rfl, hb⟩
    replace hB := bt hB hb
    clear hb
    go_wp2_with fail

    refine (awake_any _).mono ?_
    rintro e w7 ⟨rfl, hb⟩
    go_wp2_with fail
    go_ret
    exact ⟨rfl, bt hB hb⟩

  ·
    refine (plain_any (sgN n s) s _).mono ?_
    rw [(HS1.out hsg).1, (HS1.out hsg).2]
    rintro e w4 ⟨rfl, hb⟩
    replace hB := bt hB hb
    clear hb
    go_wp2_with fail

    refine (plain_any n s _).mono ?_
    rw [hpl]
    rintro e w5 ⟨rfl, hb⟩
    replace hB := bt hB hb
    clear hb
    go_wp2_with fail

    refine (awake_any _).mono ?_
    rintro e w7 ⟨rfl, hb⟩
    go_wp2_with fail
    go_ret
    exact ⟨rfl, bt hB hb⟩

  ·
    refine (plain_any (sgN n s) s _).mono ?_
    rw [(HS1.out hsg).1, (HS1.out hsg).2]
    rintro e w4 ⟨rfl, hb⟩
    replace hB := bt hB hb
    clear hb
    go_wp2_with fail

    refine (plain_any n s _).mono ?_
    rw [hpl]
    rintro e w5 ⟨rfl, hb⟩
    replace hB := bt hB hb
    clear hb
    go_wp2_with fail

    refine (signed_any (plN n s) s _).mono ?_
    rw [(HS2.out hpl).1, (HS2.out hpl).2]
    rintro e w6 ⟨rfl, hb⟩
    replace hB := bt hB hb
    clear hb
    go_wp2_with fail

    refine (awake_any _).mono ?_
    rintro e w7 ⟨rfl, hb⟩
    go_wp2_with fail
    go_ret
    exact ⟨rfl, bt hB hb⟩
end Go.Proofs.Ytpjdhjkbfdmgpaa
