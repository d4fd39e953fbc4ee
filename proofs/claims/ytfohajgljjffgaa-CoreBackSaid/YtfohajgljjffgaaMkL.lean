/- Whether segments may be: parts. -/
import Derived.Test.YtfohajgljjffgaaMkK
namespace Go.Proofs.Ytfohajgljjffgaa
open Go.RowKit
open Go.Tin
set_option linter.unusedVariables false
set_option linter.unusedSimpArgs false


def bareB (s : Sg) (m : Int) : Bool := s.m == m && decide (s.d.length + s.s.length = 0)
def rightB (s : Sg) : Bool := hdB s.m && (decide (s.d.length ≤ 65533) && (decide (s.s.length = 0) || (s.m == 218 && decide (scL s.s = s.s.length))))
abbrev sgA (m : Int) (A : Option Addr) (n c : Nat) (B : Option Addr) (k e : Nat) : Value := .agg #[.int .i64 m, .slice A n c, .slice B k e]
theorem bare_any (m k : Int) (A B : Option Addr) (n c p e : Nat) (w : World) (hn : n ≤ 1000000000) (hp : p ≤ 1000000000) :
    Calls Try.prog 50 #[sgA m A n c B p e, .int .i64 k] w fun en w' => en = .returned (.bool (m == k && decide (n + p = 0))) ∧ Below w.heap.size w w' := by
  obtain ⟨R0, hvb, hvz⟩ := alloc1 w (.cells (srow m A n c B p e) 36)
  have k0 := row_cell (v := .int .i64 m) R0 0 rfl
  have k1 := row_cell (v := .slice A n c) R0 1 rfl
  have k2 := row_cell (v := .slice B p e) R0 2 rfl
  have HB := Lib.hid hvb
  clear R0 hvb hvz
  by_cases hm : m = k
  · subst hm
    by_cases hz : n + p = 0
    · have hn0 : n = 0 := by omega
      have hp0 : p = 0 := by omega
      subst hn0; subst hp0
      clear hz
      go_enter Try.func50, Try.ntmps50
      go_wp2_with fail
      go_ret
      exact ⟨ret_bool (by simp), HB.out⟩
    · have d1 : ((n : Int) + (p : Int) == 0) = false := by rw [beq_eq_false_iff_ne]; omega
      have HZ := Lib.hid hz
      clear hz
      go_enter Try.func50, Try.ntmps50
      go_wp2_with fail
      go_ret
      exact ⟨ret_bool (by rw [decide_eq_false HZ.out]; simp), HB.out⟩
  · have d0 : (m == k) = false := by simpa using hm
    clear hm
    go_enter Try.func50, Try.ntmps50
    go_wp2_with fail
    go_ret
    exact ⟨ret_bool (by first | rfl | simp [d0]), HB.out⟩
set_option maxRecDepth 100000 in
set_option maxHeartbeats 8000000 in
theorem right_any (m : Int) (A B : Option Addr) (d s : List Int) (c e : Nat) (w : World) (hd : d.length ≤ 1000000) (hs : Sl .u8 w B s) (hsl : s.length ≤ 1000000) (hby : Byts s) :
    Calls Try.prog 52 #[sgA m A d.length c B s.length e] w fun en w' => en = .returned (.bool (rightB ⟨m, d, s⟩)) ∧ Below w.heap.size w w' := by
  obtain ⟨R0, hvb, hvz⟩ := alloc1 w (.cells (srow m A d.length c B s.length e) 36)
  have HR := Lib.hid (show rightB ⟨m, d, s⟩ = (hdB m && (decide (d.length ≤ 65533) && (decide (s.length = 0) || (m == 218 && decide (scL s = s.length))))) from rfl)
  obtain ⟨W, hW⟩ : ∃ W, W = (w.alloc (.cells (srow m A d.length c B s.length e) 36)).drew := ⟨_, rfl⟩
  have HB := Lib.hid (show Below w.heap.size w W by rw [hW]; exact ud' hvb)
  have HSZ : w.heap.size + 1 ≤ W.heap.size := by rw [hW]; show w.heap.size + 1 ≤ (w.alloc _).heap.size; omega
  have R := Lib.hid (show W.heap[w.heap.size]? = some (.cells (srow m A d.length c B s.length e) 36 (0, 0)) by rw [hW]; exact R0)
  have HS := Lib.hid (hs.keep HB.out)
  have HY := Lib.hid hby
  clear R0 hvb hvz hs hby
  have k0 : ∀ p : Bel (w.heap.size + 1) W, p.w'.cell? ⟨w.heap.size, 0, none⟩ = some (.int .i64 m) := fun p => row_cell ((p.h.block _ (by omega)).trans R.out) 0 rfl
  have k1 : ∀ p : Bel (w.heap.size + 1) W, p.w'.cell? ⟨w.heap.size, 1, none⟩ = some (.slice A d.length c) := fun p => row_cell ((p.h.block _ (by omega)).trans R.out) 1 rfl
  have k2 : ∀ p : Bel (w.heap.size + 1) W, p.w'.cell? ⟨w.heap.size, 2, none⟩ = some (.slice B s.length e) := fun p => row_cell ((p.h.block _ (by omega)).trans R.out) 2 rfl
  go_enter Try.func52, Try.ntmps52
  go_wp2_with fail
  refine Tin.reg_begin (w.heap.size + 1) 30 (by rfl) (by kernel_rfl) ?_
  rw [← hW]
  clear hW
  cases hh : hdB m with
  | false =>
    have HH := Lib.hid hh
    clear hh
    refine Tin.reg_quiets [0, 1] _ 28 rfl (by simp only [Tin.pick, List.map_cons, List.map_nil, Array.getD_eq_getD_getElem?, List.getElem?_toArray, List.getElem?_cons_zero, List.getElem?_cons_succ, Option.getD_some]; rfl) (by kernel_rfl) (by kernel_rfl) ?_
    repeat (first | go_big_quiet_step (fail))
    refine wpQuiet_nil ?_
    refine Tin.reg_one 2 _ rfl (by kernel_rfl) ?_
    try simp only [List.getElem_toArray, List.getElem_cons_succ, List.getElem_cons_zero]
    go_wp2_with fail
    refine (hd_any m _).mono ?_
    rintro en w2 ⟨rfl, rfl⟩
    rw [HH.out]
    go_wp2_with fail
    refine ⟨w.heap.size + 1, Below.refl _ _, Nat.le_refl _, ?_⟩
    refine Tin.reg_quiets [3, 4, 5, 6, 7, 8, 9, 10, 11, 12, 13, 14, 15, 16, 17, 18, 19, 20, 22, 23, 24] _ 6 rfl (by simp only [Tin.pick, List.map_cons, List.map_nil, Array.getD_eq_getD_getElem?, List.getElem?_toArray, List.getElem?_cons_zero, List.getElem?_cons_succ, Option.getD_some]; rfl) (by kernel_rfl) (by kernel_rfl) ?_
    repeat (first | go_big_quiet_step (fail))
    refine wpQuiet_nil ?_
    refine Tin.reg_one 21 _ rfl (by kernel_rfl) ?_
    try simp only [List.getElem_toArray, List.getElem_cons_succ, List.getElem_cons_zero]
    go_wp2_with fail
    refine ⟨w.heap.size + 1, Below.refl _ _, Nat.le_refl _, ?_⟩
    have HB3 := HB
    refine Tin.reg_quiets [25, 26, 27, 28, 29] _ 0 rfl (by simp only [Tin.pick, List.map_cons, List.map_nil, Array.getD_eq_getD_getElem?, List.getElem?_toArray, List.getElem?_cons_zero, List.getElem?_cons_succ, Option.getD_some]; rfl) (by kernel_rfl) (by kernel_rfl) ?_
    repeat (first | go_big_quiet_step (fail))
    refine wpQuiet_nil ?_
    refine Tin.reg_done (by kernel_rfl) ?_
    go_wp2_with fail
    go_ret
    exact ⟨ret_bool (by rw [HR.out, HH.out]; rfl), HB3.out⟩
  | true =>
    have HH := Lib.hid hh
    clear hh
    by_cases h1 : d.length ≤ 65533
    case neg =>
      have d1 : decide ((d.length : Int) ≤ 65533) = false := decide_eq_false (by omega)
      have H1 := Lib.hid h1
      clear h1
      refine Tin.reg_quiets [0, 1] _ 28 rfl (by simp only [Tin.pick, List.map_cons, List.map_nil, Array.getD_eq_getD_getElem?, List.getElem?_toArray, List.getElem?_cons_zero, List.getElem?_cons_succ, Option.getD_some]; rfl) (by kernel_rfl) (by kernel_rfl) ?_
      repeat (first | go_big_quiet_step (fail))
      refine wpQuiet_nil ?_
      refine Tin.reg_one 2 _ rfl (by kernel_rfl) ?_
      try simp only [List.getElem_toArray, List.getElem_cons_succ, List.getElem_cons_zero]
      go_wp2_with fail
      refine (hd_any m _).mono ?_
      rintro en w2 ⟨rfl, rfl⟩
      rw [HH.out]
      go_wp2_with fail
      refine ⟨w.heap.size + 1, Below.refl _ _, Nat.le_refl _, ?_⟩
      refine Tin.reg_quiets [3, 4, 5, 6, 7, 8, 9, 10, 11, 12, 13, 14, 15, 16, 17, 18, 19, 20, 22, 23, 24] _ 6 rfl (by simp only [Tin.pick, List.map_cons, List.map_nil, Array.getD_eq_getD_getElem?, List.getElem?_toArray, List.getElem?_cons_zero, List.getElem?_cons_succ, Option.getD_some]; rfl) (by kernel_rfl) (by kernel_rfl) ?_
      repeat (first | go_big_quiet_step (fail))
      refine wpQuiet_nil ?_
      refine Tin.reg_one 21 _ rfl (by kernel_rfl) ?_
      try simp only [List.getElem_toArray, List.getElem_cons_succ, List.getElem_cons_zero]
      go_wp2_with fail
      refine ⟨w.heap.size + 1, Below.refl _ _, Nat.le_refl _, ?_⟩
      have HB3 := HB
      refine Tin.reg_quiets [25, 26, 27, 28, 29] _ 0 rfl (by simp only [Tin.pick, List.map_cons, List.map_nil, Array.getD_eq_getD_getElem?, List.getElem?_toArray, List.getElem?_cons_zero, List.getElem?_cons_succ, Option.getD_some]; rfl) (by kernel_rfl) (by kernel_rfl) ?_
      repeat (first | go_big_quiet_step (fail))
      refine wpQuiet_nil ?_
      refine Tin.reg_done (by kernel_rfl) ?_
      go_wp2_with fail
      go_ret
      exact ⟨ret_bool (by rw [HR.out, HH.out, decide_eq_false H1.out]; rfl), HB3.out⟩
    have d1 : decide ((d.length : Int) ≤ 65533) = true := decide_eq_true (by omega)
    have H1 := Lib.hid h1
    clear h1
    by_cases h2 : s.length = 0
    · have d2 : ((s.length : Int) == 0) = true := by rw [h2]; rfl
      have H2 := Lib.hid h2
      clear h2
      refine Tin.reg_quiets [0, 1] _ 28 rfl (by simp only [Tin.pick, List.map_cons, List.map_nil, Array.getD_eq_getD_getElem?, List.getElem?_toArray, List.getElem?_cons_zero, List.getElem?_cons_succ, Option.getD_some]; rfl) (by kernel_rfl) (by kernel_rfl) ?_
      repeat (first | go_big_quiet_step (fail))
      refine wpQuiet_nil ?_
      refine Tin.reg_one 2 _ rfl (by kernel_rfl) ?_
      try simp only [List.getElem_toArray, List.getElem_cons_succ, List.getElem_cons_zero]
      go_wp2_with fail
      refine (hd_any m _).mono ?_
      rintro en w2 ⟨rfl, rfl⟩
      rw [HH.out]
      go_wp2_with fail
      refine ⟨w.heap.size + 1, Below.refl _ _, Nat.le_refl _, ?_⟩
      refine Tin.reg_quiets [3, 4, 5, 6, 7, 8, 9, 10, 11, 12, 13, 14, 15, 16, 17, 18, 19, 20, 22, 23, 24] _ 6 rfl (by simp only [Tin.pick, List.map_cons, List.map_nil, Array.getD_eq_getD_getElem?, List.getElem?_toArray, List.getElem?_cons_zero, List.getElem?_cons_succ, Option.getD_some]; rfl) (by kernel_rfl) (by kernel_rfl) ?_
      repeat (first | go_big_quiet_step (fail))
      refine wpQuiet_nil ?_
      refine Tin.reg_one 21 _ rfl (by kernel_rfl) ?_
      try simp only [List.getElem_toArray, List.getElem_cons_succ, List.getElem_cons_zero]
      go_wp2_with fail
      refine ⟨w.heap.size + 1, Below.refl _ _, Nat.le_refl _, ?_⟩
      have HB3 := HB
      refine Tin.reg_quiets [25, 26, 27, 28, 29] _ 0 rfl (by simp only [Tin.pick, List.map_cons, List.map_nil, Array.getD_eq_getD_getElem?, List.getElem?_toArray, List.getElem?_cons_zero, List.getElem?_cons_succ, Option.getD_some]; rfl) (by kernel_rfl) (by kernel_rfl) ?_
      repeat (first | go_big_quiet_step (fail))
      refine wpQuiet_nil ?_
      refine Tin.reg_done (by kernel_rfl) ?_
      go_wp2_with fail
      go_ret
      exact ⟨ret_bool (by rw [HR.out, HH.out, decide_eq_true H1.out, decide_eq_true H2.out]; rfl), HB3.out⟩
    have d2 : ((s.length : Int) == 0) = false := by rw [beq_eq_false_iff_ne]; omega
    have H2 := Lib.hid h2
    clear h2
    by_cases h3 : m = 218
    case neg =>
      have d3 : (m == 218) = false := by simpa using h3
      clear h3
      refine Tin.reg_quiets [0, 1] _ 28 rfl (by simp only [Tin.pick, List.map_cons, List.map_nil, Array.getD_eq_getD_getElem?, List.getElem?_toArray, List.getElem?_cons_zero, List.getElem?_cons_succ, Option.getD_some]; rfl) (by kernel_rfl) (by kernel_rfl) ?_
      repeat (first | go_big_quiet_step (fail))
      refine wpQuiet_nil ?_
      refine Tin.reg_one 2 _ rfl (by kernel_rfl) ?_
      try simp only [List.getElem_toArray, List.getElem_cons_succ, List.getElem_cons_zero]
      go_wp2_with fail
      refine (hd_any m _).mono ?_
      rintro en w2 ⟨rfl, rfl⟩
      rw [HH.out]
      go_wp2_with fail
      refine ⟨w.heap.size + 1, Below.refl _ _, Nat.le_refl _, ?_⟩
      refine Tin.reg_quiets [3, 4, 5, 6, 7, 8, 9, 10, 11, 12, 13, 14, 15, 16, 17, 18, 19, 20, 22, 23, 24] _ 6 rfl (by simp only [Tin.pick, List.map_cons, List.map_nil, Array.getD_eq_getD_getElem?, List.getElem?_toArray, List.getElem?_cons_zero, List.getElem?_cons_succ, Option.getD_some]; rfl) (by kernel_rfl) (by kernel_rfl) ?_
      repeat (first | go_big_quiet_step (fail))
      refine wpQuiet_nil ?_
      refine Tin.reg_one 21 _ rfl (by kernel_rfl) ?_
      try simp only [List.getElem_toArray, List.getElem_cons_succ, List.getElem_cons_zero]
      go_wp2_with fail
      refine ⟨w.heap.size + 1, Below.refl _ _, Nat.le_refl _, ?_⟩
      have HB3 := HB
      refine Tin.reg_quiets [25, 26, 27, 28, 29] _ 0 rfl (by simp only [Tin.pick, List.map_cons, List.map_nil, Array.getD_eq_getD_getElem?, List.getElem?_toArray, List.getElem?_cons_zero, List.getElem?_cons_succ, Option.getD_some]; rfl) (by kernel_rfl) (by kernel_rfl) ?_
      repeat (first | go_big_quiet_step (fail))
      refine wpQuiet_nil ?_
      refine Tin.reg_done (by kernel_rfl) ?_
      go_wp2_with fail
      go_ret
      exact ⟨ret_bool (by rw [HR.out, HH.out, decide_eq_true H1.out, decide_eq_false H2.out, d3]; rfl), HB3.out⟩
    have d3 : (m == 218) = true := by simpa using h3
    clear h3
    by_cases h4 : scL s = s.length
    · have H4 := Lib.hid h4
      clear h4
      refine Tin.reg_quiets [0, 1] _ 28 rfl (by simp only [Tin.pick, List.map_cons, List.map_nil, Array.getD_eq_getD_getElem?, List.getElem?_toArray, List.getElem?_cons_zero, List.getElem?_cons_succ, Option.getD_some]; rfl) (by kernel_rfl) (by kernel_rfl) ?_
      repeat (first | go_big_quiet_step (fail))
      refine wpQuiet_nil ?_
      refine Tin.reg_one 2 _ rfl (by kernel_rfl) ?_
      try simp only [List.getElem_toArray, List.getElem_cons_succ, List.getElem_cons_zero]
      go_wp2_with fail
      refine (hd_any m _).mono ?_
      rintro en w2 ⟨rfl, rfl⟩
      rw [HH.out]
      go_wp2_with fail
      refine ⟨w.heap.size + 1, Below.refl _ _, Nat.le_refl _, ?_⟩
      refine Tin.reg_quiets [3, 4, 5, 6, 7, 8, 9, 10, 11, 12, 13, 14, 15, 16, 17, 18, 19, 20, 22, 23, 24] _ 6 rfl (by simp only [Tin.pick, List.map_cons, List.map_nil, Array.getD_eq_getD_getElem?, List.getElem?_toArray, List.getElem?_cons_zero, List.getElem?_cons_succ, Option.getD_some]; rfl) (by kernel_rfl) (by kernel_rfl) ?_
      repeat (first | go_big_quiet_step (fail))
      refine wpQuiet_nil ?_
      refine Tin.reg_one 21 _ rfl (by kernel_rfl) ?_
      try simp only [List.getElem_toArray, List.getElem_cons_succ, List.getElem_cons_zero]
      go_wp2_with fail
      refine (scan_any B s _ _ HS.out (by omega) HY.out).mono ?_
      rintro en w3 ⟨rfl, hb3⟩
      rw [H4.out]
      go_wp2_with fail
      refine ⟨w.heap.size + 1, hb3.mono HSZ, Nat.le_refl _, ?_⟩
      have HB3 := Lib.hid (HB.out.trans (hb3.mono HB.out.size))
      clear hb3
      refine Tin.reg_quiets [25, 26, 27, 28, 29] _ 0 rfl (by simp only [Tin.pick, List.map_cons, List.map_nil, Array.getD_eq_getD_getElem?, List.getElem?_toArray, List.getElem?_cons_zero, List.getElem?_cons_succ, Option.getD_some]; rfl) (by kernel_rfl) (by kernel_rfl) ?_
      repeat (first | go_big_quiet_step (fail))
      refine wpQuiet_nil ?_
      refine Tin.reg_done (by kernel_rfl) ?_
      go_wp2_with fail
      go_ret
      exact ⟨ret_bool (by rw [HR.out, HH.out, decide_eq_true H1.out, decide_eq_false H2.out, d3, decide_eq_true H4.out]; rfl), HB3.out⟩
    have d4 : ((scL s : Int) == (s.length : Int)) = false := by rw [beq_eq_false_iff_ne]; omega
    have H4 := Lib.hid h4
    clear h4
    refine Tin.reg_quiets [0, 1] _ 28 rfl (by simp only [Tin.pick, List.map_cons, List.map_nil, Array.getD_eq_getD_getElem?, List.getElem?_toArray, List.getElem?_cons_zero, List.getElem?_cons_succ, Option.getD_some]; rfl) (by kernel_rfl) (by kernel_rfl) ?_
    repeat (first | go_big_quiet_step (fail))
    refine wpQuiet_nil ?_
    refine Tin.reg_one 2 _ rfl (by kernel_rfl) ?_
    try simp only [List.getElem_toArray, List.getElem_cons_succ, List.getElem_cons_zero]
    go_wp2_with fail
    refine (hd_any m _).mono ?_
    rintro en w2 ⟨rfl, rfl⟩
    rw [HH.out]
    go_wp2_with fail
    refine ⟨w.heap.size + 1, Below.refl _ _, Nat.le_refl _, ?_⟩
    refine Tin.reg_quiets [3, 4, 5, 6, 7, 8, 9, 10, 11, 12, 13, 14, 15, 16, 17, 18, 19, 20, 22, 23, 24] _ 6 rfl (by simp only [Tin.pick, List.map_cons, List.map_nil, Array.getD_eq_getD_getElem?, List.getElem?_toArray, List.getElem?_cons_zero, List.getElem?_cons_succ, Option.getD_some]; rfl) (by kernel_rfl) (by kernel_rfl) ?_
    repeat (first | go_big_quiet_step (fail))
    refine wpQuiet_nil ?_
    refine Tin.reg_one 21 _ rfl (by kernel_rfl) ?_
    try simp only [List.getElem_toArray, List.getElem_cons_succ, List.getElem_cons_zero]
    go_wp2_with fail
    refine (scan_any B s _ _ HS.out (by omega) HY.out).mono ?_
    rintro en w3 ⟨rfl, hb3⟩
    go_wp2_with fail
    refine ⟨w.heap.size + 1, hb3.mono HSZ, Nat.le_refl _, ?_⟩
    have HB3 := Lib.hid (HB.out.trans (hb3.mono HB.out.size))
    clear hb3
    refine Tin.reg_quiets [25, 26, 27, 28, 29] _ 0 rfl (by simp only [Tin.pick, List.map_cons, List.map_nil, Array.getD_eq_getD_getElem?, List.getElem?_toArray, List.getElem?_cons_zero, List.getElem?_cons_succ, Option.getD_some]; rfl) (by kernel_rfl) (by kernel_rfl) ?_
    repeat (first | go_big_quiet_step (fail))
    refine wpQuiet_nil ?_
    refine Tin.reg_done (by kernel_rfl) ?_
    go_wp2_with fail
    go_ret
    exact ⟨ret_bool (by rw [HR.out, HH.out, decide_eq_true H1.out, decide_eq_false H2.out, d3, decide_eq_false H4.out]; rfl), HB3.out⟩

theorem mayf_any (m : Int) (A B : Option Addr) (d s : List Int) (c e : Nat) (w : World) (hd : d.length ≤ 1000000) (hs : Sl .u8 w B s) (hsl : s.length ≤ 1000000) (hby : Byts s) :
    Calls Try.prog 51 #[sgA m A d.length c B s.length e] w fun en w' => en = .returned (.bool (!rightB ⟨m, d, s⟩)) ∧ Below w.heap.size w w' := by
  obtain ⟨R0, hvb, hvz⟩ := alloc1 w (.cells (srow m A d.length c B s.length e) 36)
  have HB := Lib.hid hvb
  have R := Lib.hid R0
  have HS := Lib.hid (hs.keep hvb)
  have HY := Lib.hid hby
  clear hs hby R0 hvb hvz
  go_enter Try.func51, Try.ntmps51
  go_wp2_with ((with_reducible refine wpl_load_row rtS ?_ (.tmp 1) ?_ (w.heap.size) ?_ 36 (srow m A d.length c B s.length e) ?_ R.out ?_); rfl; rfl; rfl; rfl; simp only [Act.put, List.setIfInBounds_toArray, List.set_cons_succ, List.set_cons_zero])
  refine (right_any m A B d s c e _ hd HS.out hsl HY.out).mono ?_
  rintro en w2 ⟨rfl, hb⟩
  go_wp2_with fail
  go_ret
  exact ⟨rfl, HB.out.trans (hb.mono HB.out.size)⟩
theorem any_atG (p : Sg → Bool) {L : List Sg} {i : Nat} {x : Sg} (h : L[i]? = some x) (hp : p x = true) : L.any p = true := List.any_eq_true.2 ⟨x, List.mem_of_getElem? h, hp⟩
theorem any_notG (p : Sg → Bool) {L : List Sg} (h : (L.take L.length).any p = false) : L.any p = false := by rwa [List.take_length] at h
set_option maxRecDepth 100000 in
set_option maxHeartbeats 4000000 in
theorem index_any (F : FuncId) (hf : ∀ (vs : Array Value) (W : World), (callFunc F vs).run Try.prog W = .ok (.enter F vs) W) (q : Sg → Bool) (A : Option Addr) (c : Nat) (L : List Sg) (w : World) (hs : SegS w A L) (hn : L.length ≤ 1000000)
    (hq : ∀ (m : Int) (A1 A2 : Option Addr) (d s : List Int) (c1 c2 : Nat) (W : World), PtS W (.slice A1 d.length c1) d → PtS W (.slice A2 s.length c2) s → Calls Try.prog F #[sgA m A1 d.length c1 A2 s.length c2] W fun e w' => e = .returned (.bool (q ⟨m, d, s⟩)) ∧ Below W.heap.size W w') :
    Calls Try.prog 41 #[.slice A L.length c, .func (.func F) #[] #[]] w fun e w' => ∃ r : Int, e = .returned (.int .i64 r) ∧ decide (0 ≤ r) = L.any q ∧ Below w.heap.size w w' := by
  have HS := Lib.hid hs
  have HQ := Lib.hid hq
  clear hs hq
  go_enter Try.func41, Try.ntmps41
  go_wp2_with fail
  go_loopw [8] (fun s8 wr => ∃ (i : Nat), i ≤ L.length ∧ s8 = .int .i64 (i : Int) ∧ (L.take i).any q = false ∧ Below w.heap.size w wr) (fun s8 _ => L.length - (intOf s8).toNat)
  case atStart => exact ⟨0, by omega, rfl, rfl, Below.refl _ _⟩
  case round =>
    obtain ⟨i, hi, rfl, hno, hb⟩ := hrel
    have HN := Lib.hid hno
    have HB := Lib.hid hb
    clear hno hb
    by_cases hil : i < L.length
    case neg =>
      obtain rfl : i = L.length := by omega
      go_wp2_with fail
      go_ret
      exact ⟨_, rfl, by rw [any_notG q HN.out]; rfl, HB.out⟩
    have i1 : (i : Int) < (L.length : Int) := by omega
    obtain ⟨b, off, rfl, hlt, hc⟩ := (HS.out.keep HB.out).at_ (by omega)
    obtain ⟨m1, d1, s1, B1, e1, B2, e2, hx, _, _, _, hrg, hp1, hp2⟩ := hc i hil
    have HX := Lib.hid (take_nextG hx)
    have HAT := Lib.hid (fun h => any_atG q hx h)
    have RG := Lib.hid hrg
    clear hx hrg hc
    go_wp2_with ((with_reducible refine wpl_loadv rtS ?_ (.tmp 14) ?_ b (off + i * 3) ?_ [.int .i64 m1, .slice B1 d1.length e1, .slice B2 s1.length e2] ?_ RG.out ?_); rfl; rfl; rfl; rfl; simp only [Act.put, List.setIfInBounds_toArray, List.set_cons_succ, List.set_cons_zero])
    refine Calls.mono (HQ.out m1 B1 B2 d1 s1 e1 e2 _ hp1 hp2) ?_
    cases hq : q ⟨m1, d1, s1⟩ with
    | true =>
      have HE := Lib.hid (HAT.out hq)
      clear hq
      rintro e w' ⟨rfl, hb⟩
      go_wp2_with fail
      go_ret
      exact ⟨_, rfl, by rw [HE.out]; simp, HB.out.trans (hb.mono HB.out.size)⟩
    | false =>
      have HE := Lib.hid hq
      clear hq
      rintro e w' ⟨rfl, hb⟩
      go_wp2_with fail
      exact ⟨⟨i + 1, by omega, rfl, by rw [HX.out, List.any_append, HN.out]; simpa using HE.out, HB.out.trans (hb.mono HB.out.size)⟩, by simp only [intOf]; omega⟩
set_option maxRecDepth 100000 in
theorem contains_any (F : FuncId) (hf : ∀ (vs : Array Value) (W : World), (callFunc F vs).run Try.prog W = .ok (.enter F vs) W) (q : Sg → Bool) (A : Option Addr) (c : Nat) (L : List Sg) (w : World) (hs : SegS w A L) (hn : L.length ≤ 1000000)
    (hq : ∀ (m : Int) (A1 A2 : Option Addr) (d s : List Int) (c1 c2 : Nat) (W : World), PtS W (.slice A1 d.length c1) d → PtS W (.slice A2 s.length c2) s → Calls Try.prog F #[sgA m A1 d.length c1 A2 s.length c2] W fun e w' => e = .returned (.bool (q ⟨m, d, s⟩)) ∧ Below W.heap.size W w') :
    Calls Try.prog 29 #[.slice A L.length c, .func (.func F) #[] #[]] w fun e w' => e = .returned (.bool (L.any q)) ∧ Below w.heap.size w w' := by
  have HI := Lib.hid (index_any F hf q A c L w hs hn hq)
  clear hs hq
  go_enter Try.func29, Try.ntmps29
  go_wp2_with fail
  refine Calls.mono HI.out ?_
  rintro e w' ⟨r, rfl, hr, hb⟩
  have HR := Lib.hid hr
  clear hr
  go_wp2_with fail
  go_ret
  exact ⟨ret_bool (by rw [HR.out]), hb⟩
end Go.Proofs.Ytfohajgljjffgaa
