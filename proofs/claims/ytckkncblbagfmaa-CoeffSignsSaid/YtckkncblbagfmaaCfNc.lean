/- The walk of CoeffSigns. -/
import Derived.Test.YtckkncblbagfmaaCfLa
namespace Go.Proofs.Ytckkncblbagfmaa
open Go.RowKit
open Go.Tin
set_option linter.unusedVariables false
set_option linter.unusedSimpArgs false


theorem szIs_neg {v : Int} {m : Nat} (h : szIs v m) : szIs (-v) m := by
  obtain ⟨h1, h2, h3, h4⟩ := h
  exact ⟨h1, by omega, by omega, by omega⟩
theorem szIs_dbl {v : Int} {m : Nat} (h : szIs v m) (hv : v ≠ 0) (hm : m < 15) : szIs (2 * v) (m + 1) := by
  obtain ⟨h1, h2, h3, h4⟩ := h
  have e1 : (2 : Int) ^ (m + 1) = 2 * 2 ^ m := by rw [Int.pow_succ]; omega
  have e2 := pow_of m (by omega)
  refine ⟨by omega, by omega, by omega, .inr ?_⟩
  rw [Nat.add_sub_cancel]
  rcases h4 with h4 | h4
  · subst h4; omega
  · omega
theorem ex_sum {v : Int} {m : Nat} (h : szIs v m) (hv : v ≠ 0) : exV v + exV (-v) = 2 ^ m - 1 := by
  obtain ⟨e1, _, _⟩ := ex_of h
  obtain ⟨e2, _, _⟩ := ex_of (szIs_neg h)
  rw [e1, e2]
  split <;> split <;> omega
theorem sz_big {v : Int} (h : sz v < 0) : sz v = -1 ∧ (v < -32767 ∨ 32767 < v) := by
  rcases sz_cases v with ⟨m, h1, _⟩ | ⟨h1, h2⟩
  · omega
  · exact ⟨h1, by omega⟩

theorem va_wf {V N : Int} (h : vaB V N = true) : (Lit.int .i64 (vaN V N)).wf = true ∧ exB (vaN V N) = true ∧ exV (vaN V N) = V ∧ exN (vaN V N) = N := by
  obtain ⟨k, _, hk, e1, e2⟩ := ex_va h
  obtain ⟨_, _, h3⟩ := ex_of hk
  refine ⟨?_, h3, e1, e2⟩
  obtain ⟨k1, k2, k3, _⟩ := hk
  have h5 := pow_top k (by omega)
  clear h e1 e2 h3
  generalize vaN V N = z at *
  exact wf_of64 (by omega) (by omega)

set_option maxRecDepth 100000 in
set_option maxHeartbeats 8000000 in
theorem signs_any (v V N : Int) (w : World) (wv : (Lit.int .i64 v).wf = true) (wV : (Lit.int .i64 V).wf = true) (wN : (Lit.int .i64 N).wf = true) :
    Calls Try.prog 4 #[.int .i64 v, .agg #[.int .i64 V, .int .i64 N]] w fun e w' => e = .returned (.bool true) ∧ Below w.heap.size w w' := by
  have HX := Lib.hid (fun W => extra_any v W wv)
  have HS := Lib.hid (fun W => size_any v W wv)
  have HV := Lib.hid (fun W => value_any V N W wV wN)
  have RP := Lib.hid (heap_alloc_new w (.cells #[.int .i64 V, .int .i64 N] 23))
  have HBP := Lib.hid (ba (brefl w) (.cells #[.int .i64 V, .int .i64 N] 23))
  have hgp : w.heap.size < (w.alloc (.cells #[.int .i64 V, .int .i64 N] 23)).heap.size := by simp
  clear wV wN
  by_cases hs : sz v < 0
  · obtain ⟨h1, h2⟩ := sz_big hs
    have hB : exB v = false := by unfold exB; exact decide_eq_false (by omega)
    rw [hB] at HX
    rw [h1] at HS
    clear hB h1 hs wv
    generalize exV v = xV at *
    generalize exN v = xN at *
    have h3 : v < -32767 ∨ (-32767 ≤ v ∧ 32767 < v) := by omega
    rcases h3 with h3 | ⟨h3, h4⟩
    all_goals
      clear h2
      go_enter Try.func4, Try.ntmps4
      go_wp2_with fail
      refine (HX.out _).mono ?_
      rintro e w1 ⟨rfl, hb1⟩
      go_wp2_with fail
      refine (HS.out _).mono ?_
      rintro e w' ⟨rfl, rfl⟩
      have HB2 := Lib.hid (bt HBP.out (bt hb1 (ba (brefl w1) (.cells #[.int .i64 xV, .int .i64 xN] 23))))
      clear hb1
      go_wp2_with fail
      refine (awake_any _).mono ?_
      rintro e w3 ⟨rfl, hb3⟩
      have HB3 := Lib.hid (bt HB2.out hb3)
      clear hb3
      go_wp2_with fail
      go_ret
      exact ⟨rfl, HB3.out⟩
  · obtain ⟨m, hm, hsz⟩ : ∃ m : Nat, sz v = (m : Int) ∧ szIs v m := by
      rcases sz_cases v with h | ⟨h, _⟩
      · exact h
      · omega
    have hbd := sz_bd (show 0 ≤ sz v by omega)
    have wn : (Lit.int .i64 (-v)).wf = true := wf_of64 (by omega) (by omega)
    have HXn := Lib.hid (fun W => extra_any (-v) W wn)
    have HS2 := Lib.hid (fun (h : v ≠ 0) (hm : m < 15) W => size_n (2 * v) ((m + 1 : Nat) : Int) (sz_of (szIs_dbl hsz h hm)) W (wf_of64 (by omega) (by omega)))
    obtain ⟨e1, e2, e3⟩ := ex_of hsz
    obtain ⟨f1, f2, f3⟩ := ex_of (szIs_neg hsz)
    obtain ⟨p1, p2⟩ := pow_top m (by have := hsz.1; omega)
    have hva := va_ex hsz
    have hm15 : m ≤ 15 := hsz.1
    have HSum := Lib.hid (fun h : v ≠ 0 => ex_sum hsz h)
    have hxb : 0 ≤ exV v ∧ exV v < 2 ^ m := by rw [e1]; obtain ⟨_, k2, k3, _⟩ := hsz; split <;> omega
    have hxb2 : 0 ≤ exV (-v) ∧ exV (-v) < 2 ^ m := by rw [f1]; obtain ⟨_, k2, k3, _⟩ := hsz; split <;> omega
    have HSH := Lib.hid (shl64 m (by omega))
    have wx : (Lit.int .i64 (exV v)).wf = true := wf_of64 (by omega) (by omega)
    have wm : (Lit.int .i64 (m : Int)).wf = true := wf_of64 (by omega) (by omega)
    have HVx := Lib.hid (fun W => value_any (exV v) (m : Int) W wx wm)
    rw [e2] at hva
    rw [hva.1, hva.2] at HVx
    rw [e2, e3] at HX
    rw [f2, f3] at HXn
    rw [hm] at HS
    clear e1 e2 e3 f1 f2 f3 hva wn wx wm hsz hm hs
    generalize exV v = xV at *
    generalize exV (-v) = yV at *
    have hVV := Lib.hid (fun h : vaB V N = true => va_wf h)
    have hVN := Lib.hid (show vaB V N = false → vaN V N = 0 from fun h => va_no h)
    generalize vaN V N = z at *
    have hmul : v ≠ 0 → wrap64 (2 * v) = 2 * v := fun _ => by unfold wrap64; omega
    have HMU := Lib.hid hmul
    clear hmul
    go_enter Try.func4, Try.ntmps4
    go_wp2_with fail
    refine (HX.out _).mono ?_
    rintro e w1 ⟨rfl, hb1⟩
    have RX := Lib.hid (heap_alloc_new w1 (.cells #[.int .i64 xV, .int .i64 (m : Int)] 23))
    have hgx : w1.heap.size < (w1.alloc (.cells #[.int .i64 xV, .int .i64 (m : Int)] 23)).heap.size := by simp
    have hb2 := bt hb1 (ba (brefl w1) (.cells #[.int .i64 xV, .int .i64 (m : Int)] 23))
    have RP2 := Lib.hid ((hb2.block _ hgp).trans RP.out)
    have HB2 := Lib.hid (bt HBP.out hb2)
    obtain ⟨q, hq⟩ : ∃ q, q = w1.heap.size := ⟨_, rfl⟩
    rw [← hq] at RX hgx
    go_wp2_with fail
    rw [← hq]
    clear hb1 hb2 hq RP HBP hgp
    generalize w1.alloc (.cells #[.int .i64 xV, .int .i64 (m : Int)] 23) = w2 at *
    refine (HXn.out _).mono ?_
    rintro e w3 ⟨rfl, hb3⟩
    have RY := Lib.hid (heap_alloc_new w3 (.cells #[.int .i64 yV, .int .i64 (m : Int)] 23))
    have hgy : w3.heap.size < (w3.alloc (.cells #[.int .i64 yV, .int .i64 (m : Int)] 23)).heap.size := by simp
    have hb4 := bt hb3 (ba (brefl w3) (.cells #[.int .i64 yV, .int .i64 (m : Int)] 23))
    have RP4 := Lib.hid ((hb4.block _ (row_lt RP2.out)).trans RP2.out)
    have RX4 := Lib.hid ((hb4.block _ hgx).trans RX.out)
    have HB4 := Lib.hid (bt HB2.out hb4)
    obtain ⟨u, hu⟩ : ∃ u, u = w3.heap.size := ⟨_, rfl⟩
    rw [← hu] at RY hgy
    go_wp2_with ((with_reducible refine wpl_load_row rt23 ?_ (.tmp 5) rfl q rfl 23 #[.int .i64 xV, .int .i64 (m : Int)] ?_ RX4.out ?_); rfl; rfl; simp only [Act.put, List.setIfInBounds_toArray, List.set_cons_succ, List.set_cons_zero])
    rw [← hu]
    clear hb3 hb4 hu RP2 HB2 RX hgx
    generalize w3.alloc (.cells #[.int .i64 yV, .int .i64 (m : Int)] 23) = w4 at *
    refine (HVx.out _).mono ?_
    rintro e w5 ⟨rfl, hb5⟩
    have RP5 := Lib.hid ((hb5.block _ (row_lt RP4.out)).trans RP4.out)
    have RX5 := (hb5.block _ (row_lt RX4.out)).trans RX4.out
    have RY5 := (hb5.block _ hgy).trans RY.out
    have HB5 := Lib.hid (bt HB4.out hb5)
    have hqx := row_lt RX5
    have huy := row_lt RY5
    have HXr := Lib.hid (show ∀ W : World, Below w5.heap.size w5 W → W.cell? ⟨q, 0, none⟩ = some (.int .i64 xV) ∧ W.cell? ⟨q, 1, none⟩ = some (.int .i64 (m : Int)) from fun W h => ⟨row_cell ((h.block _ hqx).trans RX5) 0 rfl, row_cell ((h.block _ hqx).trans RX5) 1 rfl⟩)
    have HYr := Lib.hid (show ∀ W : World, Below w5.heap.size w5 W → W.cell? ⟨u, 0, none⟩ = some (.int .i64 yV) ∧ W.cell? ⟨u, 1, none⟩ = some (.int .i64 (m : Int)) from fun W h => ⟨row_cell ((h.block _ huy).trans RY5) 0 rfl, row_cell ((h.block _ huy).trans RY5) 1 rfl⟩)
    clear hb5 RP4 HB4 RX4 RY hgy RX5 RY5
    go_wp2_with fail
    have k0 : ∀ p : Bel w5.heap.size w5.drew, p.w'.cell? ⟨q, 0, none⟩ = some (.int .i64 xV) := fun p => (HXr.out _ (ud p.h)).1
    have k1 : ∀ p : Bel w5.heap.size w5.drew, p.w'.cell? ⟨q, 1, none⟩ = some (.int .i64 (m : Int)) := fun p => (HXr.out _ (ud p.h)).2
    have k2 : ∀ p : Bel w5.heap.size w5.drew, p.w'.cell? ⟨u, 0, none⟩ = some (.int .i64 yV) := fun p => (HYr.out _ (ud p.h)).1
    have k3 : ∀ p : Bel w5.heap.size w5.drew, p.w'.cell? ⟨u, 1, none⟩ = some (.int .i64 (m : Int)) := fun p => (HYr.out _ (ud p.h)).2
    have es1 : IntKind.i64.wrap ((2 : Int) ^ m) = 2 ^ m := by rw [wrap_i64]; omega
    have es2 : IntKind.i64.wrap ((2 : Int) ^ m - 1) = 2 ^ m - 1 := by rw [wrap_i64]; omega
    have es3 : IntKind.i64.wrap (xV + yV) = xV + yV := by rw [wrap_i64]; omega
    have HE := Lib.hid (show IntKind.i64.wrap (2 * v) = 2 * v ∧ IntKind.i64.wrap ((m : Int) + 1) = (m : Int) + 1 from ⟨by rw [wrap_i64]; omega, by rw [wrap_i64]; omega⟩)
    by_cases hv : v = 0
    · subst hv
      clear HSum HS2 HE HMU
      have es5 : ((0 : Int) != 0) = false := by decide
      refine Tin.reg_begin w5.heap.size 41 (by rfl) (by kernel_rfl) ?_
      refine Tin.reg_quiets [0, 1, 2, 3, 4, 5, 6, 7, 8, 9, 10, 11, 12, 13, 14, 15, 16, 17, 18, 19, 20, 21] _ 19 rfl (by simp only [Tin.pick, List.map_cons, List.map_nil, Array.getD_eq_getD_getElem?, List.getElem?_toArray, List.getElem?_cons_zero, List.getElem?_cons_succ, Option.getD_some]; rfl) (by kernel_rfl) (by kernel_rfl) ?_
      repeat (first | go_big_quiet_step (fail))
      refine wpQuiet_nil ?_
      refine Tin.reg_one 22 _ rfl (by kernel_rfl) ?_
      try simp only [List.getElem_toArray, List.getElem_cons_succ, List.getElem_cons_zero]
      go_wp2_with fail
      refine Calls.mono (HS.out _) ?_
      rintro e w' ⟨rfl, rfl⟩
      go_wp2_with fail
      refine ⟨w5.heap.size, Below.refl _ _, Nat.le_refl _, ?_⟩
      refine Tin.reg_quiets [23, 24, 25, 26, 27, 28, 29, 30, 31, 32, 33, 34, 35, 36, 37, 38, 39, 40] _ 0 rfl (by simp only [Tin.pick, List.map_cons, List.map_nil, Array.getD_eq_getD_getElem?, List.getElem?_toArray, List.getElem?_cons_zero, List.getElem?_cons_succ, Option.getD_some]; rfl) (by kernel_rfl) (by kernel_rfl) ?_
      repeat (first | go_big_quiet_step (fail))
      refine wpQuiet_nil ?_
      refine Tin.reg_done (by kernel_rfl) ?_
      clear k0 k1 k2 k3 es1 es2 es3
      go_wp2_with fail
      have k1 : ∀ p : Bel w5.heap.size w5.drew.drew, p.w'.cell? ⟨q, 1, none⟩ = some (.int .i64 (m : Int)) := fun p => (HXr.out _ (ud (ud p.h))).2
      refine Tin.reg_begin w5.heap.size 16 (by rfl) (by kernel_rfl) ?_
      refine Tin.reg_quiets [0, 1, 2, 3, 4, 5, 6, 7, 8, 9, 11, 12, 13] _ 3 rfl (by simp only [Tin.pick, List.map_cons, List.map_nil, Array.getD_eq_getD_getElem?, List.getElem?_toArray, List.getElem?_cons_zero, List.getElem?_cons_succ, Option.getD_some]; rfl) (by kernel_rfl) (by kernel_rfl) ?_
      repeat (first | go_big_quiet_step (fail))
      refine wpQuiet_nil ?_
      refine Tin.reg_one 10 _ rfl (by kernel_rfl) ?_
      try simp only [List.getElem_toArray, List.getElem_cons_succ, List.getElem_cons_zero]
      go_wp2_with fail
      refine ⟨w5.heap.size, Below.refl _ _, Nat.le_refl _, ?_⟩
      refine Tin.reg_quiets [14, 15] _ 0 rfl (by simp only [Tin.pick, List.map_cons, List.map_nil, Array.getD_eq_getD_getElem?, List.getElem?_toArray, List.getElem?_cons_zero, List.getElem?_cons_succ, Option.getD_some]; rfl) (by kernel_rfl) (by kernel_rfl) ?_
      repeat (first | go_big_quiet_step (fail))
      refine wpQuiet_nil ?_
      refine Tin.reg_done (by kernel_rfl) ?_
      clear k1
      have RP6 := Lib.hid (show w5.drew.drew.heap[w.heap.size]? = some (.cells #[.int .i64 V, .int .i64 N] 23 (0, 0)) from RP5.out)
      have HB6 := Lib.hid (show Below w.heap.size w w5.drew.drew from below_drew (below_drew HB5.out))
      clear RP5 HB5 HXr HYr
      generalize w5.drew.drew = w6 at *
      go_wp2_with ((with_reducible refine wpl_load_row rt23 ?_ (.tmp 3) rfl w.heap.size rfl 23 #[.int .i64 V, .int .i64 N] ?_ RP6.out ?_); rfl; rfl; simp only [Act.put, List.setIfInBounds_toArray, List.set_cons_succ, List.set_cons_zero])
      refine (HV.out _).mono ?_
      rintro e w7 ⟨rfl, hb7⟩
      have RP7 := Lib.hid ((hb7.block _ (row_lt RP6.out)).trans RP6.out)
      have HB7 := Lib.hid (bt HB6.out hb7)
      clear hb7 RP6 HB6
      cases hvb : vaB V N with
      | false =>
        obtain rfl := hVN.out hvb
        clear hvb
        go_wp2_with fail
        refine (awake_any w7).mono ?_
        rintro e w8 ⟨rfl, hb8⟩
        have HB8 := Lib.hid (bt HB7.out hb8)
        clear hb8
        go_wp2_with fail
        go_ret
        exact ⟨rfl, HB8.out⟩
      | true =>
        obtain ⟨wz, z1, z2, z3⟩ := hVV.out hvb
        have HXz := Lib.hid (fun W => extra_any z W wz)
        rw [z1, z2, z3] at HXz
        clear hvb wz z1 z2 z3
        go_wp2_with fail
        refine (HXz.out _).mono ?_
        rintro e w8 ⟨rfl, hb8⟩
        have hb9 := bt hb8 (ba (brefl w8) (.cells #[.int .i64 V, .int .i64 N] 23))
        have RP9 := Lib.hid ((hb9.block _ (row_lt RP7.out)).trans RP7.out)
        have RZ9 := Lib.hid (heap_alloc_new w8 (.cells #[.int .i64 V, .int .i64 N] 23))
        have HB9 := Lib.hid (bt HB7.out hb9)
        clear hb8 hb9 RP7 HB7
        go_wp2_with (first | ((with_reducible refine wpl_load_row rt23 ?_ (.tmp 13) rfl w8.heap.size rfl 23 #[.int .i64 V, .int .i64 N] ?_ RZ9.out ?_); rfl; rfl; simp only [Act.put, List.setIfInBounds_toArray, List.set_cons_succ, List.set_cons_zero]) | ((with_reducible refine wpl_load_row rt23 ?_ (.tmp 3) rfl w.heap.size rfl 23 #[.int .i64 V, .int .i64 N] ?_ RP9.out ?_); rfl; rfl; simp only [Act.put, List.setIfInBounds_toArray, List.set_cons_succ, List.set_cons_zero]) | ((with_reducible refine wpl_eql pairE ?_ (.tmp 123) (.tmp 124) 23 rfl rfl rfl (pair_q _ _ _ _) ?_); rfl; simp only [Act.put, List.setIfInBounds_toArray, List.set_cons_succ, List.set_cons_zero]))
        refine (awake_any _).mono ?_
        rintro e w10 ⟨rfl, hb10⟩
        have HB10 := Lib.hid (bt HB9.out hb10)
        clear hb10
        go_wp2_with fail
        go_ret
        exact ⟨rfl, HB10.out⟩

    · have dv : (v != 0) = true := by simp [hv]
      have es4 : (xV + yV != 2 ^ m - 1) = false := by rw [HSum.out hv]; simp
      have HS3 := Lib.hid (HS2.out hv)
      clear hv HSum HS2
      refine Tin.reg_begin w5.heap.size 41 (by rfl) (by kernel_rfl) ?_
      refine Tin.reg_quiets [0, 1, 2, 3, 4, 5, 6, 7, 8, 9, 10, 11, 12, 13, 14, 15, 16, 17, 18, 19, 20, 21] _ 19 rfl (by simp only [Tin.pick, List.map_cons, List.map_nil, Array.getD_eq_getD_getElem?, List.getElem?_toArray, List.getElem?_cons_zero, List.getElem?_cons_succ, Option.getD_some]; rfl) (by kernel_rfl) (by kernel_rfl) ?_
      repeat (first | go_big_quiet_step (fail))
      refine wpQuiet_nil ?_
      refine Tin.reg_one 22 _ rfl (by kernel_rfl) ?_
      try simp only [List.getElem_toArray, List.getElem_cons_succ, List.getElem_cons_zero]
      go_wp2_with fail
      refine Calls.mono (HS.out _) ?_
      rintro e w' ⟨rfl, rfl⟩
      go_wp2_with fail
      refine ⟨w5.heap.size, Below.refl _ _, Nat.le_refl _, ?_⟩
      refine Tin.reg_quiets [23, 24, 25, 26, 27, 28, 29, 30, 31, 32, 33, 34, 35, 36, 37, 38, 39, 40] _ 0 rfl (by simp only [Tin.pick, List.map_cons, List.map_nil, Array.getD_eq_getD_getElem?, List.getElem?_toArray, List.getElem?_cons_zero, List.getElem?_cons_succ, Option.getD_some]; rfl) (by kernel_rfl) (by kernel_rfl) ?_
      repeat (first | go_big_quiet_step (fail))
      refine wpQuiet_nil ?_
      refine Tin.reg_done (by kernel_rfl) ?_
      clear k0 k1 k2 k3 es1 es2 es3 es4
      go_wp2_with fail
      have k1 : ∀ p : Bel w5.heap.size w5.drew.drew, p.w'.cell? ⟨q, 1, none⟩ = some (.int .i64 (m : Int)) := fun p => (HXr.out _ (ud (ud p.h))).2
      by_cases hm : m < 15
      · have d15 : decide ((m : Int) < 15) = true := decide_eq_true (by omega)
        have HS4 := Lib.hid (HS3.out hm)
        have e2v := HE.out.1
        have em1 := HE.out.2
        refine Tin.reg_begin w5.heap.size 16 (by rfl) (by kernel_rfl) ?_
        refine Tin.reg_quiets [0, 1, 2, 3, 4, 5, 6, 7, 8, 9, 11, 12, 13] _ 3 rfl (by simp only [Tin.pick, List.map_cons, List.map_nil, Array.getD_eq_getD_getElem?, List.getElem?_toArray, List.getElem?_cons_zero, List.getElem?_cons_succ, Option.getD_some]; rfl) (by kernel_rfl) (by kernel_rfl) ?_
        repeat (first | go_big_quiet_step (fail))
        refine wpQuiet_nil ?_
        refine Tin.reg_one 10 _ rfl (by kernel_rfl) ?_
        try simp only [List.getElem_toArray, List.getElem_cons_succ, List.getElem_cons_zero]
        go_wp2_with fail
        refine Calls.mono (HS4.out _) ?_
        rintro e w' ⟨rfl, rfl⟩
        go_wp2_with fail
        refine ⟨w5.heap.size, Below.refl _ _, Nat.le_refl _, ?_⟩
        refine Tin.reg_quiets [14, 15] _ 0 rfl (by simp only [Tin.pick, List.map_cons, List.map_nil, Array.getD_eq_getD_getElem?, List.getElem?_toArray, List.getElem?_cons_zero, List.getElem?_cons_succ, Option.getD_some]; rfl) (by kernel_rfl) (by kernel_rfl) ?_
        repeat (first | go_big_quiet_step (fail))
        refine wpQuiet_nil ?_
        refine Tin.reg_done (by kernel_rfl) ?_
        clear k1 e2v em1
        have RP6 := Lib.hid (show w5.drew.drew.heap[w.heap.size]? = some (.cells #[.int .i64 V, .int .i64 N] 23 (0, 0)) from RP5.out)
        have HB6 := Lib.hid (show Below w.heap.size w w5.drew.drew from below_drew (below_drew HB5.out))
        clear RP5 HB5 HXr HYr
        generalize w5.drew.drew = w6 at *
        go_wp2_with ((with_reducible refine wpl_load_row rt23 ?_ (.tmp 3) rfl w.heap.size rfl 23 #[.int .i64 V, .int .i64 N] ?_ RP6.out ?_); rfl; rfl; simp only [Act.put, List.setIfInBounds_toArray, List.set_cons_succ, List.set_cons_zero])
        refine (HV.out _).mono ?_
        rintro e w7 ⟨rfl, hb7⟩
        have RP7 := Lib.hid ((hb7.block _ (row_lt RP6.out)).trans RP6.out)
        have HB7 := Lib.hid (bt HB6.out hb7)
        clear hb7 RP6 HB6
        cases hvb : vaB V N with
        | false =>
          obtain rfl := hVN.out hvb
          clear hvb
          go_wp2_with fail
          refine (awake_any w7).mono ?_
          rintro e w8 ⟨rfl, hb8⟩
          have HB8 := Lib.hid (bt HB7.out hb8)
          clear hb8
          go_wp2_with fail
          go_ret
          exact ⟨rfl, HB8.out⟩
        | true =>
          obtain ⟨wz, z1, z2, z3⟩ := hVV.out hvb
          have HXz := Lib.hid (fun W => extra_any z W wz)
          rw [z1, z2, z3] at HXz
          clear hvb wz z1 z2 z3
          go_wp2_with fail
          refine (HXz.out _).mono ?_
          rintro e w8 ⟨rfl, hb8⟩
          have hb9 := bt hb8 (ba (brefl w8) (.cells #[.int .i64 V, .int .i64 N] 23))
          have RP9 := Lib.hid ((hb9.block _ (row_lt RP7.out)).trans RP7.out)
          have RZ9 := Lib.hid (heap_alloc_new w8 (.cells #[.int .i64 V, .int .i64 N] 23))
          have HB9 := Lib.hid (bt HB7.out hb9)
          clear hb8 hb9 RP7 HB7
          go_wp2_with (first | ((with_reducible refine wpl_load_row rt23 ?_ (.tmp 13) rfl w8.heap.size rfl 23 #[.int .i64 V, .int .i64 N] ?_ RZ9.out ?_); rfl; rfl; simp only [Act.put, List.setIfInBounds_toArray, List.set_cons_succ, List.set_cons_zero]) | ((with_reducible refine wpl_load_row rt23 ?_ (.tmp 3) rfl w.heap.size rfl 23 #[.int .i64 V, .int .i64 N] ?_ RP9.out ?_); rfl; rfl; simp only [Act.put, List.setIfInBounds_toArray, List.set_cons_succ, List.set_cons_zero]) | ((with_reducible refine wpl_eql pairE ?_ (.tmp 123) (.tmp 124) 23 rfl rfl rfl (pair_q _ _ _ _) ?_); rfl; simp only [Act.put, List.setIfInBounds_toArray, List.set_cons_succ, List.set_cons_zero]))
          refine (awake_any _).mono ?_
          rintro e w10 ⟨rfl, hb10⟩
          have HB10 := Lib.hid (bt HB9.out hb10)
          clear hb10
          go_wp2_with fail
          go_ret
          exact ⟨rfl, HB10.out⟩

      · have d15 : decide ((m : Int) < 15) = false := decide_eq_false (by omega)
        refine Tin.reg_begin w5.heap.size 16 (by rfl) (by kernel_rfl) ?_
        refine Tin.reg_quiets [0, 1, 2, 3, 4, 5, 6, 7, 8, 9, 11, 12, 13] _ 3 rfl (by simp only [Tin.pick, List.map_cons, List.map_nil, Array.getD_eq_getD_getElem?, List.getElem?_toArray, List.getElem?_cons_zero, List.getElem?_cons_succ, Option.getD_some]; rfl) (by kernel_rfl) (by kernel_rfl) ?_
        repeat (first | go_big_quiet_step (fail))
        refine wpQuiet_nil ?_
        refine Tin.reg_one 10 _ rfl (by kernel_rfl) ?_
        try simp only [List.getElem_toArray, List.getElem_cons_succ, List.getElem_cons_zero]
        go_wp2_with fail
        refine ⟨w5.heap.size, Below.refl _ _, Nat.le_refl _, ?_⟩
        refine Tin.reg_quiets [14, 15] _ 0 rfl (by simp only [Tin.pick, List.map_cons, List.map_nil, Array.getD_eq_getD_getElem?, List.getElem?_toArray, List.getElem?_cons_zero, List.getElem?_cons_succ, Option.getD_some]; rfl) (by kernel_rfl) (by kernel_rfl) ?_
        repeat (first | go_big_quiet_step (fail))
        refine wpQuiet_nil ?_
        refine Tin.reg_done (by kernel_rfl) ?_
        clear k1
        have RP6 := Lib.hid (show w5.drew.drew.heap[w.heap.size]? = some (.cells #[.int .i64 V, .int .i64 N] 23 (0, 0)) from RP5.out)
        have HB6 := Lib.hid (show Below w.heap.size w w5.drew.drew from below_drew (below_drew HB5.out))
        clear RP5 HB5 HXr HYr
        generalize w5.drew.drew = w6 at *
        go_wp2_with ((with_reducible refine wpl_load_row rt23 ?_ (.tmp 3) rfl w.heap.size rfl 23 #[.int .i64 V, .int .i64 N] ?_ RP6.out ?_); rfl; rfl; simp only [Act.put, List.setIfInBounds_toArray, List.set_cons_succ, List.set_cons_zero])
        refine (HV.out _).mono ?_
        rintro e w7 ⟨rfl, hb7⟩
        have RP7 := Lib.hid ((hb7.block _ (row_lt RP6.out)).trans RP6.out)
        have HB7 := Lib.hid (bt HB6.out hb7)
        clear hb7 RP6 HB6
        cases hvb : vaB V N with
        | false =>
          obtain rfl := hVN.out hvb
          clear hvb
          go_wp2_with fail
          refine (awake_any w7).mono ?_
          rintro e w8 ⟨rfl, hb8⟩
          have HB8 := Lib.hid (bt HB7.out hb8)
          clear hb8
          go_wp2_with fail
          go_ret
          exact ⟨rfl, HB8.out⟩
        | true =>
          obtain ⟨wz, z1, z2, z3⟩ := hVV.out hvb
          have HXz := Lib.hid (fun W => extra_any z W wz)
          rw [z1, z2, z3] at HXz
          clear hvb wz z1 z2 z3
          go_wp2_with fail
          refine (HXz.out _).mono ?_
          rintro e w8 ⟨rfl, hb8⟩
          have hb9 := bt hb8 (ba (brefl w8) (.cells #[.int .i64 V, .int .i64 N] 23))
          have RP9 := Lib.hid ((hb9.block _ (row_lt RP7.out)).trans RP7.out)
          have RZ9 := Lib.hid (heap_alloc_new w8 (.cells #[.int .i64 V, .int .i64 N] 23))
          have HB9 := Lib.hid (bt HB7.out hb9)
          clear hb8 hb9 RP7 HB7
          go_wp2_with (first | ((with_reducible refine wpl_load_row rt23 ?_ (.tmp 13) rfl w8.heap.size rfl 23 #[.int .i64 V, .int .i64 N] ?_ RZ9.out ?_); rfl; rfl; simp only [Act.put, List.setIfInBounds_toArray, List.set_cons_succ, List.set_cons_zero]) | ((with_reducible refine wpl_load_row rt23 ?_ (.tmp 3) rfl w.heap.size rfl 23 #[.int .i64 V, .int .i64 N] ?_ RP9.out ?_); rfl; rfl; simp only [Act.put, List.setIfInBounds_toArray, List.set_cons_succ, List.set_cons_zero]) | ((with_reducible refine wpl_eql pairE ?_ (.tmp 123) (.tmp 124) 23 rfl rfl rfl (pair_q _ _ _ _) ?_); rfl; simp only [Act.put, List.setIfInBounds_toArray, List.set_cons_succ, List.set_cons_zero]))
          refine (awake_any _).mono ?_
          rintro e w10 ⟨rfl, hb10⟩
          have HB10 := Lib.hid (bt HB9.out hb10)
          clear hb10
          go_wp2_with fail
          go_ret
          exact ⟨rfl, HB10.out⟩
end Go.Proofs.Ytckkncblbagfmaa
