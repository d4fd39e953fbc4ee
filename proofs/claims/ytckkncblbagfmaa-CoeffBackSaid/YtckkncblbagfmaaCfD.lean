/- The contract of the reference's Value. -/
import Derived.Test.YtckkncblbagfmaaCfE
import Derived.Test.YtckkncblbagfmaaRwq
import Derived.Test.YtckkncblbagfmaaFrm
namespace Go.Proofs.Ytckkncblbagfmaa
open Go.RowKit
open Go.Tin
set_option linter.unusedVariables false
set_option linter.unusedSimpArgs false


theorem rt23 : RT Try.prog 23 2 := RT.of Try.underlying23 rfl (by kernel_rfl)
theorem wf_of64 {z : Int} (h1 : -9223372036854775808 ≤ z) (h2 : z ≤ 9223372036854775807) : (Lit.int .i64 z).wf = true := by
  show (decide (IntKind.i64.min ≤ z) && decide (z ≤ IntKind.i64.max)) = true
  rw [min64, max64]
  simp
  omega
/-- Is this number one of these bits? -/
def isE (v V N : Int) : Bool := decide (exV v = V ∧ exN v = N)
theorem isE_yes {v V N : Int} (h : isE v V N = true) (hs : 0 ≤ sz v) : vaB V N = true ∧ vaN V N = v := by
  unfold isE at h
  simp only [decide_eq_true_eq] at h
  obtain ⟨rfl, rfl⟩ := h
  rcases sz_cases v with ⟨m, _, hm⟩ | ⟨h1, _⟩
  · exact va_ex hm
  · omega
theorem isE_none {V : Int} {n : Nat} (hn : n ≤ 15) (h : ∀ u : Int, -(2 ^ n - 1) ≤ u → u < 2 ^ n → isE u V n = false) : vaB V n = false := by
  cases hb : vaB V n with
  | false => rfl
  | true =>
    obtain ⟨m, hm, hs, e1, e2⟩ := ex_va hb
    have : m = n := by omega
    subst this
    obtain ⟨_, h2, h3, _⟩ := hs
    have h4 := h (vaN V m) (by omega) h3
    unfold isE at h4
    simp only [decide_eq_false_iff_not] at h4
    exact absurd ⟨e1, e2⟩ h4

set_option maxRecDepth 100000 in
set_option maxHeartbeats 2000000 in
theorem rvalue_any (V N : Int) (w : World) (wV : (Lit.int .i64 V).wf = true) (wN : (Lit.int .i64 N).wf = true) : Calls Try.prog 12 #[.agg #[.int .i64 V, .int .i64 N]] w fun e w' => e = .returned (.tuple #[.int .i64 (vaN V N), .bool (vaB V N)]) ∧ Below w.heap.size w w' := by
  obtain ⟨v0, v1⟩ := wf64 wV
  obtain ⟨n0, n1⟩ := wf64 wN
  clear wV wN
  by_cases h1 : N < 0
  · have d1 : decide (N < 0) = true := by simpa using h1
    have hB : vaB V N = false := by unfold vaB; simp; omega
    have HB := Lib.hid (show vaB V N = false ∧ vaN V N = 0 from ⟨hB, va_no hB⟩)
    clear hB
    go_enter Try.func12, Try.ntmps12
    go_wp2_with fail
    go_ret2
    rw [HB.out.1, HB.out.2]
    exact ⟨rfl, ba (brefl w) _⟩
  have d1 : decide (N < 0) = false := by simpa using h1
  by_cases h2 : 15 < N
  · have d2 : decide (15 < N) = true := by simpa using h2
    have hB : vaB V N = false := by unfold vaB; simp; omega
    have HB := Lib.hid (show vaB V N = false ∧ vaN V N = 0 from ⟨hB, va_no hB⟩)
    clear hB
    go_enter Try.func12, Try.ntmps12
    go_wp2_with fail
    go_ret2
    rw [HB.out.1, HB.out.2]
    exact ⟨rfl, ba (brefl w) _⟩
  have d2 : decide (15 < N) = false := by simpa using h2
  obtain ⟨n, rfl⟩ := Int.eq_ofNat_of_zero_le (show 0 ≤ N by omega)
  have hn : n ≤ 15 := by omega
  obtain ⟨p1, p2⟩ := pow_top n (by omega)
  have hp15 := pow_mono hn
  have h15 : (2 : Int) ^ 15 = 32768 := by decide
  have p3 : (2 : Int) ^ n ≤ 32768 := by omega
  have hsh := shl64 n (by omega)
  clear hp15 h15
  go_enter Try.func12, Try.ntmps12
  go_wp2_with fail
  have HR := Lib.hid (heap_alloc_new w (.cells #[.int .i64 V, .int .i64 (n : Int)] 23))
  have HB0 := Lib.hid (ba (brefl w) (.cells #[.int .i64 V, .int .i64 (n : Int)] 23))
  have hz0 : w.heap.size < (w.alloc (.cells #[.int .i64 V, .int .i64 (n : Int)] 23)).heap.size := by simp
  generalize w.alloc (.cells #[.int .i64 V, .int .i64 (n : Int)] 23) = w1 at *
  go_loopw [4] (fun s4 wr => ∃ v : Int, -(2 ^ n - 1) ≤ v ∧ v ≤ 2 ^ n ∧ s4 = .int .i64 v ∧ (∀ u : Int, -(2 ^ n - 1) ≤ u → u < v → isE u V n = false) ∧ Below w1.heap.size w1 wr) (fun s4 _ => (2 ^ n - intOf s4).toNat)
  case atStart => exact ⟨_, Int.le_refl _, by omega, rfl, fun u h h' => by omega, brefl w1⟩
  case round =>
    obtain ⟨v, hv0, hv1, rfl, hno, hb⟩ := hrel
    have HN := Lib.hid hno
    have hz := hb.size
    have HBr := Lib.hid hb
    have hrow := (hb.block _ hz0).trans HR.out
    have HRr := Lib.hid hrow
    have c1 := row_cell hrow 1 rfl
    clear hno hb hrow
    by_cases hvn : v < 2 ^ n
    · have hs0 : 0 ≤ sz v := by
        rcases sz_cases v with ⟨m, h, _⟩ | ⟨_, h⟩
        · omega
        · omega
      have HX := Lib.hid (fun W => rextra_any v W (wf_of64 (by omega) (by omega)) hs0)
      have HY := Lib.hid (fun h : isE v V n = true => isE_yes h hs0)
      clear hs0
      have hbl : w.heap.size < wr.heap.size := by omega
      have HIE := Lib.hid (show isE v V n = (exV v == V && exN v == (n : Int)) by unfold isE; by_cases h1 : exV v = V <;> by_cases h2 : exN v = (n : Int) <;> simp [h1, h2])
      generalize exV v = xV at *
      generalize exN v = xN at *
      go_wp2_with fail
      have HRd := Lib.hid (show wr.drew.heap[w.heap.size]? = some (.cells #[.int .i64 V, .int .i64 (n : Int)] 23 (0, 0)) from HRr.out)
      refine Tin.reg_begin wr.heap.size 4 (by rfl) (by kernel_rfl) ?_
      refine Tin.reg_quiets [0, 2] _ 2 rfl (by simp only [Tin.pick, List.map_cons, List.map_nil, Array.getD_eq_getD_getElem?, List.getElem?_toArray, List.getElem?_cons_zero, List.getElem?_cons_succ, Option.getD_some]; rfl) (by kernel_rfl) (by kernel_rfl) ?_
      repeat (first | ((with_reducible refine wpq_load_row rt23 ?_ (.tmp 1) rfl w.heap.size rfl 23 #[.int .i64 V, .int .i64 (n : Int)] ?_ (fun w' h => by obtain ⟨p, rfl⟩ := h; exact (p.h.block _ hbl).trans HRd.out) ?_); rfl; rfl; simp only [Act.put, List.setIfInBounds_toArray, List.set_cons_succ, List.set_cons_zero]) | go_big_quiet_step (fail))
      refine wpQuiet_nil ?_
      refine Tin.reg_one 1 _ rfl (by kernel_rfl) ?_
      try simp only [List.getElem_toArray, List.getElem_cons_succ, List.getElem_cons_zero]
      go_wp2_with fail
      refine Calls.mono (HX.out _) ?_
      rintro e w2 ⟨rfl, hb2⟩
      go_wp2_with fail
      refine ⟨w2.heap.size, hb2, hb2.size, ?_⟩
      refine Tin.reg_quiets [3] _ 0 rfl (by simp only [Tin.pick, List.map_cons, List.map_nil, Array.getD_eq_getD_getElem?, List.getElem?_toArray, List.getElem?_cons_zero, List.getElem?_cons_succ, Option.getD_some]; rfl) (by kernel_rfl) (by kernel_rfl) ?_
      repeat (first | ((with_reducible refine wpq_eql pairE ?_ (.tmp 26) (.tmp 27) 23 rfl rfl rfl (pair_q _ _ _ _) ?_); rfl; simp only [Act.put, List.setIfInBounds_toArray, List.set_cons_succ, List.set_cons_zero]) | go_big_quiet_step (fail))
      refine wpQuiet_nil ?_
      refine Tin.reg_done (by kernel_rfl) ?_
      rw [← HIE.out]
      have HB2 := Lib.hid (bt HBr.out (ud hb2))
      clear hb2
      cases hie : isE v V n with
      | true =>
        obtain ⟨e1, e2⟩ := HY.out hie
        have HE := Lib.hid (show vaB V n = true ∧ vaN V n = v from ⟨e1, e2⟩)
        clear hie e1 e2
        go_wp2_with fail
        go_ret2
        rw [HE.out.1, HE.out.2]
        exact ⟨rfl, bt HB0.out HB2.out⟩
      | false =>
        have HF := Lib.hid hie
        clear hie
        go_wp2_with fail
        go_roundw
        case rel => exact ⟨v + 1, by omega, by omega, rfl, fun u h1 h2 => by rcases (by omega : u < v ∨ u = v) with h | rfl; exact HN.out u h1 h; exact HF.out, HB2.out⟩
        case measure => simp [intOf]; omega
    · have hve : v = 2 ^ n := by omega
      have hB : vaB V n = false := isE_none hn (fun u h1 h2 => HN.out u h1 (by omega))
      have HE := Lib.hid (show vaB V n = false ∧ vaN V n = 0 from ⟨hB, va_no hB⟩)
      clear hB hve
      go_wp2_with fail
      go_ret2
      rw [HE.out.1, HE.out.2]
      exact ⟨rfl, bt HB0.out HBr.out⟩
end Go.Proofs.Ytckkncblbagfmaa
