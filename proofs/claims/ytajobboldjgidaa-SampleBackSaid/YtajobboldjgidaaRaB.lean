/- May, and its reference. -/
import Derived.Test.YtajobboldjgidaaRaA
namespace Go.Proofs.Ytajobboldjgidaa
open Go.RowKit
open Go.Tin
set_option linter.unusedVariables false
set_option linter.unusedSimpArgs false


/-- Is it a picture? -/
def mayB (W H : Int) (n : Nat) : Bool := okS W && okS H && ((n : Int) == 3 * W * H)
theorem mul_bd {W H : Int} (hW : 1 ≤ W ∧ W ≤ 4096) (hH : 1 ≤ H ∧ H ≤ 4096) : 0 ≤ 3 * W * H ∧ 3 * W * H ≤ 50331648 := by
  have h1 : 0 ≤ 3 * W := by omega
  refine ⟨Int.mul_nonneg h1 (by omega), ?_⟩
  exact Int.le_trans (Int.mul_le_mul_of_nonneg_right (show 3 * W ≤ 12288 by omega) (by omega)) (by omega)

set_option maxRecDepth 100000 in
set_option maxHeartbeats 1000000 in
theorem may_any (W H : Int) (A : Option Addr) (n c : Nat) (w : World) : Calls Try.prog 31 #[.agg #[.int .i64 W, .int .i64 H, .slice A n c]] w fun e w' => e = .returned (.bool (mayB W H n)) ∧ Below w.heap.size w w' := by
  go_enter Try.func31, Try.ntmps31
  go_wp2_with fail
  generalize hW0 : (w.alloc _).alloc _ = W0 at *
  have hs : Sl .i64 W0 (some ⟨w.heap.size + 1, 0, none⟩) [W, H] := by
    rw [← hW0]
    have h := Sl.new_ (k := .i64) (w.alloc (.cells #[.int .i64 W, .int .i64 H, .slice A n c] 44)) 3 #[.int .i64 W, .int .i64 H] [W, H] rfl
    simpa using h
  refine (size_any (some ⟨w.heap.size + 1, 0, none⟩) 2 [W, H] W0 hs (by simp)).mono ?_
  rintro e w' ⟨rfl, rfl⟩
  have c0 : W0.cell? ⟨w.heap.size, 0, none⟩ = some (.int .i64 W) := by rw [← hW0]; simp [go_sem]
  have c1 : W0.cell? ⟨w.heap.size, 1, none⟩ = some (.int .i64 H) := by rw [← hW0]; simp [go_sem]
  have c2 : W0.cell? ⟨w.heap.size, 2, none⟩ = some (.slice A n c) := by rw [← hW0]; simp [go_sem]
  have hb : Below w.heap.size w W0 := by rw [← hW0]; exact ba (ba (brefl w) _) _
  have hall : [W, H].all okS = (okS W && okS H) := by simp
  rw [hall]
  clear hW0 hs hall
  by_cases hk : (okS W && okS H) = true
  · have hk' := hk
    rw [Bool.and_eq_true] at hk'
    obtain ⟨m0, m1⟩ := mul_bd (okS_t hk'.1) (okS_t hk'.2)
    obtain ⟨w0, w1⟩ := okS_t hk'.1
    obtain ⟨h0, h1⟩ := okS_t hk'.2
    have HR := Lib.hid (show mayB W H n = ((n : Int) == 3 * W * H) by unfold mayB; rw [hk]; rfl)
    rw [hk]
    clear hk hk'
    go_wp2_with fail
    go_ret
    exact ⟨ret_bool HR.out.symm, hb⟩
  · have hk' : (okS W && okS H) = false := by simpa using hk
    have HR := Lib.hid (show mayB W H n = false by unfold mayB; rw [hk']; rfl)
    rw [hk']
    clear hk hk'
    go_wp2_with fail
    go_ret
    exact ⟨ret_bool HR.out.symm, hb⟩

set_option maxRecDepth 100000 in
set_option maxHeartbeats 1000000 in
theorem rmay_any (W H : Int) (A : Option Addr) (n c : Nat) (w : World) : Calls Try.prog 29 #[.agg #[.int .i64 W, .int .i64 H, .slice A n c]] w fun e w' => e = .returned (.bool (mayB W H n)) ∧ Below w.heap.size w w' := by
  go_enter Try.func29, Try.ntmps29
  go_wp2_with fail
  generalize hW0 : w.alloc _ = W0 at *
  have c0 : W0.cell? ⟨w.heap.size, 0, none⟩ = some (.int .i64 W) := by rw [← hW0]; simp [go_sem]
  have c1 : W0.cell? ⟨w.heap.size, 1, none⟩ = some (.int .i64 H) := by rw [← hW0]; simp [go_sem]
  have c2 : W0.cell? ⟨w.heap.size, 2, none⟩ = some (.slice A n c) := by rw [← hW0]; simp [go_sem]
  have hb : Below w.heap.size w W0 := by rw [← hW0]; exact ba (brefl w) _
  clear hW0
  refine (rsize_any W W0).mono ?_
  rintro e w' ⟨rfl, rfl⟩
  by_cases hkW : okS W = true
  · rw [hkW]
    go_wp2_with fail
    refine (rsize_any H W0).mono ?_
    rintro e w' ⟨rfl, rfl⟩
    by_cases hkH : okS H = true
    · obtain ⟨m0, m1⟩ := mul_bd (okS_t hkW) (okS_t hkH)
      obtain ⟨w0, w1⟩ := okS_t hkW
      obtain ⟨h0, h1⟩ := okS_t hkH
      have HR := Lib.hid (show mayB W H n = ((n : Int) == 3 * W * H) by unfold mayB; rw [hkW, hkH]; rfl)
      rw [hkH]
      clear hkW hkH
      go_wp2_with fail
      go_ret
      exact ⟨ret_bool HR.out.symm, hb⟩
    · have hk' : okS H = false := by simpa using hkH
      have HR := Lib.hid (show mayB W H n = false by unfold mayB; rw [hkW, hk']; rfl)
      rw [hk']
      clear hkW hkH hk'
      go_wp2_with fail
      go_ret
      exact ⟨ret_bool HR.out.symm, hb⟩
  · have hk' : okS W = false := by simpa using hkW
    have HR := Lib.hid (show mayB W H n = false by unfold mayB; rw [hk']; rfl)
    rw [hk']
    clear hkW hk'
    go_wp2_with fail
    go_ret
    exact ⟨ret_bool HR.out.symm, hb⟩
end Go.Proofs.Ytajobboldjgidaa
