/- The reference's right. -/
import Derived.Test.YtckkncblbagfmaaCfS
namespace Go.Proofs.Ytckkncblbagfmaa
open Go.RowKit
open Go.Tin
set_option linter.unusedVariables false
set_option linter.unusedSimpArgs false


theorem tmod16 (s : Int) (h : 0 ≤ s) : Int.tmod s 16 = s % 16 := Int.tmod_eq_emod_of_nonneg h
theorem okS_iff (a s V N c most : Int) : okS a s V N c most = true ↔ (vaB V N = true ∧ a = c ∧ 0 ≤ s ∧ s ≤ 255 ∧ s % 16 ≤ most ∧ N = s % 16) := by simp [okS]
set_option maxRecDepth 100000 in
set_option maxHeartbeats 4000000 in
theorem right_any (a s V N c most : Int) (w : World) (wV : (Lit.int .i64 V).wf = true) (wN : (Lit.int .i64 N).wf = true) :
    Calls Try.prog 26 #[.agg #[.int .i64 a, .int .i64 s, .int .i64 V, .int .i64 N], .int .i64 c, .int .i64 most] w fun e w' => e = .returned (.bool (okS a s V N c most)) ∧ Below w.heap.size w w' := by
  have HV := Lib.hid (fun W => rvalue_any V N W wV wN)
  clear wV wN
  go_enter Try.func26, Try.ntmps26
  have HR := Lib.hid (heap_alloc_new w (.cells #[.int .i64 a, .int .i64 s, .int .i64 V, .int .i64 N] 45))
  have HB := Lib.hid (ba (brefl w) (.cells #[.int .i64 a, .int .i64 s, .int .i64 V, .int .i64 N] 45))
  have q2 := row_cell HR.out 2 rfl
  have q3 := row_cell HR.out 3 rfl
  go_wp2_with fail
  refine (HV.out _).mono ?_
  rintro e w' ⟨rfl, hb⟩
  have HR' := Lib.hid ((hb.block _ (row_lt HR.out)).trans HR.out)
  have HB' := Lib.hid (HB.out.trans (hb.mono HB.out.size))
  clear HB hb HR q2 q3
  have q0 : w'.cell? ⟨w.heap.size, 0, none⟩ = some (.int .i64 a) := row_cell HR'.out 0 rfl
  have q1 : w'.cell? ⟨w.heap.size, 1, none⟩ = some (.int .i64 s) := row_cell HR'.out 1 rfl
  have q3 : w'.cell? ⟨w.heap.size, 3, none⟩ = some (.int .i64 N) := row_cell HR'.out 3 rfl
  by_cases h1 : vaB V N = true
  case neg =>
    have hk : okS a s V N c most = false := by
      have : ¬ okS a s V N c most = true := by rw [okS_iff]; exact fun h => h1 h.1
      simpa using this
    have HK := Lib.hid hk
    have h1 : vaB V N = false := by simpa using h1
    rw [h1]
    clear hk h1
    go_wp2_with fail
    go_ret
    exact ⟨by rw [HK.out]; rfl, HB'.out⟩
  rw [h1]
  by_cases h2 : a = c
  case neg =>
    have hk : okS a s V N c most = false := by
      have : ¬ okS a s V N c most = true := by rw [okS_iff]; exact fun h => h2 h.2.1
      simpa using this
    have HK := Lib.hid hk
    have d2 : (a == c) = false := by simpa using h2
    clear hk h1 h2
    go_wp2_with fail
    go_ret
    exact ⟨by rw [HK.out]; rfl, HB'.out⟩
  have d2 : (a == c) = true := by simpa using h2
  by_cases h3 : 0 ≤ s
  case neg =>
    have hk : okS a s V N c most = false := by
      have : ¬ okS a s V N c most = true := by rw [okS_iff]; exact fun h => h3 h.2.2.1
      simpa using this
    have HK := Lib.hid hk
    clear hk h1 h2
    go_wp2_with fail
    go_ret
    exact ⟨by rw [HK.out]; rfl, HB'.out⟩
  by_cases h4 : s ≤ 255
  case neg =>
    have hk : okS a s V N c most = false := by
      have : ¬ okS a s V N c most = true := by rw [okS_iff]; exact fun h => h4 h.2.2.2.1
      simpa using this
    have HK := Lib.hid hk
    clear hk h1 h2
    go_wp2_with fail
    go_ret
    exact ⟨by rw [HK.out]; rfl, HB'.out⟩
  by_cases h5 : s % 16 ≤ most
  case neg =>
    have hk : okS a s V N c most = false := by
      have : ¬ okS a s V N c most = true := by rw [okS_iff]; exact fun h => h5 h.2.2.2.2.1
      simpa using this
    have HK := Lib.hid hk
    clear hk h1 h2
    go_wp2_with fail
    go_ret
    exact ⟨by rw [HK.out]; rfl, HB'.out⟩
  have hk : okS a s V N c most = (N == s % 16) := by
    unfold okS
    rw [h1, h2]
    simp [h3, h4, h5]
  have HK := Lib.hid hk
  clear hk h1 h2
  go_wp2_with fail
  go_ret
  exact ⟨by rw [HK.out]; rfl, HB'.out⟩
end Go.Proofs.Ytckkncblbagfmaa
