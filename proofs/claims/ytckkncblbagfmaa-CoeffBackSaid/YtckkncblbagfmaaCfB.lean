/- The contracts of Extra, of both packages. -/
import Derived.Test.YtckkncblbagfmaaCfA
namespace Go.Proofs.Ytckkncblbagfmaa
open Go.RowKit
open Go.Tin
set_option linter.unusedVariables false
set_option linter.unusedSimpArgs false


theorem shl64 (m : Nat) (h : m ≤ 16) : wrap64 ((2 : Int) ^ m) = 2 ^ m := by
  obtain ⟨p1, p2⟩ := pow_top m h
  unfold wrap64
  omega
theorem wf_sz (v : Int) : (Lit.int .i64 (sz v)).wf = true := by
  rcases sz_cases v with ⟨m, h, hm, _⟩ | ⟨h, _⟩
  · rw [h]
    show (decide (IntKind.i64.min ≤ (m : Int)) && decide ((m : Int) ≤ IntKind.i64.max)) = true
    rw [min64, max64]; simp; omega
  · rw [h]; rfl
set_option maxHeartbeats 1000000 in
theorem extra_any (v : Int) (w : World) (wv : (Lit.int .i64 v).wf = true) : Calls Try.prog 7 #[.int .i64 v] w fun e w' => e = .returned (.tuple #[.agg #[.int .i64 (exV v), .int .i64 (exN v)], .bool (exB v)]) ∧ Below w.heap.size w w' := by
  obtain ⟨h0, h1⟩ := wf64 wv
  have HS := Lib.hid (fun W => size_any v W wv)
  clear wv
  rcases sz_cases v with ⟨m, hm, hs⟩ | ⟨hm, _⟩
  · obtain ⟨e1, e2, e3⟩ := ex_of hs
    obtain ⟨k1, k2, k3, -⟩ := hs
    obtain ⟨p1, p2⟩ := pow_top m (by omega)
    have hsh := shl64 m (by omega)
    rw [hm] at HS
    clear hm
    by_cases hv : v < 0
    · rw [if_pos hv] at e1
      have HE := Lib.hid (show exV v = v + (2 ^ m - 1) ∧ exN v = (m : Int) ∧ exB v = true from ⟨e1, e2, e3⟩)
      clear e1 e2 e3
      go_enter Try.func7, Try.ntmps7
      go_wp2_with fail
      refine (HS.out _).mono ?_
      rintro e w' ⟨rfl, rfl⟩
      go_wp2_with fail
      refine bodyPost_ret (v := .tuple #[.agg #[.int .i64 (exV v), .int .i64 (exN v)], .bool (exB v)]) (by rw [HE.out.1, HE.out.2.1, HE.out.2.2]; simp [results, Try.results7, go_sem]) rfl ⟨rfl, ?_⟩
      exact ba (brefl w) _
    · rw [if_neg hv] at e1
      have hv' : 0 ≤ v := by omega
      have HE := Lib.hid (show exV v = v ∧ exN v = (m : Int) ∧ exB v = true from ⟨e1, e2, e3⟩)
      clear e1 e2 e3
      go_enter Try.func7, Try.ntmps7
      go_wp2_with fail
      refine (HS.out _).mono ?_
      rintro e w' ⟨rfl, rfl⟩
      go_wp2_with fail
      refine bodyPost_ret (v := .tuple #[.agg #[.int .i64 (exV v), .int .i64 (exN v)], .bool (exB v)]) (by rw [HE.out.1, HE.out.2.1, HE.out.2.2]; simp [results, Try.results7, go_sem]) rfl ⟨rfl, ?_⟩
      exact ba (brefl w) _
  · have HE := Lib.hid (show exV v = 0 ∧ exN v = 0 ∧ exB v = false by unfold exV exN exB; rw [hm]; exact ⟨rfl, rfl, rfl⟩)
    rw [hm] at HS
    clear hm
    go_enter Try.func7, Try.ntmps7
    go_wp2_with fail
    refine (HS.out _).mono ?_
    rintro e w' ⟨rfl, rfl⟩
    go_wp2_with fail
    refine bodyPost_ret (v := .tuple #[.agg #[.int .i64 (exV v), .int .i64 (exN v)], .bool (exB v)]) (by rw [HE.out.1, HE.out.2.1, HE.out.2.2]; simp [results, Try.results7, go_sem]) rfl ⟨rfl, ?_⟩
    exact ba (brefl w) _
set_option maxHeartbeats 1000000 in
theorem rextra_any (v : Int) (w : World) (wv : (Lit.int .i64 v).wf = true) (hs0 : 0 ≤ sz v) : Calls Try.prog 10 #[.int .i64 v] w fun e w' => e = .returned (.agg #[.int .i64 (exV v), .int .i64 (exN v)]) ∧ Below w.heap.size w w' := by
  obtain ⟨h0, h1⟩ := wf64 wv
  have HS := Lib.hid (fun W => rsize_any v W wv)
  clear wv
  obtain ⟨m, hm, hs⟩ : ∃ m : Nat, sz v = (m : Int) ∧ szIs v m := by
    rcases sz_cases v with h | ⟨h, _⟩
    · exact h
    · omega
  obtain ⟨e1, e2, e3⟩ := ex_of hs
  obtain ⟨k1, k2, k3, -⟩ := hs
  obtain ⟨p1, p2⟩ := pow_top m (by omega)
  have hsh := shl64 m (by omega)
  rw [hm] at HS
  clear hm hs0
  by_cases hv : v < 0
  · rw [if_pos hv] at e1
    have HE := Lib.hid (show exV v = v + 2 ^ m - 1 ∧ exN v = (m : Int) from ⟨by omega, e2⟩)
    clear e1 e2 e3
    go_enter Try.func10, Try.ntmps10
    go_wp2_with fail
    refine (HS.out _).mono ?_
    rintro e w' ⟨rfl, rfl⟩
    go_wp2_with fail
    refine bodyPost_ret (v := .agg #[.int .i64 (exV v), .int .i64 (exN v)]) (by rw [HE.out.1, HE.out.2]; simp [results, Try.results10, go_sem]) rfl ⟨rfl, ?_⟩
    exact ba (brefl w) _
  · rw [if_neg hv] at e1
    have hv' : 0 ≤ v := by omega
    have HE := Lib.hid (show exV v = v ∧ exN v = (m : Int) from ⟨e1, e2⟩)
    clear e1 e2 e3
    go_enter Try.func10, Try.ntmps10
    go_wp2_with fail
    refine (HS.out _).mono ?_
    rintro e w' ⟨rfl, rfl⟩
    go_wp2_with fail
    refine bodyPost_ret (v := .agg #[.int .i64 (exV v), .int .i64 (exN v)]) (by rw [HE.out.1, HE.out.2]; simp [results, Try.results10, go_sem]) rfl ⟨rfl, ?_⟩
    exact ba (brefl w) _
end Go.Proofs.Ytckkncblbagfmaa
