/- The contract of a kind's put. -/
import Derived.Test.YtmdcdmgbillehaaTyO
import Derived.Test.YtmdcdmgbillehaaOcH
namespace Go.Proofs.Ytmdcdmgbillehaa
open Go.RowKit
open Go.Tin
set_option linter.unusedVariables false
set_option linter.unusedSimpArgs false


def kpL (k n : Int) : List Int := if nmB k n then nmL k n else []
theorem is_sg (k : Int) : (isT k == 2 || isT k == 4) = sgT k := by
  by_cases h : k < 0 ∨ 12 < k
  · rw [(kd_no h).2.2]
    unfold sgT
    symm
    apply decide_eq_false
    omega
  · rcases n13 (show 0 ≤ k by omega) (by omega) with rfl | rfl | rfl | rfl | rfl | rfl | rfl | rfl | rfl | rfl | rfl | rfl | rfl <;> decide
set_option maxRecDepth 100000 in
set_option maxHeartbeats 4000000 in
theorem kput_any (k n : Int) (w : World) :
    Calls Try.prog 38 #[.agg #[.int .i64 (szT k), .int .i64 (prT k), .int .i64 (isT k)], .int .i64 n] w fun e w' => ∃ A c, e = .returned (.tuple #[.slice A (kpL k n).length c, .bool (nmB k n)]) ∧ Own .u8 5 w' w.heap.size (.slice A (kpL k n).length c) (kpL k n) ∧ Below w.heap.size w w' := by
  have HB := Lib.hid (ba (brefl w) (.cells #[.int .i64 (szT k), .int .i64 (prT k), .int .i64 (isT k)] 58))
  have HR := Lib.hid (heap_alloc_new w (.cells #[.int .i64 (szT k), .int .i64 (prT k), .int .i64 (isT k)] 58))
  have HDB := Lib.hid (show nmB k n = ((!sgT k || plB n (prT k)) && putB (nmV k n) (prT k) 2) ∧ nmV k n = (if sgT k then plN n (prT k) else n) ∧ nmL k n = putL (nmV k n) (prT k) 2 ∧ kpL k n = (if nmB k n then nmL k n else []) from ⟨rfl, rfl, rfl, rfl⟩)
  have HSG := Lib.hid (is_sg k)
  have k1 := row_cell (v := .int .i64 (prT k)) HR.out 1 rfl
  have k2 := row_cell (v := .int .i64 (isT k)) HR.out 2 rfl
  cases hsg : sgT k with
  | false =>
    have h2 : (isT k == 2) = false := by
      have := HSG.out; rw [hsg] at this
      cases h : (isT k == 2) with
      | false => rfl
      | true => rw [h] at this; cases this
    have h4 : (isT k == 4) = false := by
      have := HSG.out; rw [hsg, h2] at this; simpa using this
    have HV := Lib.hid (show nmV k n = n by rw [HDB.out.2.1, hsg]; rfl)
    have HN := Lib.hid (show nmB k n = putB n (prT k) 2 by rw [HDB.out.1, hsg, HV.out]; rfl)
    have HKL := Lib.hid (show kpL k n = putL n (prT k) 2 by
      rw [HDB.out.2.2.2, HDB.out.2.2.1, HN.out, HV.out]
      cases hp : putB n (prT k) 2 with
      | true => rfl
      | false => unfold putL; rw [hp]; rfl)
    clear hsg
    go_enter Try.func38, Try.ntmps38
    go_wp2_with fail
    refine (put_any n (prT k) 2 _).mono ?_
    rintro e w1 ⟨A1, c1, rfl, ho1, hb1⟩
    have HO1 := Lib.hid (ho1.mono HB.out.size)
    have HB1 := Lib.hid (HB.out.trans (hb1.mono HB.out.size))
    clear ho1 hb1
    rw [← HKL.out] at HO1
    rw [← HKL.out, ← HN.out]
    obtain ⟨L, hL⟩ : ∃ L, L = kpL k n := ⟨_, rfl⟩
    obtain ⟨Bq, hBq⟩ : ∃ L, L = nmB k n := ⟨_, rfl⟩
    rw [← hL] at HO1
    rw [← hL, ← hBq]
    have HQ := Lib.hid (show kpL k n = L ∧ nmB k n = Bq from ⟨hL.symm, hBq.symm⟩)
    clear hL hBq HKL HN
    go_wp2_with fail
    go_ret2
    rw [HQ.out.1, HQ.out.2]
    exact ⟨A1, c1, rfl, HO1.out, HB1.out⟩
  | true =>
    have HV := Lib.hid (show nmV k n = plN n (prT k) by rw [HDB.out.2.1, hsg]; rfl)
    have HN := Lib.hid (show nmB k n = (plB n (prT k) && putB (plN n (prT k)) (prT k) 2) by rw [HDB.out.1, hsg, HV.out]; rfl)
    have step : (isT k == 2) = true ∨ ((isT k == 2) = false ∧ (isT k == 4) = true) := by
      have := HSG.out; rw [hsg] at this
      cases h : (isT k == 2) with
      | true => exact .inl rfl
      | false => rw [h] at this; exact .inr ⟨rfl, by simpa using this⟩
    clear hsg
    rcases step with s2 | ⟨s2, s4⟩
    all_goals
      go_enter Try.func38, Try.ntmps38
      go_wp2_with fail
      refine (plain_any n (prT k) _).mono ?_
      rintro e w1 ⟨rfl, hb1⟩
      have HR1 := Lib.hid ((hb1.block _ (row_lt HR.out)).trans HR.out)
      have HB1 := Lib.hid (HB.out.trans (hb1.mono HB.out.size))
      clear hb1
      cases hpb : plB n (prT k) with
      | false =>
        have HE := Lib.hid (show nmB k n = false by rw [HN.out, hpb]; rfl)
        have HEL := Lib.hid (show kpL k n = [] by rw [HDB.out.2.2.2, HE.out]; rfl)
        clear hpb
        go_wp2_with fail
        go_ret2
        rw [HE.out, HEL.out]
        exact ⟨none, 0, rfl, Own.nil_ _ _ _ _, HB1.out⟩
      | true =>
        have HN2 := Lib.hid (show nmB k n = putB (plN n (prT k)) (prT k) 2 by rw [HN.out, hpb]; rfl)
        have HKL := Lib.hid (show kpL k n = putL (plN n (prT k)) (prT k) 2 by
          rw [HDB.out.2.2.2, HDB.out.2.2.1, HN2.out, HV.out]
          cases hp : putB (plN n (prT k)) (prT k) 2 with
          | true => rfl
          | false => unfold putL; rw [hp]; rfl)
        clear hpb k1 k2
        have q1 := row_cell (v := .int .i64 (prT k)) HR1.out 1 rfl
        have HPU := Lib.hid (fun W => put_any (plN n (prT k)) (prT k) 2 W)
        rw [← HKL.out, ← HN2.out] at HPU
        obtain ⟨L, hL⟩ : ∃ L, L = kpL k n := ⟨_, rfl⟩
        obtain ⟨Bq, hBq⟩ : ∃ L, L = nmB k n := ⟨_, rfl⟩
        rw [← hL, ← hBq] at HPU
        have HQ := Lib.hid (show kpL k n = L ∧ nmB k n = Bq from ⟨hL.symm, hBq.symm⟩)
        clear hL hBq HKL HN2 HN HV HDB
        generalize plN n (prT k) = V at *
        go_wp2_with fail
        refine (HPU.out _).mono ?_
        rintro e w2 ⟨A2, c2, rfl, ho2, hb2⟩
        have HO2 := Lib.hid (ho2.mono HB1.out.size)
        have HB2 := Lib.hid (HB1.out.trans (hb2.mono HB1.out.size))
        clear ho2 hb2
        go_wp2_with fail
        go_ret2
        rw [HQ.out.1, HQ.out.2]
        exact ⟨A2, c2, rfl, HO2.out, HB2.out⟩
end Go.Proofs.Ytmdcdmgbillehaa
