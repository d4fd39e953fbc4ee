/- Texts put together: TzA, TzB, TzC, TzD, TzE, TzF, TzG, TzH, TzI, TzL. -/
import Derived.Test.YtmdcdmgbillehaaTy
import Derived.Test.YtmdcdmgbillehaaOc
import Derived.Lib.Bytealg
import Derived.Test.YtmdcdmgbillehaaLb
/- The contract of a kind's put. -/
namespace Go.Proofs.Ytmdcdmgbillehaa
open Go.RowKit
open Go.Tin
set_option linter.unusedVariables false
set_option linter.unusedSimpArgs false


def kpL (k n : Int) : List Int := if nmB k n then nmL k n else []
theorem is_sg (k : Int) : (isT k == 2 || isT k == 4) = sgT k := by
  by_cases h : k < 0 ∨ 12 < k
  · rw [(kd_no h).2.2]
    unfold sgT
    symm
    apply decide_eq_false
    omega
  · rcases n13 (show 0 ≤ k by omega) (by omega) with rfl | rfl | rfl | rfl | rfl | rfl | rfl | rfl | rfl | rfl | rfl | rfl | rfl <;> decide
set_option maxRecDepth 100000 in
set_option maxHeartbeats 4000000 in
theorem kput_any (k n : Int) (w : World) :
    Calls Try.prog 38 #[.agg #[.int .i64 (szT k), .int .i64 (prT k), .int .i64 (isT k)], .int .i64 n] w fun e w' => ∃ A c, e = .returned (.tuple #[.slice A (kpL k n).length c, .bool (nmB k n)]) ∧ Own .u8 5 w' w.heap.size (.slice A (kpL k n).length c) (kpL k n) ∧ Below w.heap.size w w' := by
  have HB := Lib.hid (ba (brefl w) (.cells #[.int .i64 (szT k), .int .i64 (prT k), .int .i64 (isT k)] 58))
  have HR := Lib.hid (heap_alloc_new w (.cells #[.int .i64 (szT k), .int .i64 (prT k), .int .i64 (isT k)] 58))
  have HDB := Lib.hid (show nmB k n = ((!sgT k || plB n (prT k)) && putB (nmV k n) (prT k) 2) ∧ nmV k n = (if sgT k then plN n (prT k) else n) ∧ nmL k n = putL (nmV k n) (prT k) 2 ∧ kpL k n = (if nmB k n then nmL k n else []) from ⟨rfl, rfl, rfl, rfl⟩)
  have HSG := Lib.hid (is_sg k)
  have k1 := row_cell (v := .int .i64 (prT k)) HR.out 1 rfl
  have k2 := row_cell (v := .int .i64 (isT k)) HR.out 2 rfl
  cases hsg : sgT k with
  | false =>
    have h2 : (isT k == 2) = false := by
      have := HSG.out; rw [hsg] at this
      cases h : (isT k == 2) with
      | false => rfl
      | true => rw [h] at this; cases this
    have h4 : (isT k == 4) = false := by
      have := HSG.out; rw [hsg, h2] at this; simpa using this
    have HV := Lib.hid (show nmV k n = n by rw [HDB.out.2.1, hsg]; rfl)
    have HN := Lib.hid (show nmB k n = putB n (prT k) 2 by rw [HDB.out.1, hsg, HV.out]; rfl)
    have HKL := Lib.hid (show kpL k n = putL n (prT k) 2 by
      rw [HDB.out.2.2.2, HDB.out.2.2.1, HN.out, HV.out]
      cases hp : putB n (prT k) 2 with
      | true => rfl
      | false => unfold putL; rw [hp]; rfl)
    clear hsg
    go_enter Try.func38, Try.ntmps38
    go_wp2_with fail
    refine (put_any n (prT k) 2 _).mono ?_
    rintro e w1 ⟨A1, c1, rfl, ho1, hb1⟩
    have HO1 := Lib.hid (ho1.mono HB.out.size)
    have HB1 := Lib.hid (HB.out.trans (hb1.mono HB.out.size))
    clear ho1 hb1
    rw [← HKL.out] at HO1
    rw [← HKL.out, ← HN.out]
    obtain ⟨L, hL⟩ : ∃ L, L = kpL k n := ⟨_, rfl⟩
    obtain ⟨Bq, hBq⟩ : ∃ L, L = nmB k n := ⟨_, rfl⟩
    rw [← hL] at HO1
    rw [← hL, ← hBq]
    have HQ := Lib.hid (show kpL k n = L ∧ nmB k n = Bq from ⟨hL.symm, hBq.symm⟩)
    clear hL hBq HKL HN
    go_wp2_with fail
    go_ret2
    rw [HQ.out.1, HQ.out.2]
    exact ⟨A1, c1, rfl, HO1.out, HB1.out⟩
  | true =>
    have HV := Lib.hid (show nmV k n = plN n (prT k) by rw [HDB.out.2.1, hsg]; rfl)
    have HN := Lib.hid (show nmB k n = (plB n (prT k) && putB (plN n (prT k)) (prT k) 2) by rw [HDB.out.1, hsg, HV.out]; rfl)
    have step : (isT k == 2) = true ∨ ((isT k == 2) = false ∧ (isT k == 4) = true) := by
      have := HSG.out; rw [hsg] at this
      cases h : (isT k == 2) with
      | true => exact .inl rfl
      | false => rw [h] at this; exact .inr ⟨rfl, by simpa using this⟩
    clear hsg
    rcases step with s2 | ⟨s2, s4⟩
    all_goals
      go_enter Try.func38, Try.ntmps38
      go_wp2_with fail
      refine (plain_any n (prT k) _).mono ?_
      rintro e w1 ⟨rfl, hb1⟩
      have HR1 := Lib.hid ((hb1.block _ (row_lt HR.out)).trans HR.out)
      have HB1 := Lib.hid (HB.out.trans (hb1.mono HB.out.size))
      clear hb1
      cases hpb : plB n (prT k) with
      | false =>
        have HE := Lib.hid (show nmB k n = false by rw [HN.out, hpb]; rfl)
        have HEL := Lib.hid (show kpL k n = [] by rw [HDB.out.2.2.2, HE.out]; rfl)
        clear hpb
        go_wp2_with fail
        go_ret2
        rw [HE.out, HEL.out]
        exact ⟨none, 0, rfl, Own.nil_ _ _ _ _, HB1.out⟩
      | true =>
        have HN2 := Lib.hid (show nmB k n = putB (plN n (prT k)) (prT k) 2 by rw [HN.out, hpb]; rfl)
        have HKL := Lib.hid (show kpL k n = putL (plN n (prT k)) (prT k) 2 by
          rw [HDB.out.2.2.2, HDB.out.2.2.1, HN2.out, HV.out]
          cases hp : putB (plN n (prT k)) (prT k) 2 with
          | true => rfl
          | false => unfold putL; rw [hp]; rfl)
        clear hpb k1 k2
        have q1 := row_cell (v := .int .i64 (prT k)) HR1.out 1 rfl
        have HPU := Lib.hid (fun W => put_any (plN n (prT k)) (prT k) 2 W)
        rw [← HKL.out, ← HN2.out] at HPU
        obtain ⟨L, hL⟩ : ∃ L, L = kpL k n := ⟨_, rfl⟩
        obtain ⟨Bq, hBq⟩ : ∃ L, L = nmB k n := ⟨_, rfl⟩
        rw [← hL, ← hBq] at HPU
        have HQ := Lib.hid (show kpL k n = L ∧ nmB k n = Bq from ⟨hL.symm, hBq.symm⟩)
        clear hL hBq HKL HN2 HN HV HDB
        generalize plN n (prT k) = V at *
        go_wp2_with fail
        refine (HPU.out _).mono ?_
        rintro e w2 ⟨A2, c2, rfl, ho2, hb2⟩
        have HO2 := Lib.hid (ho2.mono HB1.out.size)
        have HB2 := Lib.hid (HB1.out.trans (hb2.mono HB1.out.size))
        clear ho2 hb2
        go_wp2_with fail
        go_ret2
        rw [HQ.out.1, HQ.out.2]
        exact ⟨A2, c2, rfl, HO2.out, HB2.out⟩
end Go.Proofs.Ytmdcdmgbillehaa
/- The contract of made: a value of numbers. -/
namespace Go.Proofs.Ytmdcdmgbillehaa
open Go.RowKit
open Go.Tin
set_option linter.unusedVariables false
set_option linter.unusedSimpArgs false


set_option maxRecDepth 100000 in
set_option maxHeartbeats 8000000 in
theorem made_any (k : Int) (A : Option Addr) (l : List Int) (cap : Nat) (w : World) (hs : Sl .i64 w A l) (hl : l.length ≤ 1000000) :
    Calls Try.prog 37 #[.int .i64 k, .slice A l.length cap, .func (.func 38) #[.agg #[.int .i64 (szT k), .int .i64 (prT k), .int .i64 (isT k)]] #[]] w fun e w' => ∃ A' c', e = .returned (.tuple #[.agg (vrow (on (rofB k (l.length : Int) l) k) (on (rofB k (l.length : Int) l) (l.length : Int)) A' (rofL k (l.length : Int) l).length c'), .bool (rofB k (l.length : Int) l)]) ∧ Own .u8 5 w' w.heap.size (.slice A' (rofL k (l.length : Int) l).length c') (rofL k (l.length : Int) l) ∧ Below w.heap.size w w' := by
  obtain ⟨W, hW⟩ : ∃ W, W = (w.alloc (.cells (vrow 0 0 none 0 0) 27)).alloc (.cells (vrow k (l.length : Int) none 0 0) 27) := ⟨_, rfl⟩
  have HB := Lib.hid (show Below w.heap.size w W by rw [hW]; exact ba (ba (brefl w) _) _)
  have HX := Lib.hid (show W.heap[w.heap.size]? = some (.cells (vrow 0 0 none 0 0) 27 (0, 0)) by rw [hW, Below.heap_alloc _ _ _ (by simp)]; exact heap_alloc_new w _)
  have HR := Lib.hid (show W.heap[w.heap.size + 1]? = some (.cells (vrow k (l.length : Int) none 0 0) 27 (0, 0)) by
    have := heap_alloc_new (w.alloc (.cells (vrow 0 0 none 0 0) 27)) (.cells (vrow k (l.length : Int) none 0 0) 27)
    rw [hW]
    simpa using this)
  have hsz : W.heap.size = w.heap.size + 2 := by rw [hW]; simp
  have HS := Lib.hid hs
  have HED := Lib.hid (show rofB k (l.length : Int) l = (nmsB k l && mayV k (l.length : Int) (nmsL k l)) ∧ rofL k (l.length : Int) l = (if rofB k (l.length : Int) l then nmsL k l else []) from ⟨rfl, rfl⟩)
  have HE0 := Lib.hid (show rofB k (l.length : Int) l = false → rofL k (l.length : Int) l = [] ∧ on (rofB k (l.length : Int) l) k = 0 ∧ on (rofB k (l.length : Int) l) (l.length : Int) = 0 from fun h => ⟨by unfold rofL; rw [h]; rfl, by rw [h]; rfl, by rw [h]; rfl⟩)
  clear hs
  go_enter Try.func37, Try.ntmps37
  go_wp2_with fail
  rw [← hW]
  clear hW
  go_loopw [19] (fun s9 wr => ∃ (i : Nat) (A1 : Option Addr) (c1 : Nat), i ≤ l.length ∧ s9 = .int .i64 (i : Int) ∧ nmsB k (l.take i) = true ∧ wr.heap[w.heap.size + 1]? = some (.cells (vrow k (l.length : Int) A1 (nmsL k (l.take i)).length c1) 27 (0, 0)) ∧ Own .u8 5 wr W.heap.size (.slice A1 (nmsL k (l.take i)).length c1) (nmsL k (l.take i)) ∧ Below (w.heap.size + 1) W wr) (fun s9 _ => l.length - (intOf s9).toNat)
  case atStart => exact ⟨0, none, 0, by omega, rfl, by simp [nmsB], by simpa [nmsL] using HR.out, by simpa [nmsL] using Own.nil_ _ _ _ _, Below.refl _ _⟩
  case round =>
    obtain ⟨i, A1, c1, hi, rfl, hok, hrow, hown, hb⟩ := hrel
    have HOK := Lib.hid hok
    have HRW := Lib.hid hrow
    have HO := Lib.hid hown
    have HB1 := Lib.hid hb
    have HBw := Lib.hid (HB.out.trans (hb.mono (Nat.le_succ _)))
    have HZ := Lib.hid ((hb.block _ (Nat.lt_succ_self _)).trans HX.out)
    have hs1 : W.heap.size ≤ wr.heap.size := hb.size
    clear hok hrow hown hb
    by_cases hil : i < l.length
    · have i1 : (i : Int) < (l.length : Int) := by omega
      have hsl := HS.out.keep HBw.out
      obtain ⟨q, off, rfl, hql, hqc⟩ := hsl.at_ (by omega)
      have kx : wr.cell? ⟨q, off + i, none⟩ = some (.int .i64 (nth l i)) := hqc i hil
      have HTN := Lib.hid (take_next hil)
      have HNF := Lib.hid (nmsB_false k l i hil)
      have HPR := Lib.hid (nmsL_le k (l.take i))
      clear hsl hqc
      generalize nth l i = N at *
      have HKL := Lib.hid (show kpL k N = (if nmB k N then nmL k N else []) from rfl)
      go_wp2_with fail
      refine (kput_any k N wr).mono ?_
      rintro e w3 ⟨A3, c3, rfl, ho3, hb3⟩
      have HP3 := Lib.hid ho3
      have HO3 := Lib.hid (HO.out.keep hb3)
      have HR3 := Lib.hid ((hb3.block _ (row_lt HRW.out)).trans HRW.out)
      have HZ3 := Lib.hid ((hb3.block _ (row_lt HZ.out)).trans HZ.out)
      have HB3 := Lib.hid (HB1.out.trans (hb3.mono (show w.heap.size + 1 ≤ wr.heap.size by omega)))
      have HBw3 := Lib.hid (HBw.out.trans (hb3.mono HBw.out.size))
      have hs3 : wr.heap.size ≤ w3.heap.size := hb3.size
      have HPL := Lib.hid (show (kpL k N).length ≤ 4 by rw [HKL.out]; split; exact putL_le4 _ _ _; simp)
      clear ho3 hb3 HO HRW HZ HB1 HBw kx
      cases hpt : nmB k N with
      | false =>
        have HE := Lib.hid (show rofB k (l.length : Int) l = false by rw [HED.out.1, HNF.out hpt]; rfl)
        have HEz := Lib.hid (HE0.out HE.out)
        clear hpt
        generalize kpL k N = PL at *
        go_wp2_with ((with_reducible refine wpl_store_row rtV ?_ (.tmp 6) (.tmp 31) ?_ (w.heap.size) ?_ (vrow 0 0 none 0 0) ?_ (vrow_one _ _ _ _ _) 27 ?_ _ ?_ HZ3.out ?_); rfl; rfl; rfl; rfl; rfl; rfl; intro w7 hr7 hg7 hs7; (try simp only [Act.put]))
        rw [HEz.out.2.1, HEz.out.2.2, HEz.out.1, HE.out]
        exact bodyPost_ret (res_row_tmp rtV rfl _ _ w.heap.size 27 (vrow 0 0 none 0 0) rfl (.bool false) rfl rfl hr7) rfl ⟨none, 0, rfl, Own.nil_ _ _ _ _, HBw3.out.grown hg7 HBw3.out.size (fun k hk => by cases hk; exact Nat.le_refl _)⟩

      | true =>
        have HNBT := Lib.hid hpt
        have HOK' := Lib.hid (show nmsB k (l.take (i + 1)) = true by rw [HTN.out, nmsB_app, HOK.out]; show (true && (nmB k N && true)) = true; rw [HNBT.out]; rfl)
        have HLS := Lib.hid (show nmsL k (l.take (i + 1)) = nmsL k (l.take i) ++ kpL k N by rw [HTN.out, nmsL_app, HKL.out, HNBT.out, if_pos rfl]; show _ ++ (nmL k N ++ []) = _; rw [List.append_nil])
        have hLi : (l.take i).length ≤ 1000000 := by rw [List.length_take]; omega
        clear hpt
        generalize kpL k N = PL at *
        generalize nmsL k (l.take i) = L at *
        have k2 := row_cell (v := .slice A1 L.length c1) HR3.out 2 rfl
        go_wp2_with (at_builtin; refine Tin.wpl_app bt5 _ rfl (.tmp 33) (.tmp 34) rfl W.heap.size (.slice A1 L.length c1) L rfl HO3.out A3 PL.length c3 PL rfl HP3.out.sl'.2 rfl (by have := HPL.out; have := HPR.out; omega) (by have := HPL.out; have := HPR.out; omega) (by omega) ?_; intro v4 w4 ho4 hg4 hw4; obtain ⟨A4, c4, rfl⟩ := own_form ho4; have HO4 := Lib.hid ho4; have HR4 := Lib.hid ((hg4.block (w.heap.size + 1) (row_lt HR3.out) (fun e => by have h1 := (World.ownsRow.lt HO3.out _ e.symm).1; omega)).trans HR3.out); have HB4 := Lib.hid (HB3.out.grown hg4 (by omega) (fun q hq => by have h1 := (World.ownsRow.lt HO3.out _ hq).1; omega)); have hs4 : w3.heap.size ≤ w4.heap.size := hg4.size; clear ho4 hg4 hw4; have q2 := row_cell (v := .slice A1 L.length c1) HR4.out 2 rfl; have y2 := frozen_of_row w4 _ 2 _ _ HR4.out)
        have hgs := grown_setCells (w.heap.size + 1) [.slice A4 (L.length + PL.length) c4] 2 w4 w4 (World.grownBy.refl w4 _)
        have HR5 := Lib.hid (row_set HR4.out 2 (.slice A4 (L.length + PL.length) c4))
        have HO5 := Lib.hid (HO4.out.kept hgs (by right; intro e; have h1 := (World.ownsRow.lt HO4.out _ e).1; omega))
        have HB5 := Lib.hid (HB4.out.grown hgs (by omega) (fun q hq => by have e' : w.heap.size + 1 = q := Option.some.inj hq; omega))
        clear hgs q2 y2 k2
        go_roundw
        case rel =>
          refine ⟨i + 1, A4, c4, by omega, by go_num, HOK'.out, ?_, ?_, HB5.out⟩
          · rw [HLS.out, List.length_append]; exact HR5.out
          · rw [HLS.out]; exact HO5.out
        case measure => simp [intOf]; omega
    · obtain rfl : i = l.length := by omega
      rw [List.take_length] at HOK HRW HO
      have HY := Lib.hid (byts_nmsL k l)
      have HL := Lib.hid (nmsL_le k l)
      have HED2 := Lib.hid (show rofB k (l.length : Int) l = mayV k (l.length : Int) (nmsL k l) by rw [HED.out.1, HOK.out]; rfl)
      generalize nmsL k l = R at *
      go_wp2_with ((with_reducible refine wpl_load_row rtV ?_ (.tmp 8) ?_ (w.heap.size + 1) ?_ 27 (vrow k (l.length : Int) A1 R.length c1) ?_ HRW.out ?_); rfl; rfl; rfl; rfl; simp only [Act.put, List.setIfInBounds_toArray, List.set_cons_succ, List.set_cons_zero])
      refine (vmay_any k (l.length : Int) A1 R c1 wr HO.out.sl'.2 (by have := HL.out; omega) HY.out).mono ?_
      rintro e w5 ⟨rfl, hb5⟩
      have HR5 := Lib.hid ((hb5.block _ (row_lt HRW.out)).trans HRW.out)
      have HZ5 := Lib.hid ((hb5.block _ (row_lt HZ.out)).trans HZ.out)
      have HB5 := Lib.hid (HBw.out.trans (hb5.mono HBw.out.size))
      have HO5 := Lib.hid (HO.out.keep hb5)
      clear hb5
      cases hmv : mayV k (l.length : Int) R with
      | false =>
        have HE := Lib.hid (HED2.out.trans hmv)
        have HEz := Lib.hid (HE0.out HE.out)
        clear hmv
        go_wp2_with ((with_reducible refine wpl_store_row rtV ?_ (.tmp 6) (.tmp 41) ?_ (w.heap.size) ?_ (vrow 0 0 none 0 0) ?_ (vrow_one _ _ _ _ _) 27 ?_ _ ?_ HZ5.out ?_); rfl; rfl; rfl; rfl; rfl; rfl; intro w7 hr7 hg7 hs7; (try simp only [Act.put]))
        rw [HEz.out.2.1, HEz.out.2.2, HEz.out.1, HE.out]
        exact bodyPost_ret (res_row_tmp rtV rfl _ _ w.heap.size 27 (vrow 0 0 none 0 0) rfl (.bool false) rfl rfl hr7) rfl ⟨none, 0, rfl, Own.nil_ _ _ _ _, HB5.out.grown hg7 HB5.out.size (fun k hk => by cases hk; exact Nat.le_refl _)⟩

      | true =>
        have HE := Lib.hid (HED2.out.trans hmv)
        have HEL := Lib.hid (show rofL k (l.length : Int) l = R by rw [HED.out.2, HE.out]; rfl)
        clear hmv
        go_wp2_with (first | ((with_reducible refine wpl_load_row rtV ?_ (.tmp 8) ?_ (w.heap.size + 1) ?_ 27 (vrow k (l.length : Int) A1 R.length c1) ?_ HR5.out ?_); rfl; rfl; rfl; rfl; simp only [Act.put, List.setIfInBounds_toArray, List.set_cons_succ, List.set_cons_zero]) | ((with_reducible refine wpl_store_row rtV ?_ (.tmp 6) (.tmp 42) ?_ (w.heap.size) ?_ (vrow k (l.length : Int) A1 R.length c1) ?_ (vrow_one _ _ _ _ _) 27 ?_ _ ?_ HZ5.out ?_); rfl; rfl; rfl; rfl; rfl; rfl; intro w7 hr7 hg7 hs7; (try simp only [Act.put])))
        rw [HEL.out, HE.out]
        exact bodyPost_ret (res_row_tmp rtV rfl _ _ w.heap.size 27 (vrow k (l.length : Int) A1 R.length c1) rfl (.bool true) rfl rfl hr7) rfl ⟨A1, c1, rfl, (HO5.out.mono (show w.heap.size ≤ W.heap.size by omega)).kept hg7 (by
          cases hq : (Value.slice A1 R.length c1).ownBlock with
          | none => exact .inl rfl
          | some q => exact .inr (fun e => by have h1 := (World.ownsRow.lt HO5.out q hq).1; have e' : q = w.heap.size := Option.some.inj e; omega)), HB5.out.grown hg7 HB5.out.size (fun k hk => by cases hk; exact Nat.le_refl _)⟩
end Go.Proofs.Ytmdcdmgbillehaa
/- The contract of OfNumbers. -/
namespace Go.Proofs.Ytmdcdmgbillehaa
open Go.RowKit
open Go.Tin
set_option linter.unusedVariables false
set_option linter.unusedSimpArgs false


theorem nu_is (k : Int) : ((isT k != 1) && (isT k != 2)) = !nuT k := by
  by_cases h : k < 0 ∨ 12 < k
  · unfold nuT
    rw [(kd_no h).2.2, (kd_no h).1]
    rfl
  · rcases n13 (show 0 ≤ k by omega) (by omega) with rfl | rfl | rfl | rfl | rfl | rfl | rfl | rfl | rfl | rfl | rfl | rfl | rfl <;> decide
set_option maxRecDepth 100000 in
set_option maxHeartbeats 8000000 in
theorem onum_any (k : Int) (A : Option Addr) (l : List Int) (cap : Nat) (w : World) (hs : Sl .i64 w A l) (hl : l.length ≤ 1000000) :
    Calls Try.prog 8 #[.int .i64 k, .slice A l.length cap] w fun e w' => ∃ A' c', e = .returned (.tuple #[.agg (vrow (on (ronB k l) k) (on (ronB k l) (l.length : Int)) A' (ronL k l).length c'), .bool (ronB k l)]) ∧ Own .u8 5 w' w.heap.size (.slice A' (ronL k l).length c') (ronL k l) ∧ Below w.heap.size w w' := by
  have HBX := Lib.hid (ba (brefl w) (.cells (vrow 0 0 none 0 0) 27))
  have HRX := Lib.hid (heap_alloc_new w (.cells (vrow 0 0 none 0 0) 27))
  have HS := Lib.hid hs
  have HED := Lib.hid (show ronB k l = (nuT k && rofB k (l.length : Int) l) ∧ ronL k l = (if ronB k l then rofL k (l.length : Int) l else []) from ⟨rfl, rfl⟩)
  have HE0 := Lib.hid (show ronB k l = false → ronL k l = [] ∧ on (ronB k l) k = 0 ∧ on (ronB k l) (l.length : Int) = 0 from fun h => ⟨by unfold ronL; rw [h]; rfl, by rw [h]; rfl, by rw [h]; rfl⟩)
  have HNU := Lib.hid (nu_is k)
  clear hs
  go_enter Try.func8, Try.ntmps8
  go_wp2_with fail
  refine (of_any k _).mono ?_
  rintro e w1 ⟨rfl, hb⟩
  have HR1 := Lib.hid ((hb.block _ (row_lt HRX.out)).trans HRX.out)
  have HB1 := Lib.hid (HBX.out.trans (hb.mono HBX.out.size))
  clear hb HBX HRX
  have hlt : w.heap.size < w1.heap.size := row_lt HR1.out
  have HB := Lib.hid (ba HB1.out (.cells #[.int .i64 (szT k), .int .i64 (prT k), .int .i64 (isT k)] 58))
  have HR := Lib.hid (show (w1.alloc (.cells #[.int .i64 (szT k), .int .i64 (prT k), .int .i64 (isT k)] 58)).heap[w.heap.size]? = some (.cells (vrow 0 0 none 0 0) 27 (0, 0)) by rw [Below.heap_alloc _ _ _ hlt]; exact HR1.out)
  have HKR := Lib.hid (heap_alloc_new w1 (.cells #[.int .i64 (szT k), .int .i64 (prT k), .int .i64 (isT k)] 58))
  have HS2 := Lib.hid (HS.out.keep HB.out)
  have HM := Lib.hid (made_any k A l cap (w1.alloc (.cells #[.int .i64 (szT k), .int .i64 (prT k), .int .i64 (isT k)] 58)) HS2.out hl)
  by_cases h1 : isT k = 1
  · have d1 : (isT k != 1) = false := by simpa using h1
    have HN := Lib.hid (show nuT k = true by have := HNU.out; rw [d1] at this; simpa using this)
    clear h1
    have HE := Lib.hid (show ronB k l = rofB k (l.length : Int) l by rw [HED.out.1, HN.out]; rfl)
    have HEL := Lib.hid (show ronL k l = rofL k (l.length : Int) l by
      rw [HED.out.2, HE.out]
      unfold rofL
      cases rofB k (l.length : Int) l <;> rfl)
    go_wp2_with ((with_reducible refine wpl_load_row rtK ?_ (.tmp 6) ?_ (w1.heap.size) ?_ 58 #[.int .i64 (szT k), .int .i64 (prT k), .int .i64 (isT k)] ?_ HKR.out ?_); rfl; rfl; rfl; rfl; simp only [Act.put, List.setIfInBounds_toArray, List.set_cons_succ, List.set_cons_zero])
    refine HM.out.mono ?_
    rintro e w2 ⟨A2, c2, rfl, ho2, hb2⟩
    have HR2 := Lib.hid ((hb2.block _ (row_lt HR.out)).trans HR.out)
    have HB2 := Lib.hid (HB.out.trans (hb2.mono HB.out.size))
    have HO2 := Lib.hid ho2
    clear ho2 hb2
    rw [← HEL.out] at HO2
    rw [← HEL.out, ← HE.out]
    generalize hx : on (ronB k l) k = x1 at *
    generalize hy : on (ronB k l) (l.length : Int) = x2 at *
    generalize hz : ronL k l = R at *
    have HX := Lib.hid (show on (ronB k l) k = x1 ∧ on (ronB k l) (l.length : Int) = x2 ∧ ronL k l = R from ⟨hx, hy, hz⟩)
    clear hx hy hz
    go_wp2_with ((with_reducible refine wpl_store_row rtV ?_ (.tmp 4) (.tmp 23) ?_ (w.heap.size) ?_ (vrow x1 x2 A2 R.length c2) ?_ (vrow_one _ _ _ _ _) 27 ?_ _ ?_ HR2.out ?_); rfl; rfl; rfl; rfl; rfl; rfl; intro w7 hr7 hg7 hs7; (try simp only [Act.put]))
    rw [HX.out.1, HX.out.2.1, HX.out.2.2]
    exact bodyPost_ret (res_row_tmp rtV rfl _ _ w.heap.size 27 (vrow x1 x2 A2 R.length c2) rfl _ rfl rfl hr7) rfl ⟨A2, c2, rfl, (HO2.out.mono (Nat.le_trans (Nat.le_of_lt hlt) (by simp))).kept hg7 (by
      cases hq : (Value.slice A2 R.length c2).ownBlock with
      | none => exact .inl rfl
      | some q => exact .inr (fun e => by have h1 := (World.ownsRow.lt HO2.out q hq).1; have e' : q = w.heap.size := Option.some.inj e; have h2 : w1.heap.size ≤ (w1.alloc (.cells #[.int .i64 (szT k), .int .i64 (prT k), .int .i64 (isT k)] 58)).heap.size := (by simp); omega)), HB2.out.grown hg7 HB2.out.size (fun k hk => by cases hk; exact Nat.le_refl _)⟩

  have d1 : (isT k != 1) = true := by simpa using h1
  by_cases h2 : isT k = 2
  · have d2 : (isT k != 2) = false := by simpa using h2
    have HN := Lib.hid (show nuT k = true by have := HNU.out; rw [d1, d2] at this; simpa using this)
    clear h1 h2
    have HE := Lib.hid (show ronB k l = rofB k (l.length : Int) l by rw [HED.out.1, HN.out]; rfl)
    have HEL := Lib.hid (show ronL k l = rofL k (l.length : Int) l by
      rw [HED.out.2, HE.out]
      unfold rofL
      cases rofB k (l.length : Int) l <;> rfl)
    go_wp2_with ((with_reducible refine wpl_load_row rtK ?_ (.tmp 6) ?_ (w1.heap.size) ?_ 58 #[.int .i64 (szT k), .int .i64 (prT k), .int .i64 (isT k)] ?_ HKR.out ?_); rfl; rfl; rfl; rfl; simp only [Act.put, List.setIfInBounds_toArray, List.set_cons_succ, List.set_cons_zero])
    refine HM.out.mono ?_
    rintro e w2 ⟨A2, c2, rfl, ho2, hb2⟩
    have HR2 := Lib.hid ((hb2.block _ (row_lt HR.out)).trans HR.out)
    have HB2 := Lib.hid (HB.out.trans (hb2.mono HB.out.size))
    have HO2 := Lib.hid ho2
    clear ho2 hb2
    rw [← HEL.out] at HO2
    rw [← HEL.out, ← HE.out]
    generalize hx : on (ronB k l) k = x1 at *
    generalize hy : on (ronB k l) (l.length : Int) = x2 at *
    generalize hz : ronL k l = R at *
    have HX := Lib.hid (show on (ronB k l) k = x1 ∧ on (ronB k l) (l.length : Int) = x2 ∧ ronL k l = R from ⟨hx, hy, hz⟩)
    clear hx hy hz
    go_wp2_with ((with_reducible refine wpl_store_row rtV ?_ (.tmp 4) (.tmp 23) ?_ (w.heap.size) ?_ (vrow x1 x2 A2 R.length c2) ?_ (vrow_one _ _ _ _ _) 27 ?_ _ ?_ HR2.out ?_); rfl; rfl; rfl; rfl; rfl; rfl; intro w7 hr7 hg7 hs7; (try simp only [Act.put]))
    rw [HX.out.1, HX.out.2.1, HX.out.2.2]
    exact bodyPost_ret (res_row_tmp rtV rfl _ _ w.heap.size 27 (vrow x1 x2 A2 R.length c2) rfl _ rfl rfl hr7) rfl ⟨A2, c2, rfl, (HO2.out.mono (Nat.le_trans (Nat.le_of_lt hlt) (by simp))).kept hg7 (by
      cases hq : (Value.slice A2 R.length c2).ownBlock with
      | none => exact .inl rfl
      | some q => exact .inr (fun e => by have h1 := (World.ownsRow.lt HO2.out q hq).1; have e' : q = w.heap.size := Option.some.inj e; have h2 : w1.heap.size ≤ (w1.alloc (.cells #[.int .i64 (szT k), .int .i64 (prT k), .int .i64 (isT k)] 58)).heap.size := (by simp); omega)), HB2.out.grown hg7 HB2.out.size (fun k hk => by cases hk; exact Nat.le_refl _)⟩

  have d2 : (isT k != 2) = true := by simpa using h2
  have HN := Lib.hid (show nuT k = false by have := HNU.out; rw [d1, d2] at this; simpa using this)
  have HE := Lib.hid (show ronB k l = false by rw [HED.out.1, HN.out]; rfl)
  have HEz := Lib.hid (HE0.out HE.out)
  clear h1 h2
  go_wp2_with ((with_reducible refine wpl_store_row rtV ?_ (.tmp 4) (.tmp 17) ?_ (w.heap.size) ?_ (vrow 0 0 none 0 0) ?_ (vrow_one _ _ _ _ _) 27 ?_ _ ?_ HR.out ?_); rfl; rfl; rfl; rfl; rfl; rfl; intro w7 hr7 hg7 hs7; (try simp only [Act.put]))
  rw [HEz.out.2.1, HEz.out.2.2, HEz.out.1, HE.out]
  exact bodyPost_ret (res_row_tmp rtV rfl _ _ w.heap.size 27 (vrow 0 0 none 0 0) rfl (.bool false) rfl rfl hr7) rfl ⟨none, 0, rfl, Own.nil_ _ _ _ _, HB.out.grown hg7 HB.out.size (fun k hk => by cases hk; exact Nat.le_refl _)⟩
end Go.Proofs.Ytmdcdmgbillehaa
/- The contracts of ratios that are plain, signed, and of a ratio's bytes. -/
namespace Go.Proofs.Ytmdcdmgbillehaa
open Go.RowKit
open Go.Tin
set_option linter.unusedVariables false
set_option linter.unusedSimpArgs false


def rpB (a b : Int) : Bool := putB a 4 2 && putB b 4 2
def rsB (a b : Int) : Bool := plB a 4 && plB b 4
set_option maxRecDepth 100000 in
theorem pplain_any (a b : Int) (w : World) : Calls Try.prog 64 #[.agg #[.int .i64 a, .int .i64 b]] w fun e w' => e = .returned (.bool (rpB a b)) ∧ Below w.heap.size w w' := by
  have HB := Lib.hid (ba (brefl w) (.cells #[.int .i64 a, .int .i64 b] 81))
  have HR := Lib.hid (heap_alloc_new w (.cells #[.int .i64 a, .int .i64 b] 81))
  have HD := Lib.hid (show rpB a b = (putB a 4 2 && putB b 4 2) from rfl)
  have k0 := row_cell (v := .int .i64 a) HR.out 0 rfl
  go_enter Try.func64, Try.ntmps64
  go_wp2_with fail
  refine (put_any a 4 2 _).mono ?_
  rintro e w1 ⟨A1, c1, rfl, -, hb1⟩
  have HR1 := Lib.hid ((hb1.block _ (row_lt HR.out)).trans HR.out)
  have HB1 := Lib.hid (HB.out.trans (hb1.mono HB.out.size))
  clear hb1 k0
  have k1 := row_cell (v := .int .i64 b) HR1.out 1 rfl
  go_wp2_with fail
  refine (put_any b 4 2 _).mono ?_
  rintro e w2 ⟨A2, c2, rfl, -, hb2⟩
  have HB2 := Lib.hid (HB1.out.trans (hb2.mono HB1.out.size))
  clear hb2 k1
  generalize putL a 4 2 = l1
  generalize putL b 4 2 = l2
  cases hp : putB a 4 2 <;> cases hq : putB b 4 2
  all_goals
    have HE := Lib.hid (by have h := HD.out; rw [hp, hq] at h; exact h)
    clear hp hq
    go_wp2_with fail
    go_ret
    exact ⟨by rw [HE.out]; rfl, HB2.out⟩
set_option maxRecDepth 100000 in
theorem psigned_any (a b : Int) (w : World) : Calls Try.prog 65 #[.agg #[.int .i64 a, .int .i64 b]] w fun e w' => e = .returned (.bool (rsB a b)) ∧ Below w.heap.size w w' := by
  have HB := Lib.hid (ba (brefl w) (.cells #[.int .i64 a, .int .i64 b] 81))
  have HR := Lib.hid (heap_alloc_new w (.cells #[.int .i64 a, .int .i64 b] 81))
  have HD := Lib.hid (show rsB a b = (plB a 4 && plB b 4) from rfl)
  have k0 := row_cell (v := .int .i64 a) HR.out 0 rfl
  go_enter Try.func65, Try.ntmps65
  go_wp2_with fail
  refine (plain_any a 4 _).mono ?_
  rintro e w1 ⟨rfl, hb1⟩
  have HR1 := Lib.hid ((hb1.block _ (row_lt HR.out)).trans HR.out)
  have HB1 := Lib.hid (HB.out.trans (hb1.mono HB.out.size))
  clear hb1 k0
  have k1 := row_cell (v := .int .i64 b) HR1.out 1 rfl
  go_wp2_with fail
  refine (plain_any b 4 _).mono ?_
  rintro e w2 ⟨rfl, hb2⟩
  have HB2 := Lib.hid (HB1.out.trans (hb2.mono HB1.out.size))
  clear hb2 k1
  cases hp : plB a 4 <;> cases hq : plB b 4
  all_goals
    have HE := Lib.hid (by have h := HD.out; rw [hp, hq] at h; exact h)
    clear hp hq
    go_wp2_with fail
    go_ret
    exact ⟨by rw [HE.out]; rfl, HB2.out⟩
theorem rtR : RT Try.prog 55 2 := RT.of Try.underlying55 rfl (by kernel_rfl)
theorem rplainq_any (a b : Int) (w : World) : Calls Try.prog 42 #[.agg #[.int .i64 a, .int .i64 b]] w fun e w' => e = .returned (.bool (rpB a b)) ∧ Below w.heap.size w w' := by
  have HB := Lib.hid (ba (brefl w) (.cells #[.int .i64 a, .int .i64 b] 55))
  have HR := Lib.hid (heap_alloc_new w (.cells #[.int .i64 a, .int .i64 b] 55))
  go_enter Try.func42, Try.ntmps42
  go_wp2_with ((with_reducible refine wpl_load_row rtR ?_ (.tmp 1) ?_ (w.heap.size) ?_ 55 #[.int .i64 a, .int .i64 b] ?_ HR.out ?_); rfl; rfl; rfl; rfl; simp only [Act.put, List.setIfInBounds_toArray, List.set_cons_succ, List.set_cons_zero])
  refine (pplain_any a b _).mono ?_
  rintro e w1 ⟨rfl, hb1⟩
  go_wp2_with fail
  go_ret
  exact ⟨rfl, HB.out.trans (hb1.mono HB.out.size)⟩
theorem rsignq_any (a b : Int) (w : World) : Calls Try.prog 43 #[.agg #[.int .i64 a, .int .i64 b]] w fun e w' => e = .returned (.bool (rsB a b)) ∧ Below w.heap.size w w' := by
  have HB := Lib.hid (ba (brefl w) (.cells #[.int .i64 a, .int .i64 b] 55))
  have HR := Lib.hid (heap_alloc_new w (.cells #[.int .i64 a, .int .i64 b] 55))
  go_enter Try.func43, Try.ntmps43
  go_wp2_with ((with_reducible refine wpl_load_row rtR ?_ (.tmp 1) ?_ (w.heap.size) ?_ 55 #[.int .i64 a, .int .i64 b] ?_ HR.out ?_); rfl; rfl; rfl; rfl; simp only [Act.put, List.setIfInBounds_toArray, List.set_cons_succ, List.set_cons_zero])
  refine (psigned_any a b _).mono ?_
  rintro e w1 ⟨rfl, hb1⟩
  go_wp2_with fail
  go_ret
  exact ⟨rfl, HB.out.trans (hb1.mono HB.out.size)⟩
/-- A ratio's bytes, and may it be one of a type? -/
def rtL (k a b : Int) : List Int := kpL k a ++ kpL k b
def rtQ (k a b : Int) : Bool := nmB k a && (nmB k b && (rpB a b || rsB a b))
end Go.Proofs.Ytmdcdmgbillehaa
/- The contract of a ratio's bytes, as OfRatios makes them. -/
namespace Go.Proofs.Ytmdcdmgbillehaa
open Go.RowKit
open Go.Tin
set_option linter.unusedVariables false
set_option linter.unusedSimpArgs false


theorem kpL_le (k n : Int) : (kpL k n).length ≤ 4 := by
  unfold kpL
  split
  · exact putL_le4 _ _ _
  · simp
set_option maxRecDepth 100000 in
set_option maxHeartbeats 8000000 in
theorem rat_any (k a b : Int) (g : Nat) (w : World) (hg : w.heap[g]? = some (.cells #[.int .i64 (szT k), .int .i64 (prT k), .int .i64 (isT k)] 58 (0, 0))) :
    Calls Try.prog 41 #[.agg #[.int .i64 a, .int .i64 b], .pointer (some ⟨g, 0, none⟩)] w fun e w' => ∃ A c, e = .returned (.tuple #[.slice A (rtL k a b).length c, .bool (rtQ k a b)]) ∧ Own .u8 5 w' w.heap.size (.slice A (rtL k a b).length c) (rtL k a b) ∧ Below w.heap.size w w' := by
  have HB := Lib.hid (ba (brefl w) (.cells #[.int .i64 a, .int .i64 b] 55))
  have HR := Lib.hid (heap_alloc_new w (.cells #[.int .i64 a, .int .i64 b] 55))
  have HG := Lib.hid (show (w.alloc (.cells #[.int .i64 a, .int .i64 b] 55)).heap[g]? = some (.cells #[.int .i64 (szT k), .int .i64 (prT k), .int .i64 (isT k)] 58 (0, 0)) by rw [Below.heap_alloc _ _ _ (row_lt hg)]; exact hg)
  have HD := Lib.hid (show rtL k a b = kpL k a ++ kpL k b ∧ rtQ k a b = (nmB k a && (nmB k b && (rpB a b || rsB a b))) from ⟨rfl, rfl⟩)
  have HK1 := Lib.hid (fun W => kput_any k a W)
  have HK2 := Lib.hid (fun W => kput_any k b W)
  have HL1 := Lib.hid (kpL_le k a)
  have HL2 := Lib.hid (kpL_le k b)
  generalize kpL k a = l1 at *
  generalize kpL k b = l2 at *
  have k0 := row_cell (v := .int .i64 a) HR.out 0 rfl
  clear hg
  go_enter Try.func41, Try.ntmps41
  go_wp2_with ((with_reducible refine wpl_load_row rtK ?_ (.tmp 1) ?_ g ?_ 58 #[.int .i64 (szT k), .int .i64 (prT k), .int .i64 (isT k)] ?_ HG.out ?_); rfl; rfl; rfl; rfl; simp only [Act.put, List.setIfInBounds_toArray, List.set_cons_succ, List.set_cons_zero])
  refine (HK1.out _).mono ?_
  rintro e w1 ⟨A1, c1, rfl, ho1, hb1⟩
  have O1 := Lib.hid (ho1.mono (show w.heap.size + 1 ≤ (w.alloc (.cells #[.int .i64 a, .int .i64 b] 55)).heap.size by simp))
  replace HR := Lib.hid ((hb1.block _ (row_lt HR.out)).trans HR.out)
  replace HG := Lib.hid ((hb1.block _ (row_lt HG.out)).trans HG.out)
  replace HB := Lib.hid (HB.out.trans (hb1.mono HB.out.size))
  clear ho1 hb1 k0
  have k1 := row_cell (v := .int .i64 b) HR.out 1 rfl
  go_wp2_with ((with_reducible refine wpl_load_row rtK ?_ (.tmp 1) ?_ g ?_ 58 #[.int .i64 (szT k), .int .i64 (prT k), .int .i64 (isT k)] ?_ HG.out ?_); rfl; rfl; rfl; rfl; simp only [Act.put, List.setIfInBounds_toArray, List.set_cons_succ, List.set_cons_zero])
  refine (HK2.out _).mono ?_
  rintro e w2 ⟨A2, c2, rfl, ho2, hb2⟩
  have hsz1 : w.heap.size + 1 ≤ w1.heap.size := row_lt HR.out
  have hs2 : w1.heap.size ≤ w2.heap.size := hb2.size
  replace O1 := Lib.hid (O1.out.keep hb2)
  have O2 := Lib.hid (ho2.mono HB.out.size)
  replace HR := Lib.hid ((hb2.block _ (row_lt HR.out)).trans HR.out)
  replace HB := Lib.hid (HB.out.trans (hb2.mono HB.out.size))
  clear ho2 hb2 k1 HG HK1 HK2
  have HX1 := Lib.hid (fun W => rplainq_any a b W)
  have HX2 := Lib.hid (fun W => rsignq_any a b W)
  generalize rpB a b = P at *
  generalize rsB a b = Q at *
  cases hp : nmB k a with
  | false =>
    have HE := Lib.hid (show rtQ k a b = false by rw [HD.out.2, hp]; rfl)
    clear hp
    generalize nmB k b = Bb at *
    go_wp2_with (at_builtin; refine Tin.wpl_app bt5 _ rfl (.tmp 23) (.tmp 24) rfl (w.heap.size + 1) _ l1 rfl O1.out A2 l2.length c2 l2 rfl O2.out.sl'.2 rfl (by have := HL1.out; have := HL2.out; omega) (by have := HL1.out; have := HL2.out; omega) (by omega) ?_; intro v3 w3 ho3 hg3 hw3; generalize hl3 : l1 ++ l2 = L3 at ho3; have HM3 := Lib.hid hl3; clear hl3; obtain ⟨A3, c3, rfl⟩ := own_form ho3; have O3 := Lib.hid ho3; have hb3 : Below w.heap.size w w3 := HB.out.grown hg3 HB.out.size (fun q hq => by have h1 := (World.ownsRow.lt O1.out _ hq).1; omega); replace HR := Lib.hid ((hg3.block w.heap.size (row_lt HR.out) (fun e => by have h1 := (World.ownsRow.lt O1.out _ e.symm).1; omega)).trans HR.out); replace HB := Lib.hid hb3; clear ho3 hg3 hw3 hb3)
    go_ret2
    rw [HD.out.1, HM3.out, HE.out]
    exact ⟨A3, c3, rfl, O3.out.mono (Nat.le_succ _), HB.out⟩
  | true =>
    cases hq : nmB k b with
    | false =>
      have HE := Lib.hid (show rtQ k a b = false by rw [HD.out.2, hp, hq]; rfl)
      clear hp hq
      go_wp2_with (at_builtin; refine Tin.wpl_app bt5 _ rfl (.tmp 23) (.tmp 24) rfl (w.heap.size + 1) _ l1 rfl O1.out A2 l2.length c2 l2 rfl O2.out.sl'.2 rfl (by have := HL1.out; have := HL2.out; omega) (by have := HL1.out; have := HL2.out; omega) (by omega) ?_; intro v3 w3 ho3 hg3 hw3; generalize hl3 : l1 ++ l2 = L3 at ho3; have HM3 := Lib.hid hl3; clear hl3; obtain ⟨A3, c3, rfl⟩ := own_form ho3; have O3 := Lib.hid ho3; have hb3 : Below w.heap.size w w3 := HB.out.grown hg3 HB.out.size (fun q hq => by have h1 := (World.ownsRow.lt O1.out _ hq).1; omega); replace HR := Lib.hid ((hg3.block w.heap.size (row_lt HR.out) (fun e => by have h1 := (World.ownsRow.lt O1.out _ e.symm).1; omega)).trans HR.out); replace HB := Lib.hid hb3; clear ho3 hg3 hw3 hb3)
      go_ret2
      rw [HD.out.1, HM3.out, HE.out]
      exact ⟨A3, c3, rfl, O3.out.mono (Nat.le_succ _), HB.out⟩
    | true =>
      have HE := Lib.hid (show rtQ k a b = (P || Q) by rw [HD.out.2, hp, hq]; rfl)
      clear hp hq
      go_wp2_with (first | (at_builtin; refine Tin.wpl_app bt5 _ rfl (.tmp 23) (.tmp 24) rfl (w.heap.size + 1) _ l1 rfl O1.out A2 l2.length c2 l2 rfl O2.out.sl'.2 rfl (by have := HL1.out; have := HL2.out; omega) (by have := HL1.out; have := HL2.out; omega) (by omega) ?_; intro v3 w3 ho3 hg3 hw3; generalize hl3 : l1 ++ l2 = L3 at ho3; have HM3 := Lib.hid hl3; clear hl3; obtain ⟨A3, c3, rfl⟩ := own_form ho3; have O3 := Lib.hid ho3; have hb3 : Below w.heap.size w w3 := HB.out.grown hg3 HB.out.size (fun q hq => by have h1 := (World.ownsRow.lt O1.out _ hq).1; omega); replace HR := Lib.hid ((hg3.block w.heap.size (row_lt HR.out) (fun e => by have h1 := (World.ownsRow.lt O1.out _ e.symm).1; omega)).trans HR.out); replace HB := Lib.hid hb3; clear ho3 hg3 hw3 hb3) | ((with_reducible refine wpl_load_row rtR ?_ (.tmp 2) ?_ (w.heap.size) ?_ 55 #[.int .i64 a, .int .i64 b] ?_ HR.out ?_); rfl; rfl; rfl; rfl; simp only [Act.put, List.setIfInBounds_toArray, List.set_cons_succ, List.set_cons_zero]))
      refine (HX1.out _).mono ?_
      rintro e w4 ⟨rfl, hb4⟩
      replace HR := Lib.hid ((hb4.block _ (row_lt HR.out)).trans HR.out)
      replace HB := Lib.hid (HB.out.trans (hb4.mono HB.out.size))
      replace O3 := Lib.hid (O3.out.keep hb4)
      clear hb4
      cases P with
      | true =>
        go_wp2_with fail
        go_ret2
        rw [HD.out.1, HM3.out, HE.out]
        exact ⟨A3, c3, rfl, O3.out.mono (Nat.le_succ _), HB.out⟩
      | false =>
        go_wp2_with ((with_reducible refine wpl_load_row rtR ?_ (.tmp 2) ?_ (w.heap.size) ?_ 55 #[.int .i64 a, .int .i64 b] ?_ HR.out ?_); rfl; rfl; rfl; rfl; simp only [Act.put, List.setIfInBounds_toArray, List.set_cons_succ, List.set_cons_zero])
        refine (HX2.out _).mono ?_
        rintro e w5 ⟨rfl, hb5⟩
        replace HB := Lib.hid (HB.out.trans (hb5.mono HB.out.size))
        replace O3 := Lib.hid (O3.out.keep hb5)
        clear hb5
        go_wp2_with fail
        go_ret2
        rw [HD.out.1, HM3.out, HE.out]
        exact ⟨A3, c3, rfl, O3.out.mono (Nat.le_succ _), HB.out⟩
end Go.Proofs.Ytmdcdmgbillehaa
/- The contract of made: a value of ratios. -/
namespace Go.Proofs.Ytmdcdmgbillehaa
open Go.RowKit
open Go.Tin
set_option linter.unusedVariables false
set_option linter.unusedSimpArgs false


abbrev iv (zs : List Int) : List Value := zs.map (Value.int .i64)
def rtpL (k : Int) (zs : List Int) : Nat → List Int
  | 0 => []
  | i + 1 => rtpL k zs i ++ rtL k (nth zs (i * 2)) (nth zs (i * 2 + 1))
def rtpB (k : Int) (zs : List Int) : Nat → Bool
  | 0 => true
  | i + 1 => rtpB k zs i && rtQ k (nth zs (i * 2)) (nth zs (i * 2 + 1))
theorem rtL_le (k a b : Int) : (rtL k a b).length ≤ 8 := by
  unfold rtL
  rw [List.length_append]
  have := kpL_le k a
  have := kpL_le k b
  omega
theorem rtpL_le (k : Int) (zs : List Int) : ∀ i, (rtpL k zs i).length ≤ 8 * i
  | 0 => by simp [rtpL]
  | i + 1 => by
    have := rtpL_le k zs i
    have := rtL_le k (nth zs (i * 2)) (nth zs (i * 2 + 1))
    rw [rtpL, List.length_append]
    omega
theorem byts_kpL (k n : Int) : Byts (kpL k n) := by
  unfold kpL
  split
  · exact byts_putL _ _ _
  · intro x hx; simp at hx
theorem byts_rtpL (k : Int) (zs : List Int) : ∀ i, Byts (rtpL k zs i)
  | 0 => fun x hx => by simp [rtpL] at hx
  | i + 1 => byts_app (byts_rtpL k zs i) (byts_app (byts_kpL _ _) (byts_kpL _ _))
theorem rtpB_no {k : Int} {zs : List Int} (i : Nat) (h : rtQ k (nth zs (i * 2)) (nth zs (i * 2 + 1)) = false) : ∀ j, i < j → rtpB k zs j = false
  | 0, hj => by omega
  | j + 1, hj => by
    unfold rtpB
    by_cases hij : i = j
    · subst hij; rw [h]; simp
    · rw [rtpB_no i h j (by omega)]; rfl
def rmB (k : Int) (n : Nat) (zs : List Int) : Bool := rtpB k zs n && mayV k (n : Int) (rtpL k zs n)
def rmL (k : Int) (n : Nat) (zs : List Int) : List Int := if rmB k n zs then rtpL k zs n else []
theorem cells2 {w : World} {b off : Nat} {zs : List Int} (h : SlV w (some ⟨b, off, none⟩) (iv zs)) (i : Nat) (hi : i * 2 + 2 ≤ zs.length) : w.rangeAt b (off + i * 2) [.int .i64 (nth zs (i * 2)), .int .i64 (nth zs (i * 2 + 1))] := by
  have hr := h.rng (i * 2) 2 (by simp; omega)
  have e : ((iv zs).drop (i * 2)).take 2 = [.int .i64 (nth zs (i * 2)), .int .i64 (nth zs (i * 2 + 1))] := by
    rw [List.drop_eq_getElem_cons (by simp; omega), List.take_succ_cons, List.drop_eq_getElem_cons (by simp; omega), List.take_succ_cons, List.take_zero]
    simp [nth, List.getD_eq_getElem?_getD, List.getElem?_eq_getElem (show i * 2 < zs.length by omega), List.getElem?_eq_getElem (show i * 2 + 1 < zs.length by omega)]
  rw [e] at hr
  exact hr
set_option maxRecDepth 100000 in
set_option maxHeartbeats 8000000 in
theorem rmade_any (k : Int) (g : Nat) (A : Option Addr) (n cap : Nat) (zs : List Int) (w : World) (hs : SlV w A (iv zs)) (hz : zs.length = n * 2) (hn : n ≤ 1000000) (hg : w.heap[g]? = some (.cells #[.int .i64 (szT k), .int .i64 (prT k), .int .i64 (isT k)] 58 (0, 0))) :
    Calls Try.prog 40 #[.int .i64 k, .slice A n cap, .func (.func 41) #[] #[.pointer (some ⟨g, 0, none⟩)]] w fun e w' => ∃ A' c', e = .returned (.tuple #[.agg (vrow (on (rmB k n zs) k) (on (rmB k n zs) (n : Int)) A' (rmL k n zs).length c'), .bool (rmB k n zs)]) ∧ Own .u8 5 w' w.heap.size (.slice A' (rmL k n zs).length c') (rmL k n zs) ∧ Below w.heap.size w w' := by
  obtain ⟨W, hW⟩ : ∃ W, W = (w.alloc (.cells (vrow 0 0 none 0 0) 27)).alloc (.cells (vrow k (n : Int) none 0 0) 27) := ⟨_, rfl⟩
  have HB := Lib.hid (show Below w.heap.size w W by rw [hW]; exact ba (ba (brefl w) _) _)
  have HX := Lib.hid (show W.heap[w.heap.size]? = some (.cells (vrow 0 0 none 0 0) 27 (0, 0)) by rw [hW, Below.heap_alloc _ _ _ (by simp)]; exact heap_alloc_new w _)
  have HR := Lib.hid (show W.heap[w.heap.size + 1]? = some (.cells (vrow k (n : Int) none 0 0) 27 (0, 0)) by
    have := heap_alloc_new (w.alloc (.cells (vrow 0 0 none 0 0) 27)) (.cells (vrow k (n : Int) none 0 0) 27)
    rw [hW]
    simpa using this)
  have hsz : W.heap.size = w.heap.size + 2 := by rw [hW]; simp
  have HS := Lib.hid hs
  have HZS := Lib.hid hz
  have HGK := Lib.hid (show ∀ V, Below w.heap.size w V → V.heap[g]? = some (.cells #[.int .i64 (szT k), .int .i64 (prT k), .int .i64 (isT k)] 58 (0, 0)) from fun V h => (h.block _ (row_lt hg)).trans hg)
  have HED := Lib.hid (show rmB k n zs = (rtpB k zs n && mayV k (n : Int) (rtpL k zs n)) ∧ rmL k n zs = (if rmB k n zs then rtpL k zs n else []) from ⟨rfl, rfl⟩)
  have HE0 := Lib.hid (show rmB k n zs = false → rmL k n zs = [] ∧ on (rmB k n zs) k = 0 ∧ on (rmB k n zs) (n : Int) = 0 from fun h => ⟨by unfold rmL; rw [h]; rfl, by rw [h]; rfl, by rw [h]; rfl⟩)
  clear hs hz hg
  go_enter Try.func40, Try.ntmps40
  go_wp2_with fail
  rw [← hW]
  clear hW
  go_loopw [19] (fun s19 wr => ∃ (i : Nat) (A1 : Option Addr) (c1 : Nat), i ≤ n ∧ s19 = .int .i64 (i : Int) ∧ rtpB k zs i = true ∧ wr.heap[w.heap.size + 1]? = some (.cells (vrow k (n : Int) A1 (rtpL k zs i).length c1) 27 (0, 0)) ∧ Own .u8 5 wr W.heap.size (.slice A1 (rtpL k zs i).length c1) (rtpL k zs i) ∧ Below (w.heap.size + 1) W wr) (fun s19 _ => n - (intOf s19).toNat)
  case atStart => exact ⟨0, none, 0, by omega, rfl, rfl, HR.out, Own.nil_ _ _ _ _, Below.refl _ _⟩
  case round =>
    obtain ⟨i, A1, c1, hi, rfl, hok, hrow, hown, hb⟩ := hrel
    have HOK := Lib.hid hok
    have HRW := Lib.hid hrow
    have HO := Lib.hid hown
    have HB1 := Lib.hid hb
    have HBw := Lib.hid (HB.out.trans (hb.mono (Nat.le_succ _)))
    have HZ := Lib.hid ((hb.block _ (Nat.lt_succ_self _)).trans HX.out)
    have hs1 : W.heap.size ≤ wr.heap.size := hb.size
    clear hok hrow hown hb
    by_cases hil : i < n
    · have i1 : (i : Int) < (n : Int) := by omega
      have hsl := HS.out.keep HBw.out
      have h2 : i * 2 + 2 ≤ zs.length := by rw [HZS.out]; omega
      obtain ⟨q, off, rfl, hql, -⟩ := hsl.at_ (by simp; omega)
      have HCR := Lib.hid (cells2 hsl i h2)
      have HNF := Lib.hid (fun h => rtpB_no (k := k) (zs := zs) i h n hil)
      have HPR := Lib.hid (rtpL_le k zs i)
      have HST := Lib.hid (show rtpL k zs (i + 1) = rtpL k zs i ++ rtL k (nth zs (i * 2)) (nth zs (i * 2 + 1)) ∧ rtpB k zs (i + 1) = (rtpB k zs i && rtQ k (nth zs (i * 2)) (nth zs (i * 2 + 1))) from ⟨rfl, rfl⟩)
      clear hsl h2
      generalize nth zs (i * 2) = Z0 at *
      generalize nth zs (i * 2 + 1) = Z1 at *
      have HBn := Lib.hid (ba (brefl wr) (.cells #[.int .i64 Z0, .int .i64 Z1] 55))
      have HKG := Lib.hid (HGK.out _ (ba HBw.out (.cells #[.int .i64 Z0, .int .i64 Z1] 55)))
      have HRA := Lib.hid (rat_any k Z0 Z1 g (wr.alloc (.cells #[.int .i64 Z0, .int .i64 Z1] 55)) HKG.out)
      go_wp2_with ((with_reducible refine wpl_loadv rtR ?_ (.tmp 21) ?_ q (off + i * 2) ?_ _ ?_ HCR.out ?_); rfl; rfl; rfl; rfl; simp only [Act.put, List.setIfInBounds_toArray, List.set_cons_succ, List.set_cons_zero])
      refine HRA.out.mono ?_
      rintro e w3 ⟨A3, c3, rfl, ho3, hb3'⟩
      have hb3 : Below wr.heap.size wr w3 := HBn.out.trans (hb3'.mono HBn.out.size)
      have HP3 := Lib.hid (ho3.mono HBn.out.size)
      have HO3 := Lib.hid (HO.out.keep hb3)
      have HR3 := Lib.hid ((hb3.block _ (row_lt HRW.out)).trans HRW.out)
      have HZ3 := Lib.hid ((hb3.block _ (row_lt HZ.out)).trans HZ.out)
      have HB3 := Lib.hid (HB1.out.trans (hb3.mono (show w.heap.size + 1 ≤ wr.heap.size by omega)))
      have HBw3 := Lib.hid (HBw.out.trans (hb3.mono HBw.out.size))
      have hs3 : wr.heap.size ≤ w3.heap.size := hb3.size
      have HPL := Lib.hid (rtL_le k Z0 Z1)
      clear ho3 hb3 hb3' HO HRW HZ HB1 HBw HBn HKG HRA HCR
      cases hpt : rtQ k Z0 Z1 with
      | false =>
        have HE := Lib.hid (show rmB k n zs = false by rw [HED.out.1, HNF.out hpt]; rfl)
        have HEz := Lib.hid (HE0.out HE.out)
        clear hpt
        generalize rtL k Z0 Z1 = PL at *
        go_wp2_with ((with_reducible refine wpl_store_row rtV ?_ (.tmp 6) (.tmp 31) ?_ (w.heap.size) ?_ (vrow 0 0 none 0 0) ?_ (vrow_one _ _ _ _ _) 27 ?_ _ ?_ HZ3.out ?_); rfl; rfl; rfl; rfl; rfl; rfl; intro w7 hr7 hg7 hs7; (try simp only [Act.put]))
        rw [HEz.out.2.1, HEz.out.2.2, HEz.out.1, HE.out]
        exact bodyPost_ret (res_row_tmp rtV rfl _ _ w.heap.size 27 (vrow 0 0 none 0 0) rfl (.bool false) rfl rfl hr7) rfl ⟨none, 0, rfl, Own.nil_ _ _ _ _, HBw3.out.grown hg7 HBw3.out.size (fun k hk => by cases hk; exact Nat.le_refl _)⟩

      | true =>
        have HOK' := Lib.hid (show rtpB k zs (i + 1) = true by rw [HST.out.2, HOK.out, hpt]; rfl)
        have HLS := Lib.hid HST.out.1
        clear hpt HST HNF
        generalize rtL k Z0 Z1 = PL at *
        generalize rtpL k zs i = L at *
        have k2 := row_cell (v := .slice A1 L.length c1) HR3.out 2 rfl
        go_wp2_with (at_builtin; refine Tin.wpl_app bt5 _ rfl (.tmp 33) (.tmp 34) rfl W.heap.size (.slice A1 L.length c1) L rfl HO3.out A3 PL.length c3 PL rfl HP3.out.sl'.2 rfl (by have := HPL.out; have := HPR.out; omega) (by have := HPL.out; have := HPR.out; omega) (by omega) ?_; intro v4 w4 ho4 hg4 hw4; obtain ⟨A4, c4, rfl⟩ := own_form ho4; have HO4 := Lib.hid ho4; have HR4 := Lib.hid ((hg4.block (w.heap.size + 1) (row_lt HR3.out) (fun e => by have h1 := (World.ownsRow.lt HO3.out _ e.symm).1; omega)).trans HR3.out); have HB4 := Lib.hid (HB3.out.grown hg4 (by omega) (fun q hq => by have h1 := (World.ownsRow.lt HO3.out _ hq).1; omega)); have hs4 : w3.heap.size ≤ w4.heap.size := hg4.size; clear ho4 hg4 hw4; have q2 := row_cell (v := .slice A1 L.length c1) HR4.out 2 rfl; have y2 := frozen_of_row w4 _ 2 _ _ HR4.out)
        have hgs := grown_setCells (w.heap.size + 1) [.slice A4 (L.length + PL.length) c4] 2 w4 w4 (World.grownBy.refl w4 _)
        have HR5 := Lib.hid (row_set HR4.out 2 (.slice A4 (L.length + PL.length) c4))
        have HO5 := Lib.hid (HO4.out.kept hgs (by right; intro e; have h1 := (World.ownsRow.lt HO4.out _ e).1; omega))
        have HB5 := Lib.hid (HB4.out.grown hgs (by omega) (fun q hq => by have e' : w.heap.size + 1 = q := Option.some.inj hq; omega))
        clear hgs q2 y2 k2
        go_roundw
        case rel =>
          refine ⟨i + 1, A4, c4, by omega, by go_num, HOK'.out, ?_, ?_, HB5.out⟩
          · rw [HLS.out, List.length_append]; exact HR5.out
          · rw [HLS.out]; exact HO5.out
        case measure => simp [intOf]; omega
    · obtain rfl : i = n := by omega
      have HY := Lib.hid (byts_rtpL k zs i)
      have HL := Lib.hid (rtpL_le k zs i)
      have HED2 := Lib.hid (show rmB k i zs = mayV k (i : Int) (rtpL k zs i) by rw [HED.out.1, HOK.out]; rfl)
      generalize rtpL k zs i = R at *
      go_wp2_with ((with_reducible refine wpl_load_row rtV ?_ (.tmp 8) ?_ (w.heap.size + 1) ?_ 27 (vrow k (i : Int) A1 R.length c1) ?_ HRW.out ?_); rfl; rfl; rfl; rfl; simp only [Act.put, List.setIfInBounds_toArray, List.set_cons_succ, List.set_cons_zero])
      refine (vmay_any k (i : Int) A1 R c1 wr HO.out.sl'.2 (by have := HL.out; omega) HY.out).mono ?_
      rintro e w5 ⟨rfl, hb5⟩
      have HR5 := Lib.hid ((hb5.block _ (row_lt HRW.out)).trans HRW.out)
      have HZ5 := Lib.hid ((hb5.block _ (row_lt HZ.out)).trans HZ.out)
      have HB5 := Lib.hid (HBw.out.trans (hb5.mono HBw.out.size))
      have HO5 := Lib.hid (HO.out.keep hb5)
      clear hb5
      cases hmv : mayV k (i : Int) R with
      | false =>
        have HE := Lib.hid (HED2.out.trans hmv)
        have HEz := Lib.hid (HE0.out HE.out)
        clear hmv
        go_wp2_with ((with_reducible refine wpl_store_row rtV ?_ (.tmp 6) (.tmp 41) ?_ (w.heap.size) ?_ (vrow 0 0 none 0 0) ?_ (vrow_one _ _ _ _ _) 27 ?_ _ ?_ HZ5.out ?_); rfl; rfl; rfl; rfl; rfl; rfl; intro w7 hr7 hg7 hs7; (try simp only [Act.put]))
        rw [HEz.out.2.1, HEz.out.2.2, HEz.out.1, HE.out]
        exact bodyPost_ret (res_row_tmp rtV rfl _ _ w.heap.size 27 (vrow 0 0 none 0 0) rfl (.bool false) rfl rfl hr7) rfl ⟨none, 0, rfl, Own.nil_ _ _ _ _, HB5.out.grown hg7 HB5.out.size (fun k hk => by cases hk; exact Nat.le_refl _)⟩

      | true =>
        have HE := Lib.hid (HED2.out.trans hmv)
        have HEL := Lib.hid (show rmL k i zs = R by rw [HED.out.2, HE.out]; rfl)
        clear hmv
        go_wp2_with (first | ((with_reducible refine wpl_load_row rtV ?_ (.tmp 8) ?_ (w.heap.size + 1) ?_ 27 (vrow k (i : Int) A1 R.length c1) ?_ HR5.out ?_); rfl; rfl; rfl; rfl; simp only [Act.put, List.setIfInBounds_toArray, List.set_cons_succ, List.set_cons_zero]) | ((with_reducible refine wpl_store_row rtV ?_ (.tmp 6) (.tmp 42) ?_ (w.heap.size) ?_ (vrow k (i : Int) A1 R.length c1) ?_ (vrow_one _ _ _ _ _) 27 ?_ _ ?_ HZ5.out ?_); rfl; rfl; rfl; rfl; rfl; rfl; intro w7 hr7 hg7 hs7; (try simp only [Act.put])))
        rw [HEL.out, HE.out]
        exact bodyPost_ret (res_row_tmp rtV rfl _ _ w.heap.size 27 (vrow k (i : Int) A1 R.length c1) rfl (.bool true) rfl rfl hr7) rfl ⟨A1, c1, rfl, (HO5.out.mono (show w.heap.size ≤ W.heap.size by omega)).kept hg7 (by
          cases hq : (Value.slice A1 R.length c1).ownBlock with
          | none => exact .inl rfl
          | some q => exact .inr (fun e => by have h1 := (World.ownsRow.lt HO5.out q hq).1; have e' : q = w.heap.size := Option.some.inj e; omega)), HB5.out.grown hg7 HB5.out.size (fun k hk => by cases hk; exact Nat.le_refl _)⟩
end Go.Proofs.Ytmdcdmgbillehaa
/- The contract of OfRatios. -/
namespace Go.Proofs.Ytmdcdmgbillehaa
open Go.RowKit
open Go.Tin
set_option linter.unusedVariables false
set_option linter.unusedSimpArgs false


def raT (k : Int) : Bool := decide (k = 5 ∨ k = 10)
def raB (k : Int) (n : Nat) (zs : List Int) : Bool := raT k && rmB k n zs
def raL (k : Int) (n : Nat) (zs : List Int) : List Int := if raB k n zs then rmL k n zs else []
theorem ra_is (k : Int) : ((isT k != 3) && (isT k != 4)) = !raT k := by
  by_cases h : k < 0 ∨ 12 < k
  · have : raT k = false := decide_eq_false (by omega)
    rw [(kd_no h).2.2, this]
    rfl
  · rcases n13 (show 0 ≤ k by omega) (by omega) with rfl | rfl | rfl | rfl | rfl | rfl | rfl | rfl | rfl | rfl | rfl | rfl | rfl <;> decide
set_option maxRecDepth 100000 in
set_option maxHeartbeats 8000000 in
theorem orat_any (k : Int) (A : Option Addr) (n cap : Nat) (zs : List Int) (w : World) (hs : SlV w A (iv zs)) (hz : zs.length = n * 2) (hl : n ≤ 1000000) :
    Calls Try.prog 10 #[.int .i64 k, .slice A n cap] w fun e w' => ∃ A' c', e = .returned (.tuple #[.agg (vrow (on (raB k n zs) k) (on (raB k n zs) (n : Int)) A' (raL k n zs).length c'), .bool (raB k n zs)]) ∧ Own .u8 5 w' w.heap.size (.slice A' (raL k n zs).length c') (raL k n zs) ∧ Below w.heap.size w w' := by
  have HBX := Lib.hid (ba (brefl w) (.cells (vrow 0 0 none 0 0) 27))
  have HRX := Lib.hid (heap_alloc_new w (.cells (vrow 0 0 none 0 0) 27))
  have HS := Lib.hid hs
  have HED := Lib.hid (show raB k n zs = (raT k && rmB k n zs) ∧ raL k n zs = (if raB k n zs then rmL k n zs else []) from ⟨rfl, rfl⟩)
  have HE0 := Lib.hid (show raB k n zs = false → raL k n zs = [] ∧ on (raB k n zs) k = 0 ∧ on (raB k n zs) (n : Int) = 0 from fun h => ⟨by unfold raL; rw [h]; rfl, by rw [h]; rfl, by rw [h]; rfl⟩)
  have HNU := Lib.hid (ra_is k)
  clear hs
  go_enter Try.func10, Try.ntmps10
  go_wp2_with fail
  refine (of_any k _).mono ?_
  rintro e w1 ⟨rfl, hb⟩
  have HR1 := Lib.hid ((hb.block _ (row_lt HRX.out)).trans HRX.out)
  have HB1 := Lib.hid (HBX.out.trans (hb.mono HBX.out.size))
  clear hb HBX HRX
  have hlt : w.heap.size < w1.heap.size := row_lt HR1.out
  have HB := Lib.hid (ba HB1.out (.cells #[.int .i64 (szT k), .int .i64 (prT k), .int .i64 (isT k)] 58))
  have HR := Lib.hid (show (w1.alloc (.cells #[.int .i64 (szT k), .int .i64 (prT k), .int .i64 (isT k)] 58)).heap[w.heap.size]? = some (.cells (vrow 0 0 none 0 0) 27 (0, 0)) by rw [Below.heap_alloc _ _ _ hlt]; exact HR1.out)
  have HKR := Lib.hid (heap_alloc_new w1 (.cells #[.int .i64 (szT k), .int .i64 (prT k), .int .i64 (isT k)] 58))
  have HS2 := Lib.hid (HS.out.keep HB.out)
  have HM := Lib.hid (rmade_any k w1.heap.size A n cap zs (w1.alloc (.cells #[.int .i64 (szT k), .int .i64 (prT k), .int .i64 (isT k)] 58)) HS2.out hz hl HKR.out)
  by_cases h1 : isT k = 3
  · have d1 : (isT k != 3) = false := by simpa using h1
    have HN := Lib.hid (show raT k = true by have := HNU.out; rw [d1] at this; simpa using this)
    clear h1
    have HE := Lib.hid (show raB k n zs = rmB k n zs by rw [HED.out.1, HN.out]; rfl)
    have HEL := Lib.hid (show raL k n zs = rmL k n zs by
      rw [HED.out.2, HE.out]
      unfold rmL
      cases rmB k n zs <;> rfl)
    go_wp2_with fail
    refine HM.out.mono ?_
    rintro e w2 ⟨A2, c2, rfl, ho2, hb2⟩
    have HR2 := Lib.hid ((hb2.block _ (row_lt HR.out)).trans HR.out)
    have HB2 := Lib.hid (HB.out.trans (hb2.mono HB.out.size))
    have HO2 := Lib.hid ho2
    clear ho2 hb2
    rw [← HEL.out] at HO2
    rw [← HEL.out, ← HE.out]
    generalize hx : on (raB k n zs) k = x1 at *
    generalize hy : on (raB k n zs) (n : Int) = x2 at *
    generalize hz : raL k n zs = R at *
    have HX := Lib.hid (show on (raB k n zs) k = x1 ∧ on (raB k n zs) (n : Int) = x2 ∧ raL k n zs = R from ⟨hx, hy, hz⟩)
    clear hx hy hz
    go_wp2_with ((with_reducible refine wpl_store_row rtV ?_ (.tmp 4) (.tmp 22) ?_ (w.heap.size) ?_ (vrow x1 x2 A2 R.length c2) ?_ (vrow_one _ _ _ _ _) 27 ?_ _ ?_ HR2.out ?_); rfl; rfl; rfl; rfl; rfl; rfl; intro w7 hr7 hg7 hs7; (try simp only [Act.put]))
    rw [HX.out.1, HX.out.2.1, HX.out.2.2]
    exact bodyPost_ret (res_row_tmp rtV rfl _ _ w.heap.size 27 (vrow x1 x2 A2 R.length c2) rfl _ rfl rfl hr7) rfl ⟨A2, c2, rfl, (HO2.out.mono (Nat.le_trans (Nat.le_of_lt hlt) (by simp))).kept hg7 (by
      cases hq : (Value.slice A2 R.length c2).ownBlock with
      | none => exact .inl rfl
      | some q => exact .inr (fun e => by have h1 := (World.ownsRow.lt HO2.out q hq).1; have e' : q = w.heap.size := Option.some.inj e; have h2 : w1.heap.size ≤ (w1.alloc (.cells #[.int .i64 (szT k), .int .i64 (prT k), .int .i64 (isT k)] 58)).heap.size := (by simp); omega)), HB2.out.grown hg7 HB2.out.size (fun k hk => by cases hk; exact Nat.le_refl _)⟩

  have d1 : (isT k != 3) = true := by simpa using h1
  by_cases h2 : isT k = 4
  · have d2 : (isT k != 4) = false := by simpa using h2
    have HN := Lib.hid (show raT k = true by have := HNU.out; rw [d1, d2] at this; simpa using this)
    clear h1 h2
    have HE := Lib.hid (show raB k n zs = rmB k n zs by rw [HED.out.1, HN.out]; rfl)
    have HEL := Lib.hid (show raL k n zs = rmL k n zs by
      rw [HED.out.2, HE.out]
      unfold rmL
      cases rmB k n zs <;> rfl)
    go_wp2_with fail
    refine HM.out.mono ?_
    rintro e w2 ⟨A2, c2, rfl, ho2, hb2⟩
    have HR2 := Lib.hid ((hb2.block _ (row_lt HR.out)).trans HR.out)
    have HB2 := Lib.hid (HB.out.trans (hb2.mono HB.out.size))
    have HO2 := Lib.hid ho2
    clear ho2 hb2
    rw [← HEL.out] at HO2
    rw [← HEL.out, ← HE.out]
    generalize hx : on (raB k n zs) k = x1 at *
    generalize hy : on (raB k n zs) (n : Int) = x2 at *
    generalize hz : raL k n zs = R at *
    have HX := Lib.hid (show on (raB k n zs) k = x1 ∧ on (raB k n zs) (n : Int) = x2 ∧ raL k n zs = R from ⟨hx, hy, hz⟩)
    clear hx hy hz
    go_wp2_with ((with_reducible refine wpl_store_row rtV ?_ (.tmp 4) (.tmp 22) ?_ (w.heap.size) ?_ (vrow x1 x2 A2 R.length c2) ?_ (vrow_one _ _ _ _ _) 27 ?_ _ ?_ HR2.out ?_); rfl; rfl; rfl; rfl; rfl; rfl; intro w7 hr7 hg7 hs7; (try simp only [Act.put]))
    rw [HX.out.1, HX.out.2.1, HX.out.2.2]
    exact bodyPost_ret (res_row_tmp rtV rfl _ _ w.heap.size 27 (vrow x1 x2 A2 R.length c2) rfl _ rfl rfl hr7) rfl ⟨A2, c2, rfl, (HO2.out.mono (Nat.le_trans (Nat.le_of_lt hlt) (by simp))).kept hg7 (by
      cases hq : (Value.slice A2 R.length c2).ownBlock with
      | none => exact .inl rfl
      | some q => exact .inr (fun e => by have h1 := (World.ownsRow.lt HO2.out q hq).1; have e' : q = w.heap.size := Option.some.inj e; have h2 : w1.heap.size ≤ (w1.alloc (.cells #[.int .i64 (szT k), .int .i64 (prT k), .int .i64 (isT k)] 58)).heap.size := (by simp); omega)), HB2.out.grown hg7 HB2.out.size (fun k hk => by cases hk; exact Nat.le_refl _)⟩

  have d2 : (isT k != 4) = true := by simpa using h2
  have HN := Lib.hid (show raT k = false by have := HNU.out; rw [d1, d2] at this; simpa using this)
  have HE := Lib.hid (show raB k n zs = false by rw [HED.out.1, HN.out]; rfl)
  have HEz := Lib.hid (HE0.out HE.out)
  clear h1 h2
  go_wp2_with ((with_reducible refine wpl_store_row rtV ?_ (.tmp 4) (.tmp 17) ?_ (w.heap.size) ?_ (vrow 0 0 none 0 0) ?_ (vrow_one _ _ _ _ _) 27 ?_ _ ?_ HR.out ?_); rfl; rfl; rfl; rfl; rfl; rfl; intro w7 hr7 hg7 hs7; (try simp only [Act.put]))
  rw [HEz.out.2.1, HEz.out.2.2, HEz.out.1, HE.out]
  exact bodyPost_ret (res_row_tmp rtV rfl _ _ w.heap.size 27 (vrow 0 0 none 0 0) rfl (.bool false) rfl rfl hr7) rfl ⟨none, 0, rfl, Own.nil_ _ _ _ _, HB.out.grown hg7 HB.out.size (fun k hk => by cases hk; exact Nat.le_refl _)⟩
end Go.Proofs.Ytmdcdmgbillehaa
/- The contracts of strings.IndexByte, of rows of numbers compared, and of the reference's ratios. -/
namespace Go.Proofs.Ytmdcdmgbillehaa
open Go.RowKit
open Go.Tin
set_option linter.unusedVariables false
set_option linter.unusedSimpArgs false


/- Two slices of integers compared, number by number: tintyperef18.Ints. -/
set_option maxRecDepth 100000 in
set_option maxHeartbeats 2000000 in
theorem ints_any (A A' : Option Addr) (l m : List Int) (c d : Nat) (w : World) (hs : Sl .i64 w A l) (ht : Sl .i64 w A' m) (hl : l.length ≤ 1000000000) (hm : m.length ≤ 1000000000) :
    Calls Try.prog 15 #[.slice A l.length c, .slice A' m.length d] w fun e w' => e = .returned (.bool (decide (l = m))) ∧ Below w.heap.size w w' := by
  have HS := Lib.hid hs
  have HT := Lib.hid ht
  clear hs ht
  by_cases hlm : l.length = m.length
  · have hne : ((l.length : Int) != (m.length : Int)) = false := by simp [hlm]
    have HLM := Lib.hid hlm
    clear hlm
    go_enter Try.func15, Try.ntmps15
    go_wp2_with fail
    go_loopw [5] (fun s5 wr => ∃ i : Nat, i ≤ l.length ∧ s5 = .int .i64 (i : Int) ∧ l.take i = m.take i ∧ Below w.heap.size w wr) (fun s5 _ => l.length - (intOf s5).toNat)
    case atStart => exact ⟨0, by omega, rfl, by simp, brefl w⟩
    case round =>
      obtain ⟨i, hi, rfl, htk, hb⟩ := hrel
      have HTK := Lib.hid htk
      clear htk
      by_cases hil : i < l.length
      · have i1 : (i : Int) < (l.length : Int) := by omega
        have him : i < m.length := by have := HLM.out; omega
        have i2 : (i : Int) < (m.length : Int) := by omega
        obtain ⟨b, off, rfl, hlt, hcell⟩ := (HS.out.keep hb).at_ (by omega)
        obtain ⟨b', off', rfl, hlt', hcell'⟩ := (HT.out.keep hb).at_ (by omega)
        have k0 : wr.cell? ⟨b, off + i, none⟩ = some (.int .i64 (nth l i)) := hcell i hil
        have k1 : wr.cell? ⟨b', off' + i, none⟩ = some (.int .i64 (nth m i)) := hcell' i him
        have q0 : ∀ p : Bel wr.heap.size wr.drew, p.w'.cell? ⟨b, off + i, none⟩ = some (.int .i64 (nth l i)) := fun p => (p.h.cell (p := ⟨b, off + i, none⟩) hlt).trans k0
        have q1 : ∀ p : Bel wr.heap.size wr.drew, p.w'.cell? ⟨b', off' + i, none⟩ = some (.int .i64 (nth m i)) := fun p => (p.h.cell (p := ⟨b', off' + i, none⟩) hlt').trans k1
        clear hcell hcell' k0 k1
        go_wp2_with fail
        refine Tin.reg_begin wr.heap.size 9 (by rfl) (by kernel_rfl) ?_
        refine Tin.reg_quiets [0, 1, 2, 3, 4, 5, 6, 7, 8] _ 0 rfl (by simp only [Tin.pick, List.map_cons, List.map_nil, Array.getD_eq_getD_getElem?, List.getElem?_toArray, List.getElem?_cons_zero, List.getElem?_cons_succ, Option.getD_some]; rfl) (by kernel_rfl) (by kernel_rfl) ?_
        repeat (first | go_big_quiet_step (fail))
        refine wpQuiet_nil ?_
        refine Tin.reg_done (by kernel_rfl) ?_
        by_cases he : nth l i = nth m i
        · have e1 : (nth l i != nth m i) = false := by simp [he]
          have HE := Lib.hid he
          clear he
          go_wp2_with fail
          go_roundw
          case rel => exact ⟨i + 1, by omega, by go_num, take_eq_step HTK.out hil him HE.out, hb.drew⟩
          case measure => simp [intOf]; omega
        · have e1 : (nth l i != nth m i) = true := by simp [he]
          have HE := Lib.hid he
          clear he
          go_wp2_with fail
          go_ret
          exact ⟨ret_bool (by simp [nth_ne HE.out]), hb.drew⟩
      · obtain rfl : i = l.length := by omega
        go_wp2_with fail
        go_ret
        exact ⟨ret_bool (by have h := HTK.out; rw [List.take_length, HLM.out, List.take_length] at h; simp [h]), hb⟩
  · have hne : ((l.length : Int) != (m.length : Int)) = true := by simp; omega
    have HLM := Lib.hid hlm
    clear hlm
    go_enter Try.func15, Try.ntmps15
    go_wp2_with fail
    go_ret
    exact ⟨ret_bool (by simp; exact fun h => HLM.out (by rw [h])), brefl w⟩

theorem slx_any (s : ByteArray) (w : World) : Calls Try.prog 66 #[.string s, .int .u8 0] w fun e w' => e = .returned (.int .i64 (Lib.indexByte s.data.toList 0)) ∧ w = w' := by
  have HR := Lib.hid (Lib.run_indexByteString (P := Try.prog) s 0 w)
  go_enter Try.func66, Try.ntmps66
  go_wp2_with fail
  rw [run_callFunc_extern Try.func76 (by kernel_rfl) (by kernel_rfl) (by kernel_rfl) (e := Extern.BytealgIndexByte.indexByte) (by kernel_rfl), HR.out]
  simp only [Result.andThen]
  rw [Oper.upon_value]
  go_wp2_with fail
  go_ret
  exact ⟨rfl, rfl⟩
theorem stx_any (s : ByteArray) (w : World) : Calls Try.prog 46 #[.string s, .int .u8 0] w fun e w' => e = .returned (.int .i64 (Lib.indexByte s.data.toList 0)) ∧ w = w' := by
  go_enter Try.func46, Try.ntmps46
  go_wp2_with fail
  refine (slx_any s w).mono ?_
  rintro e w1 ⟨rfl, rfl⟩
  go_wp2_with fail
  go_ret
  exact ⟨rfl, rfl⟩
theorem put42 (a : Int) : putB a 4 2 = (decide (0 ≤ a) && decide (a < 4294967296)) := rfl
theorem pl4 (a : Int) : plB a 4 = (decide (-2147483648 ≤ a) && decide (a < 2147483648)) := rfl
set_option maxRecDepth 100000 in
theorem rrp_any (a b : Int) (w : World) : Calls Try.prog 44 #[.agg #[.int .i64 a, .int .i64 b]] w fun e w' => e = .returned (.bool (rpB a b)) ∧ Below w.heap.size w w' := by
  have HB := Lib.hid (ba (brefl w) (.cells #[.int .i64 a, .int .i64 b] 55))
  have HD := Lib.hid (show rpB a b = ((decide (0 ≤ a) && decide (a < 4294967296)) && (decide (0 ≤ b) && decide (b < 4294967296))) from rfl)
  cases h1 : decide (0 ≤ a) <;> cases h2 : decide (a < 4294967296) <;> cases h3 : decide (0 ≤ b) <;> cases h4 : decide (b < 4294967296)
  all_goals
    have HE := Lib.hid (by have h := HD.out; rw [h1, h2, h3, h4] at h; exact h)
    go_enter Try.func44, Try.ntmps44
    go_wp2_with fail
    go_ret
    exact ⟨by rw [HE.out]; rfl, HB.out⟩
set_option maxRecDepth 100000 in
theorem rrs_any (a b : Int) (w : World) : Calls Try.prog 45 #[.agg #[.int .i64 a, .int .i64 b]] w fun e w' => e = .returned (.bool (rsB a b)) ∧ Below w.heap.size w w' := by
  have HB := Lib.hid (ba (brefl w) (.cells #[.int .i64 a, .int .i64 b] 55))
  have HD := Lib.hid (show rsB a b = ((decide (-2147483648 ≤ a) && decide (a < 2147483648)) && (decide (-2147483648 ≤ b) && decide (b < 2147483648))) from rfl)
  cases h1 : decide (-2147483648 ≤ a) <;> cases h2 : decide (a < 2147483648) <;> cases h3 : decide (-2147483648 ≤ b) <;> cases h4 : decide (b < 2147483648)
  all_goals
    have HE := Lib.hid (by have h := HD.out; rw [h1, h2, h3, h4] at h; exact h)
    go_enter Try.func45, Try.ntmps45
    go_wp2_with fail
    go_ret
    exact ⟨by rw [HE.out]; rfl, HB.out⟩
set_option maxRecDepth 100000 in
theorem has_any (t c : Int) (A : Option Addr) (l : List Int) (cap : Nat) (t' c' : Int) (A' : Option Addr) (l' : List Int) (cap' : Nat) (w : World) (hs : Sl .u8 w A l) (ht : Sl .u8 w A' l') (hl : l.length ≤ 1000000000) (hl' : l'.length ≤ 1000000000) (hm : smV t c l t' c' l' = true) :
    Calls Try.prog 35 #[.agg (vrow t c A l.length cap), .bool true, .int .i64 t', .int .i64 c', .slice A' l'.length cap'] w fun e w' => e = .returned (.bool true) ∧ Below w.heap.size w w' := by
  have HB := Lib.hid (ba (brefl w) (.cells (vrow t c A l.length cap) 27))
  have HR := Lib.hid (heap_alloc_new w (.cells (vrow t c A l.length cap) 27))
  have HQ := Lib.hid (rvsame_any t c A l cap t' c' A' l' cap' (w.alloc (.cells (vrow t c A l.length cap) 27)) (hs.keep HB.out) (ht.keep HB.out) hl hl')
  rw [hm] at HQ
  clear hs ht
  go_enter Try.func35, Try.ntmps35
  go_wp2_with ((with_reducible refine wpl_load_row rtV ?_ (.tmp 5) ?_ (w.heap.size) ?_ 27 (vrow t c A l.length cap) ?_ HR.out ?_); rfl; rfl; rfl; rfl; simp only [Act.put, List.setIfInBounds_toArray, List.set_cons_succ, List.set_cons_zero])
  refine HQ.out.mono ?_
  rintro e w1 ⟨rfl, hb1⟩
  go_wp2_with fail
  go_ret
  exact ⟨rfl, HB.out.trans (hb1.mono HB.out.size)⟩
end Go.Proofs.Ytmdcdmgbillehaa
/- The contracts of OfText. -/
namespace Go.Proofs.Ytmdcdmgbillehaa
open Go.RowKit
open Go.Tin
set_option linter.unusedVariables false
set_option linter.unusedSimpArgs false


def otB (s : ByteArray) : Bool := mayV 2 ((s.size : Int) + 1) (bytesL s ++ [0])
def otL (s : ByteArray) : List Int := if otB s then bytesL s ++ [0] else []
theorem byts_bytesL (s : ByteArray) : Byts (bytesL s) := by
  intro x hx
  obtain ⟨b, _, rfl⟩ := List.mem_map.1 hx
  have := b.toNat_lt
  omega
theorem bytesOf_bytesL (s : ByteArray) : Lib.bytesOf (bytesL s) = s.data.toList := by
  unfold Lib.bytesOf bytesL
  rw [List.map_map]
  conv => rhs; rw [← List.map_id s.data.toList]
  apply List.map_congr_left
  intro b _
  simp
theorem ix0_snoc : ∀ l : List Int, ix0 (l ++ [0]) = if ix0 l = -1 then (l.length : Int) else ix0 l
  | [] => rfl
  | x :: l => by
    have ih := ix0_snoc l
    have hb := ix0_cases l
    show (if x = 0 then (0 : Int) else if ix0 (l ++ [0]) = -1 then -1 else ix0 (l ++ [0]) + 1) = _
    have e : ix0 (x :: l) = if x = 0 then 0 else if ix0 l = -1 then -1 else ix0 l + 1 := rfl
    rw [ih, e, List.length_cons]
    by_cases hx : x = 0
    · rw [if_pos hx, if_pos hx, if_neg (by decide)]
    · rw [if_neg hx, if_neg hx]
      rcases hb with ⟨h, _⟩ | ⟨m, h, _, _, _⟩
      · rw [if_pos h, if_neg (show ¬ ((l.length : Int) = -1) by omega), if_pos h, if_pos rfl]; omega
      · have h2 : ¬ ix0 l = -1 := by omega
        simp only [if_neg h2]
        rw [if_neg (by omega)]
theorem ot_ix {s : ByteArray} (h : 0 ≤ Lib.indexByte s.data.toList 0) : otB s = false := by
  rw [← bytesOf_bytesL, ix0_lib (byts_bytesL s)] at h
  unfold otB
  apply mayV_f
  rintro ⟨-, -, -, -, h5⟩
  have h6 := h5 rfl
  unfold txB at h6
  rw [decide_eq_true_eq, ix0_snoc, List.length_append] at h6
  rcases ix0_cases (bytesL s) with ⟨h7, _⟩ | ⟨m, h7, h8, _⟩
  · omega
  · rw [if_neg (by omega)] at h6
    simp at h6
    omega
theorem byts_ot (s : ByteArray) : Byts (bytesL s ++ [0]) := byts_app (byts_bytesL s) (by intro x hx; simp at hx; omega)
theorem ot_len (s : ByteArray) : (bytesL s ++ [0]).length = s.size + 1 := by simp [bytesL_len]
theorem bwa_lt (w : World) (e : TypeId) (s : ByteArray) (o : Obj) : w.heap.size < ((Lib.bytesWorld w e s).alloc o).heap.size := by simp [Lib.bytesWorld_size]; omega
theorem bwa_cell (w : World) (e : TypeId) (s : ByteArray) (o : Obj) (j : Nat) (v : Value) (hj : ((bytesL s).map (Value.int .u8))[j]? = some v) : ((Lib.bytesWorld w e s).alloc o).cell? ((⟨w.heap.size, 0, none⟩ : Addr).add j) = some v := by
  rw [World.cell?_alloc_lt _ _ _ (by rw [add_none]; show w.heap.size < _; rw [Lib.bytesWorld_size]; omega)]
  exact bw_cell w e s j v hj
theorem bwa_room (w : World) (e : TypeId) (s : ByteArray) (o : Obj) (h : s.size + 1 ≤ grownCap w s.size 0 e) :
    (∃ v, ((Lib.bytesWorld w e s).alloc o).cell? ⟨w.heap.size, s.size, none⟩ = some v) ∧ ((Lib.bytesWorld w e s).alloc o).frozen? ⟨w.heap.size, s.size, none⟩ = false := by
  have hb := ba (brefl (Lib.bytesWorld w e s)) o
  obtain ⟨⟨v, h1⟩, h2⟩ := bw_room w e s h
  obtain ⟨c1, c2⟩ := bcell hb
  have hlt : w.heap.size < (Lib.bytesWorld w e s).heap.size := by rw [Lib.bytesWorld_size]; omega
  exact ⟨⟨v, (c1 _ _ hlt).trans h1⟩, (c2 _ _ hlt).trans h2⟩
theorem bwa_below (w : World) (e : TypeId) (s : ByteArray) (o : Obj) : Below w.heap.size w ((Lib.bytesWorld w e s).alloc o) := ba (bw_below w e s) o
theorem alloc_cell0 (w : World) (v : Value) (e : TypeId) : (w.alloc (.cells #[v] e)).cell? ⟨w.heap.size, 0, none⟩ = some v := World.cell?_alloc_new w _ _ _
theorem sl_grown {k : IntKind} {w w' : World} {A : Option Addr} {l : List Int} {g : Nat} (h : Sl k w A l) (hg : w.grownBy w' (some g)) (hne : ∀ b o, A = some ⟨b, o, none⟩ → b ≠ g) : Sl k w' A l := by
  rcases h with h | ⟨b, off, hA, hlt, hc⟩
  · exact .inl h
  · refine .inr ⟨b, off, hA, Nat.lt_of_lt_of_le hlt hg.size, fun i hi => ?_⟩
    have := hg.block b hlt (fun e => hne b off hA (by injection e))
    unfold World.cell? at hc ⊢
    simp only at hc ⊢
    rw [this]
    exact hc i hi
set_option maxRecDepth 100000 in
set_option maxHeartbeats 4000000 in
theorem otext_any (s : ByteArray) (w : World) (hl : s.size ≤ 1000000) :
    Calls Try.prog 12 #[.string s] w fun e w' => ∃ A' c', e = .returned (.tuple #[.agg (vrow (on (otB s) 2) (on (otB s) ((s.size : Int) + 1)) A' (otL s).length c'), .bool (otB s)]) ∧ Sl .u8 w' A' (otL s) ∧ Below w.heap.size w w' := by
  have RX := Lib.hid (heap_alloc_new w (.cells (vrow 0 0 none 0 0) 27))
  have HB := Lib.hid (ba (brefl w) (.cells (vrow 0 0 none 0 0) 27))
  have hlz : (s.size : Int) ≤ 1000000 := by omega
  have HOX := Lib.hid (fun h => ot_ix (s := s) h)
  have HO := Lib.hid (show otB s = mayV 2 ((s.size : Int) + 1) (bytesL s ++ [0]) ∧ (otB s = true → otL s = bytesL s ++ [0]) ∧ (otB s = false → otL s = []) from ⟨rfl, fun h => by unfold otL; rw [h]; rfl, fun h => by unfold otL; rw [h]; rfl⟩)
  have HLL := Lib.hid (ot_len s)
  have HLB := Lib.hid (bytesL_len s)
  have HBY := Lib.hid (byts_ot s)
  go_enter Try.func12, Try.ntmps12
  go_wp2_with fail
  generalize hW : w.alloc (.cells #[.int .i64 0, .int .i64 0, .slice none 0 0] 27) = W at *
  have hWs : w.heap.size < W.heap.size := row_lt RX.out
  rw [Lib.run_convert_string_bytes _ 9 25 5 s Try.underlying9 Try.underlying25 Try.underlying5]
  simp only [Result.andThen]
  rw [Oper.upon_value]
  go_wp2_with ((at_builtin; refine Tin.wpl_appm bt5 _ rfl (.tmp 9) (.tmp 10) rfl W.heap.size W.heap.size (grownCap W s.size 0 5) (bytesL s) (by rw [HLB.out]; rfl) (fun j v hj => bwa_cell _ _ _ _ j v hj) (Nat.le_refl _) (bwa_lt _ _ _ _) (by rw [HLB.out]; exact bwa_room _ _ _ _) _ 0 rfl (alloc_cell0 _ _ _) (by rw [HLB.out]; omega) (by rw [HLB.out]; omega) ?_; intro A1 c1 w1 hs1 hb1 hn1; have HN := Lib.hid hn1; clear hn1; rw [HLB.out]; have HS := Lib.hid hs1; have HB1 := Lib.hid ((bwa_below W 5 s (.cells #[.int .u8 0] 5)).trans hb1); clear hs1 hb1))
  have HB2 := Lib.hid (ba (HB.out.trans (HB1.out.mono HB.out.size)) (.cells (vrow 2 ((s.size : Int) + 1) A1 (s.size + 1) c1) 27))
  have hlt1 : w.heap.size < w1.heap.size := Nat.lt_of_lt_of_le hWs HB1.out.size
  have R2 := Lib.hid (show (w1.alloc (.cells (vrow 2 ((s.size : Int) + 1) A1 (s.size + 1) c1) 27)).heap[w.heap.size]? = some (.cells (vrow 0 0 none 0 0) 27 (0, 0)) by rw [Below.heap_alloc _ _ _ hlt1]; exact (HB1.out.block _ hWs).trans RX.out)
  have R4 := Lib.hid (heap_alloc_new w1 (.cells (vrow 2 ((s.size : Int) + 1) A1 (s.size + 1) c1) 27))
  replace HS := Lib.hid (HS.out.keep (ba (brefl w1) (.cells (vrow 2 ((s.size : Int) + 1) A1 (s.size + 1) c1) 27)))
  refine (stx_any s _).mono ?_
  rintro e w2 ⟨rfl, rfl⟩
  by_cases hx : 0 ≤ Lib.indexByte s.data.toList 0
  · have HE := Lib.hid (HOX.out hx)
    have dx : decide (0 ≤ Lib.indexByte s.data.toList 0) = true := by simpa using hx
    clear hx
    go_wp2_with ((with_reducible refine wpl_store_row rtV ?_ (.tmp 2) (.tmp 21) ?_ (w.heap.size) ?_ (vrow 0 0 none 0 0) ?_ (vrow_one _ _ _ _ _) 27 ?_ _ ?_ R2.out ?_); rfl; rfl; rfl; rfl; rfl; rfl; intro w7 hr7 hg7 hs7; (try simp only [Act.put]))
    rw [HE.out, (HO.out.2.2 HE.out)]
    exact bodyPost_ret (res_row_tmp rtV rfl _ _ w.heap.size 27 (vrow 0 0 none 0 0) rfl (.bool false) rfl rfl hr7) rfl ⟨none, 0, rfl, .inl rfl, HB2.out.grown hg7 HB2.out.size (fun k hk => by cases hk; exact Nat.le_refl _)⟩
  have dx : decide (0 ≤ Lib.indexByte s.data.toList 0) = false := by simpa using hx
  clear hx
  have HM := Lib.hid (vmay_any 2 ((s.size : Int) + 1) A1 (bytesL s ++ [0]) c1 (w1.alloc (.cells (vrow 2 ((s.size : Int) + 1) A1 (s.size + 1) c1) 27)) HS.out (by rw [HLL.out]; omega) HBY.out)
  rw [HLL.out, ← HO.out.1] at HM
  go_wp2_with ((with_reducible refine wpl_load_row rtV ?_ (.tmp 4) ?_ (w1.heap.size) ?_ 27 (vrow 2 ((s.size : Int) + 1) A1 (s.size + 1) c1) ?_ R4.out ?_); rfl; rfl; rfl; rfl; simp only [Act.put, List.setIfInBounds_toArray, List.set_cons_succ, List.set_cons_zero])
  refine HM.out.mono ?_
  rintro e w2 ⟨rfl, hb2⟩
  have R2' := Lib.hid ((hb2.block _ (row_lt R2.out)).trans R2.out)
  have R4' := Lib.hid ((hb2.block _ (row_lt R4.out)).trans R4.out)
  have HS' := Lib.hid (HS.out.keep hb2)
  replace HB2 := Lib.hid (HB2.out.trans (hb2.mono HB2.out.size))
  clear hb2 HM HS R2 R4 HB1 HB RX
  cases hE : otB s with
  | false =>
    have HE := Lib.hid hE
    clear hE
    go_wp2_with ((with_reducible refine wpl_store_row rtV ?_ (.tmp 2) (.tmp 21) ?_ (w.heap.size) ?_ (vrow 0 0 none 0 0) ?_ (vrow_one _ _ _ _ _) 27 ?_ _ ?_ R2'.out ?_); rfl; rfl; rfl; rfl; rfl; rfl; intro w7 hr7 hg7 hs7; (try simp only [Act.put]))
    rw [HE.out, (HO.out.2.2 HE.out)]
    exact bodyPost_ret (res_row_tmp rtV rfl _ _ w.heap.size 27 (vrow 0 0 none 0 0) rfl (.bool false) rfl rfl hr7) rfl ⟨none, 0, rfl, .inl rfl, HB2.out.grown hg7 HB2.out.size (fun k hk => by cases hk; exact Nat.le_refl _)⟩
  | true =>
    have HE := Lib.hid (HO.out.2.1 hE)
    have HT := Lib.hid hE
    clear hE
    go_wp2_with (first | ((with_reducible refine wpl_load_row rtV ?_ (.tmp 4) ?_ (w1.heap.size) ?_ 27 (vrow 2 ((s.size : Int) + 1) A1 (s.size + 1) c1) ?_ R4'.out ?_); rfl; rfl; rfl; rfl; simp only [Act.put, List.setIfInBounds_toArray, List.set_cons_succ, List.set_cons_zero]) | ((with_reducible refine wpl_store_row rtV ?_ (.tmp 2) (.tmp 22) ?_ (w.heap.size) ?_ (vrow 2 ((s.size : Int) + 1) A1 (s.size + 1) c1) ?_ (vrow_one _ _ _ _ _) 27 ?_ _ ?_ R2'.out ?_); rfl; rfl; rfl; rfl; rfl; rfl; intro w7 hr7 hg7 hs7; (try simp only [Act.put])))
    rw [HE.out, HLL.out, HT.out]
    exact bodyPost_ret (res_row_tmp rtV rfl _ _ w.heap.size 27 (vrow 2 ((s.size : Int) + 1) A1 (s.size + 1) c1) rfl (.bool true) rfl rfl hr7) rfl ⟨A1, c1, rfl, sl_grown HS'.out hg7 (fun b o h => by have := HN.out b o h; omega), HB2.out.grown hg7 HB2.out.size (fun k hk => by cases hk; exact Nat.le_refl _)⟩
set_option maxRecDepth 100000 in
set_option maxHeartbeats 4000000 in
theorem rotext_any (s : ByteArray) (w : World) (hl : s.size ≤ 1000000) :
    Calls Try.prog 13 #[.string s] w fun e w' => ∃ A' c', e = .returned (.tuple #[.agg (vrow (on (otB s) 2) (on (otB s) ((s.size : Int) + 1)) A' (otL s).length c'), .bool (otB s)]) ∧ Sl .u8 w' A' (otL s) ∧ Below w.heap.size w w' := by
  have RX := Lib.hid (heap_alloc_new w (.cells (vrow 0 0 none 0 0) 27))
  have HB := Lib.hid (ba (brefl w) (.cells (vrow 0 0 none 0 0) 27))
  have hlz : (s.size : Int) ≤ 1000000 := by omega
  have HOX := Lib.hid (fun h => ot_ix (s := s) h)
  have HO := Lib.hid (show otB s = mayV 2 ((s.size : Int) + 1) (bytesL s ++ [0]) ∧ (otB s = true → otL s = bytesL s ++ [0]) ∧ (otB s = false → otL s = []) from ⟨rfl, fun h => by unfold otL; rw [h]; rfl, fun h => by unfold otL; rw [h]; rfl⟩)
  have HLL := Lib.hid (ot_len s)
  have HLB := Lib.hid (bytesL_len s)
  have HBY := Lib.hid (byts_ot s)
  go_enter Try.func13, Try.ntmps13
  go_wp2_with fail
  generalize hW : w.alloc (.cells #[.int .i64 0, .int .i64 0, .slice none 0 0] 27) = W at *
  have hWs : w.heap.size < W.heap.size := row_lt RX.out
  rw [Lib.run_convert_string_bytes _ 9 25 5 s Try.underlying9 Try.underlying25 Try.underlying5]
  simp only [Result.andThen]
  rw [Oper.upon_value]
  go_wp2_with ((at_builtin; refine Tin.wpl_appm bt5 _ rfl (.tmp 9) (.tmp 10) rfl W.heap.size W.heap.size (grownCap W s.size 0 5) (bytesL s) (by rw [HLB.out]; rfl) (fun j v hj => bwa_cell _ _ _ _ j v hj) (Nat.le_refl _) (bwa_lt _ _ _ _) (by rw [HLB.out]; exact bwa_room _ _ _ _) _ 0 rfl (alloc_cell0 _ _ _) (by rw [HLB.out]; omega) (by rw [HLB.out]; omega) ?_; intro A1 c1 w1 hs1 hb1 hn1; have HN := Lib.hid hn1; clear hn1; rw [HLB.out]; have HS := Lib.hid hs1; have HB1 := Lib.hid ((bwa_below W 5 s (.cells #[.int .u8 0] 5)).trans hb1); clear hs1 hb1))
  have HB2 := Lib.hid (ba (HB.out.trans (HB1.out.mono HB.out.size)) (.cells (vrow 2 ((s.size : Int) + 1) A1 (s.size + 1) c1) 27))
  have hlt1 : w.heap.size < w1.heap.size := Nat.lt_of_lt_of_le hWs HB1.out.size
  have R2 := Lib.hid (show (w1.alloc (.cells (vrow 2 ((s.size : Int) + 1) A1 (s.size + 1) c1) 27)).heap[w.heap.size]? = some (.cells (vrow 0 0 none 0 0) 27 (0, 0)) by rw [Below.heap_alloc _ _ _ hlt1]; exact (HB1.out.block _ hWs).trans RX.out)
  have R4 := Lib.hid (heap_alloc_new w1 (.cells (vrow 2 ((s.size : Int) + 1) A1 (s.size + 1) c1) 27))
  replace HS := Lib.hid (HS.out.keep (ba (brefl w1) (.cells (vrow 2 ((s.size : Int) + 1) A1 (s.size + 1) c1) 27)))
  have HM := Lib.hid (rmay_any 2 ((s.size : Int) + 1) A1 (bytesL s ++ [0]) c1 (w1.alloc (.cells (vrow 2 ((s.size : Int) + 1) A1 (s.size + 1) c1) 27)) HS.out (by rw [HLL.out]; omega) HBY.out)
  rw [HLL.out, ← HO.out.1] at HM
  go_wp2_with ((with_reducible refine wpl_load_row rtV ?_ (.tmp 4) ?_ (w1.heap.size) ?_ 27 (vrow 2 ((s.size : Int) + 1) A1 (s.size + 1) c1) ?_ R4.out ?_); rfl; rfl; rfl; rfl; simp only [Act.put, List.setIfInBounds_toArray, List.set_cons_succ, List.set_cons_zero])
  refine HM.out.mono ?_
  rintro e w2 ⟨rfl, hb2⟩
  have R2' := Lib.hid ((hb2.block _ (row_lt R2.out)).trans R2.out)
  have R4' := Lib.hid ((hb2.block _ (row_lt R4.out)).trans R4.out)
  have HS' := Lib.hid (HS.out.keep hb2)
  replace HB2 := Lib.hid (HB2.out.trans (hb2.mono HB2.out.size))
  clear hb2 HM HS R2 R4 HB1 HB RX
  cases hE : otB s with
  | false =>
    have HE := Lib.hid hE
    clear hE
    go_wp2_with ((with_reducible refine wpl_store_row rtV ?_ (.tmp 2) (.tmp 16) ?_ (w.heap.size) ?_ (vrow 0 0 none 0 0) ?_ (vrow_one _ _ _ _ _) 27 ?_ _ ?_ R2'.out ?_); rfl; rfl; rfl; rfl; rfl; rfl; intro w7 hr7 hg7 hs7; (try simp only [Act.put]))
    rw [HE.out, (HO.out.2.2 HE.out)]
    exact bodyPost_ret (res_row_tmp rtV rfl _ _ w.heap.size 27 (vrow 0 0 none 0 0) rfl (.bool false) rfl rfl hr7) rfl ⟨none, 0, rfl, .inl rfl, HB2.out.grown hg7 HB2.out.size (fun k hk => by cases hk; exact Nat.le_refl _)⟩
  | true =>
    have HE := Lib.hid (HO.out.2.1 hE)
    have HT := Lib.hid hE
    clear hE
    go_wp2_with (first | ((with_reducible refine wpl_load_row rtV ?_ (.tmp 4) ?_ (w1.heap.size) ?_ 27 (vrow 2 ((s.size : Int) + 1) A1 (s.size + 1) c1) ?_ R4'.out ?_); rfl; rfl; rfl; rfl; simp only [Act.put, List.setIfInBounds_toArray, List.set_cons_succ, List.set_cons_zero]) | ((with_reducible refine wpl_store_row rtV ?_ (.tmp 2) (.tmp 17) ?_ (w.heap.size) ?_ (vrow 2 ((s.size : Int) + 1) A1 (s.size + 1) c1) ?_ (vrow_one _ _ _ _ _) 27 ?_ _ ?_ R2'.out ?_); rfl; rfl; rfl; rfl; rfl; rfl; intro w7 hr7 hg7 hs7; (try simp only [Act.put])))
    rw [HE.out, HLL.out, HT.out]
    exact bodyPost_ret (res_row_tmp rtV rfl _ _ w.heap.size 27 (vrow 2 ((s.size : Int) + 1) A1 (s.size + 1) c1) rfl (.bool true) rfl rfl hr7) rfl ⟨A1, c1, rfl, sl_grown HS'.out hg7 (fun b o h => by have := HN.out b o h; omega), HB2.out.grown hg7 HB2.out.size (fun k hk => by cases hk; exact Nat.le_refl _)⟩
end Go.Proofs.Ytmdcdmgbillehaa
/- The reference's contract of a value of ratios. -/
namespace Go.Proofs.Ytmdcdmgbillehaa
open Go.RowKit
open Go.Tin
set_option linter.unusedVariables false
set_option linter.unusedSimpArgs false


theorem bt3 : ST Try.prog 22 3 .i64 8 := ST.of Try.underlying22 Try.underlying3 (by kernel_rfl)
/-- Is a pair a ratio of the type's kind. -/
def qB (k a b : Int) : Bool := if k = 5 then rpB a b else rsB a b
theorem pl_put {a : Int} (h : plB a 4 = true) : putB (plN a 4) 4 2 = true := by
  have e : plN a 4 = if a < 0 then a + 4294967296 else a := by unfold plN; rw [if_pos h]; rfl
  rw [pl4, Bool.and_eq_true, decide_eq_true_eq, decide_eq_true_eq] at h
  rw [e, put42, Bool.and_eq_true, decide_eq_true_eq, decide_eq_true_eq]
  split <;> omega
theorem nm5 (a : Int) : nmB 5 a = putB a 4 2 := by
  show ((!sgT 5 || plB a (prT 5)) && putB (nmV 5 a) (prT 5) 2) = _
  rfl
theorem nm10 (a : Int) : nmB 10 a = plB a 4 := by
  have h : nmB 10 a = (plB a 4 && putB (plN a 4) 4 2) := rfl
  rw [h]
  cases hp : plB a 4 with
  | false => rfl
  | true => rw [pl_put hp]; rfl
theorem rtQ_q {k : Int} (h : raT k = true) (a b : Int) : rtQ k a b = qB k a b := by
  rcases of_decide_eq_true h with rfl | rfl
  · have e : rtQ 5 a b = (nmB 5 a && (nmB 5 b && (rpB a b || rsB a b))) := rfl
    have e2 : qB 5 a b = rpB a b := rfl
    rw [e, e2, nm5, nm5]
    have e3 : rpB a b = (putB a 4 2 && putB b 4 2) := rfl
    rw [e3]
    cases putB a 4 2 <;> cases putB b 4 2 <;> rfl
  · have e : rtQ 10 a b = (nmB 10 a && (nmB 10 b && (rpB a b || rsB a b))) := rfl
    have e2 : qB 10 a b = rsB a b := rfl
    rw [e, e2, nm10, nm10]
    have e3 : rsB a b = (plB a 4 && plB b 4) := rfl
    rw [e3]
    cases plB a 4 <;> cases plB b 4 <;> simp
theorem rtQ_nm {k a b : Int} (h : rtQ k a b = true) : nmB k a = true ∧ nmB k b = true := by
  unfold rtQ at h
  simp only [Bool.and_eq_true] at h
  exact ⟨h.1, h.2.1⟩
theorem take_two {l : List Int} {i : Nat} (hi : i * 2 + 2 ≤ l.length) : l.take ((i + 1) * 2) = l.take (i * 2) ++ [nth l (i * 2), nth l (i * 2 + 1)] := by
  rw [show (i + 1) * 2 = i * 2 + 1 + 1 by omega, take_next (show i * 2 + 1 < l.length by omega), take_next (show i * 2 < l.length by omega), List.append_assoc]
  rfl
theorem nms_pairs (k : Int) (zs : List Int) : ∀ i, i * 2 ≤ zs.length → rtpB k zs i = true → nmsB k (zs.take (i * 2)) = true ∧ nmsL k (zs.take (i * 2)) = rtpL k zs i
  | 0, _, _ => by simp [nmsB, nmsL, rtpL]
  | i + 1, h, hb => by
    have hb' : (rtpB k zs i && rtQ k (nth zs (i * 2)) (nth zs (i * 2 + 1))) = true := hb
    rw [Bool.and_eq_true] at hb'
    obtain ⟨h1, h2⟩ := nms_pairs k zs i (by omega) hb'.1
    obtain ⟨h3, h4⟩ := rtQ_nm hb'.2
    rw [take_two (by omega), nmsB_app, nmsL_app, h1, h2]
    have e1 : nmsB k [nth zs (i * 2), nth zs (i * 2 + 1)] = (nmB k (nth zs (i * 2)) && (nmB k (nth zs (i * 2 + 1)) && true)) := rfl
    have e2 : nmsL k [nth zs (i * 2), nth zs (i * 2 + 1)] = nmL k (nth zs (i * 2)) ++ (nmL k (nth zs (i * 2 + 1)) ++ []) := rfl
    have e3 : rtpL k zs (i + 1) = rtpL k zs i ++ (kpL k (nth zs (i * 2)) ++ kpL k (nth zs (i * 2 + 1))) := rfl
    rw [e1, e2, e3, h3, h4]
    unfold kpL
    rw [h3, h4]
    simp
theorem ra_rof {k : Int} {n : Nat} {zs : List Int} (ht : raT k = true) (hz : zs.length = n * 2) (hb : rtpB k zs n = true) : rofB k (n : Int) zs = raB k n zs ∧ rofL k (n : Int) zs = raL k n zs := by
  obtain ⟨h1, h2⟩ := nms_pairs k zs n (by omega) hb
  rw [← hz, List.take_length] at h1 h2
  have e1 : rofB k (n : Int) zs = raB k n zs := by
    unfold rofB raB rmB
    rw [h1, h2, hb, ht]
    rfl
  refine ⟨e1, ?_⟩
  unfold rofL raL
  rw [e1, h2]
  by_cases h : raB k n zs = true
  · rw [if_pos h, if_pos h]
    have : rmB k n zs = true := by
      unfold raB at h
      rw [ht] at h
      simpa using h
    unfold rmL
    rw [if_pos this]
  · rw [if_neg h, if_neg h]
theorem ra_no {k : Int} {n : Nat} {zs : List Int} (h : raT k = false ∨ rtpB k zs n = false) : raB k n zs = false ∧ raL k n zs = [] := by
  have e : raB k n zs = false := by
    unfold raB rmB
    rcases h with h | h <;> rw [h] <;> simp
  exact ⟨e, by unfold raL; rw [e]; rfl⟩
set_option maxRecDepth 100000 in
set_option maxHeartbeats 8000000 in
theorem rorat_any (k : Int) (A : Option Addr) (n cap : Nat) (zs : List Int) (w : World) (hs : SlV w A (iv zs)) (hz : zs.length = n * 2) (hl : n ≤ 100000) :
    Calls Try.prog 11 #[.int .i64 k, .slice A n cap] w fun e w' => ∃ A' c', e = .returned (.tuple #[.agg (vrow (on (raB k n zs) k) (on (raB k n zs) (n : Int)) A' (raL k n zs).length c'), .bool (raB k n zs)]) ∧ Sl .u8 w' A' (raL k n zs) ∧ Below w.heap.size w w' := by
  have HB := Lib.hid (ba (brefl w) (.cells (vrow 0 0 none 0 0) 27))
  have HX := Lib.hid (heap_alloc_new w (.cells (vrow 0 0 none 0 0) 27))
  have HS := Lib.hid (hs.keep HB.out)
  have HZS := Lib.hid hz
  have HNO := Lib.hid (fun h => ra_no (k := k) (n := n) (zs := zs) h)
  have HYES := Lib.hid (fun h h2 => ra_rof (k := k) (n := n) (zs := zs) h hz h2)
  have nn : (n : Int) ≤ 100000 := by omega
  clear hs hz
  by_cases h5 : k = 5
  · subst h5
    have HT := Lib.hid (show raT 5 = true by decide)
    have HQ := Lib.hid (fun a b => rtQ_q HT.out a b)
    go_enter Try.func11, Try.ntmps11
    go_wp2_with fail
    have hsw : w.heap.size < (w.alloc (.cells (vrow 0 0 none 0 0) 27)).heap.size := by simp
    generalize w.alloc (.cells #[.int .i64 0, .int .i64 0, .slice none 0 0] 27) = W at *
    go_loopw [6, 7] (fun s6 s7 wr => ∃ (i : Nat) (A1 : Option Addr) (c1 : Nat), i ≤ n ∧ s7 = .int .i64 (i : Int) ∧ s6 = .slice A1 (i * 2) c1 ∧ rtpB 5 zs i = true ∧ Own .i64 3 wr W.heap.size (.slice A1 (i * 2) c1) (zs.take (i * 2)) ∧ Below W.heap.size W wr) (fun _ s7 _ => n - (intOf s7).toNat)
    case atStart => exact ⟨0, none, 0, by omega, rfl, rfl, rfl, by simpa using Own.nil_ _ _ _ _, Below.refl _ _⟩
    case round =>
      obtain ⟨i, A1, c1, hi, rfl, rfl, hok, hown, hb⟩ := hrel
      have HOK := Lib.hid hok
      have HO := Lib.hid hown
      have HBW := Lib.hid hb
      have HBw := Lib.hid (HB.out.trans (hb.mono HB.out.size))
      replace HX := Lib.hid ((hb.block _ hsw).trans HX.out)
      have hs1 : W.heap.size ≤ wr.heap.size := hb.size
      clear hok hown hb
      by_cases hil : i < n
      · have i1 : (i : Int) < (n : Int) := by omega
        have h2 : i * 2 + 2 ≤ zs.length := by rw [HZS.out]; omega
        obtain ⟨q, off, rfl, hql, -⟩ := HS.out.at_ (by simp; omega)
        have HCR := Lib.hid (cells2 (HS.out.keep HBW.out) i h2)
        have HNF := Lib.hid (fun h => rtpB_no (k := 5) (zs := zs) i h n hil)
        have HTK := Lib.hid (take_two h2)
        have HTL := Lib.hid (show (zs.take (i * 2)).length = i * 2 by rw [List.length_take]; omega)
        have HTM := Lib.hid (show (zs.take ((i + 1) * 2)).length = (i + 1) * 2 by rw [List.length_take]; omega)
        have HST := Lib.hid (show rtpB 5 zs (i + 1) = (rtpB 5 zs i && rtQ 5 (nth zs (i * 2)) (nth zs (i * 2 + 1))) from rfl)
        rw [HQ.out] at HST HNF
        clear h2
        generalize nth zs (i * 2) = Z0 at *
        generalize nth zs (i * 2 + 1) = Z1 at *
        go_wp2_with ((with_reducible refine wpl_loadv rtR ?_ (.tmp 26) ?_ q (off + i * 2) ?_ _ ?_ HCR.out ?_); rfl; rfl; rfl; rfl; simp only [Act.put, List.setIfInBounds_toArray, List.set_cons_succ, List.set_cons_zero])
        refine (rrp_any Z0 Z1 wr).mono ?_
        rintro e w3 ⟨rfl, hb3⟩
        replace HX := Lib.hid ((hb3.block _ (row_lt HX.out)).trans HX.out)
        replace HO := Lib.hid (HO.out.keep hb3)
        replace HBw := Lib.hid (HBw.out.trans (hb3.mono HBw.out.size))
        replace HBW := Lib.hid (HBW.out.trans (hb3.mono HBW.out.size))
        have HC0 := Lib.hid (show w3.cell? ⟨q, off + i * 2, none⟩ = some (.int .i64 Z0) ∧ w3.cell? ⟨q, off + i * 2 + 1, none⟩ = some (.int .i64 Z1) from ⟨(hb3.cell (p := ⟨q, off + i * 2, none⟩) (Nat.lt_of_lt_of_le hql hs1)).trans (HCR.out 0 _ rfl), (hb3.cell (p := ⟨q, off + i * 2 + 1, none⟩) (Nat.lt_of_lt_of_le hql hs1)).trans (HCR.out 1 _ rfl)⟩)
        replace hs1 := Nat.le_trans hs1 hb3.size
        clear hb3 HCR
        have HQK := Lib.hid (show qB 5 Z0 Z1 = rpB Z0 Z1 from rfl)
        rw [HQK.out] at HST HNF
        clear HQK
        cases hpt : rpB Z0 Z1 with
        | false =>
          have HEz := Lib.hid (HNO.out (.inr (HNF.out hpt)))
          clear hpt
          go_wp2_with ((with_reducible refine wpl_store_row rtV ?_ (.tmp 4) (.tmp 43) ?_ (w.heap.size) ?_ (vrow 0 0 none 0 0) ?_ (vrow_one _ _ _ _ _) 27 ?_ _ ?_ HX.out ?_); rfl; rfl; rfl; rfl; rfl; rfl; intro w7 hr7 hg7 hs7; (try simp only [Act.put]))
          rw [HEz.out.1, HEz.out.2]
          exact bodyPost_ret (res_row_tmp rtV rfl _ _ w.heap.size 27 (vrow 0 0 none 0 0) rfl (.bool false) rfl rfl hr7) rfl ⟨none, 0, rfl, .inl rfl, HBw.out.grown hg7 HBw.out.size (fun k hk => by cases hk; exact Nat.le_refl _)⟩
        | true =>
          have HOK' := Lib.hid (show rtpB 5 zs (i + 1) = true by rw [HST.out, HOK.out, hpt]; rfl)
          clear hpt HST HNF HOK
          have q0 : ∀ p : Bel W.heap.size w3.drew, p.w'.cell? ⟨q, off + i * 2, none⟩ = some (.int .i64 Z0) := fun p => (p.h.cell (p := ⟨q, off + i * 2, none⟩) hql).trans HC0.out.1
          have q1 : ∀ p : Bel W.heap.size w3.drew, p.w'.cell? ⟨q, off + i * 2 + 1, none⟩ = some (.int .i64 Z1) := fun p => (p.h.cell (p := ⟨q, off + i * 2 + 1, none⟩) hql).trans HC0.out.2
          go_wp2_with fail
          refine Tin.reg_begin W.heap.size 14 (by rfl) (by kernel_rfl) ?_
          refine Tin.reg_quiets [0, 1, 2, 3, 4, 5, 6, 7, 8, 9, 10] _ 3 rfl (by simp only [Tin.pick, List.map_cons, List.map_nil, Array.getD_eq_getD_getElem?, List.getElem?_toArray, List.getElem?_cons_zero, List.getElem?_cons_succ, Option.getD_some]; rfl) (by kernel_rfl) (by kernel_rfl) ?_
          repeat (first | go_big_quiet_step (fail))
          refine wpQuiet_nil ?_
          clear q0 q1
          refine Tin.reg_one 11 _ rfl (by kernel_rfl) ?_
          try simp only [List.getElem_toArray, List.getElem_cons_succ, List.getElem_cons_zero]
          go_wp2_with fail
          have hW3 := hs1
          refine ⟨W.heap.size, by have h := (ba (brefl w3) (.cells #[.int .i64 Z0, .int .i64 Z1] 3)).mono hs1; exact ⟨h.os, h.tape, h.output, h.size, h.block⟩, Nat.le_refl _, ?_⟩
          have HO4 := Lib.hid (HO.out.alloc (.cells #[.int .i64 Z0, .int .i64 Z1] 3)).drew
          have HBW4 := Lib.hid (ud' (HBW.out.trans ((ba (brefl w3) (.cells #[.int .i64 Z0, .int .i64 Z1] 3)).mono hs1)))
          have HX4 := Lib.hid (show ((w3.alloc (.cells #[.int .i64 Z0, .int .i64 Z1] 3)).drew).heap[w.heap.size]? = some (.cells (vrow 0 0 none 0 0) 27 (0, 0)) by show (w3.alloc _).heap[w.heap.size]? = _; rw [Below.heap_alloc _ _ _ (row_lt HX.out)]; exact HX.out)
          have HNS := Lib.hid (show Sl .i64 ((w3.alloc (.cells #[.int .i64 Z0, .int .i64 Z1] 3)).drew) (some ⟨w3.heap.size, 0, none⟩) [Z0, Z1] from Sl.new_ w3 _ _ _ rfl)
          refine Tin.reg_one 12 _ rfl (by kernel_rfl) ?_
          try simp only [List.getElem_toArray, List.getElem_cons_succ, List.getElem_cons_zero]
          go_wp2_with (at_builtin; refine Tin.wpl_app bt3 _ rfl (.tmp 44) (.tmp 55) rfl W.heap.size (.slice A1 (i * 2) c1) (zs.take (i * 2)) rfl HO4.out (some ⟨w3.heap.size, 0, none⟩) 2 2 [Z0, Z1] rfl HNS.out rfl (by rw [HTL.out]; simp; omega) (by rw [HTL.out]; simp; omega) (by show W.heap.size ≤ (w3.alloc _).heap.size; simp; omega) ?_; intro v5 w5 ho5 hg5 hw5; rw [← HTK.out] at ho5; obtain ⟨A5, c5, rfl⟩ := own_form ho5; rw [HTM.out] at ho5 ⊢; have HO5 := Lib.hid ho5; have HG5 := Lib.hid hg5; clear ho5 hg5 hw5)
          have hlow : ∀ g, (Value.slice A1 (i * 2) c1).ownBlock = some g → W.heap.size ≤ g := fun g hg => (World.ownsRow.lt HO4.out g hg).1
          have HBW5 := Lib.hid (HBW4.out.grown HG5.out HBW4.out.size hlow)
          have HX5 := Lib.hid ((HG5.out.block w.heap.size (row_lt HX4.out) (fun e => by have := hlow _ e.symm; omega)).trans HX4.out)
          refine ⟨W.heap.size, (Below.refl _ _).grown HG5.out (by show W.heap.size ≤ (w3.alloc _).heap.size; simp; omega) hlow, Nat.le_refl _, ?_⟩
          refine Tin.reg_quiets [13] _ 0 rfl (by simp only [Tin.pick, List.map_cons, List.map_nil, Array.getD_eq_getD_getElem?, List.getElem?_toArray, List.getElem?_cons_zero, List.getElem?_cons_succ, Option.getD_some]; rfl) (by kernel_rfl) (by kernel_rfl) ?_
          repeat (first | go_big_quiet_step (fail))
          refine wpQuiet_nil ?_
          refine Tin.reg_done (by kernel_rfl) ?_
          clear hlow hW3
          go_wp2_with fail
          go_roundw
          case rel => exact ⟨i + 1, A5, c5, by omega, by go_num, rfl, HOK'.out, HO5.out, HBW5.out⟩
          case measure => simp [intOf]; omega
      · obtain rfl : i = n := by omega
        have HTL := Lib.hid (show zs.take (i * 2) = zs by rw [← HZS.out, List.take_length])
        rw [HTL.out] at HO
        obtain ⟨hA, hsl⟩ := HO.out.sl'
        obtain ⟨hy1, hy2⟩ := HYES.out HT.out HOK.out
        have HR := Lib.hid (rof__any 5 2 (i : Int) A1 zs c1 wr hsl (by rw [HZS.out]; omega) (by decide) (by rw [HZS.out, Int.tdiv_eq_ediv_of_nonneg (by omega)]; omega) (by omega) (by omega))
        rw [hy1, hy2, HZS.out] at HR
        clear hA hsl hy1 hy2
        go_wp2_with fail
        refine HR.out.mono ?_
        rintro e w5 ⟨A5, c5, rfl, ho5, hb5⟩
        have hlt := row_lt HX.out
        have HX5 := Lib.hid ((hb5.block _ hlt).trans HX.out)
        replace HBw := Lib.hid (HBw.out.trans (hb5.mono HBw.out.size))
        have HO5 := Lib.hid ho5
        clear hb5 ho5 HR HO HX HYES HNO
        go_wp2_with ((with_reducible refine wpl_store_row rtV ?_ (.tmp 4) (.tmp 60) ?_ (w.heap.size) ?_ (vrow (on (raB 5 i zs) 5) (on (raB 5 i zs) (i : Int)) A5 (raL 5 i zs).length c5) ?_ (vrow_one _ _ _ _ _) 27 ?_ _ ?_ HX5.out ?_); rfl; rfl; rfl; rfl; rfl; rfl; intro w7 hr7 hg7 hs7; (try simp only [Act.put]))
        exact bodyPost_ret (res_row_tmp rtV rfl _ _ w.heap.size 27 (vrow (on (raB 5 i zs) 5) (on (raB 5 i zs) (i : Int)) A5 (raL 5 i zs).length c5) rfl (.bool (raB 5 i zs)) rfl rfl hr7) rfl ⟨A5, c5, rfl, (HO5.out.kept hg7 (by
          cases hq : (Value.slice A5 (raL 5 i zs).length c5).ownBlock with
          | none => exact .inl rfl
          | some q => exact .inr (fun e => by have h1 := (World.ownsRow.lt HO5.out q hq).1; have e' : q = w.heap.size := Option.some.inj e; omega))).sl'.2, HBw.out.grown hg7 HBw.out.size (fun k hk => by cases hk; exact Nat.le_refl _)⟩
  have d5 : (k != 5) = true := by simpa using h5
  by_cases h10 : k = 10
  · subst h10
    clear h5 d5
    have HT := Lib.hid (show raT 10 = true by decide)
    have HQ := Lib.hid (fun a b => rtQ_q HT.out a b)
    go_enter Try.func11, Try.ntmps11
    go_wp2_with fail
    have hsw : w.heap.size < (w.alloc (.cells (vrow 0 0 none 0 0) 27)).heap.size := by simp
    generalize w.alloc (.cells #[.int .i64 0, .int .i64 0, .slice none 0 0] 27) = W at *
    go_loopw [6, 7] (fun s6 s7 wr => ∃ (i : Nat) (A1 : Option Addr) (c1 : Nat), i ≤ n ∧ s7 = .int .i64 (i : Int) ∧ s6 = .slice A1 (i * 2) c1 ∧ rtpB 10 zs i = true ∧ Own .i64 3 wr W.heap.size (.slice A1 (i * 2) c1) (zs.take (i * 2)) ∧ Below W.heap.size W wr) (fun _ s7 _ => n - (intOf s7).toNat)
    case atStart => exact ⟨0, none, 0, by omega, rfl, rfl, rfl, by simpa using Own.nil_ _ _ _ _, Below.refl _ _⟩
    case round =>
      obtain ⟨i, A1, c1, hi, rfl, rfl, hok, hown, hb⟩ := hrel
      have HOK := Lib.hid hok
      have HO := Lib.hid hown
      have HBW := Lib.hid hb
      have HBw := Lib.hid (HB.out.trans (hb.mono HB.out.size))
      replace HX := Lib.hid ((hb.block _ hsw).trans HX.out)
      have hs1 : W.heap.size ≤ wr.heap.size := hb.size
      clear hok hown hb
      by_cases hil : i < n
      · have i1 : (i : Int) < (n : Int) := by omega
        have h2 : i * 2 + 2 ≤ zs.length := by rw [HZS.out]; omega
        obtain ⟨q, off, rfl, hql, -⟩ := HS.out.at_ (by simp; omega)
        have HCR := Lib.hid (cells2 (HS.out.keep HBW.out) i h2)
        have HNF := Lib.hid (fun h => rtpB_no (k := 10) (zs := zs) i h n hil)
        have HTK := Lib.hid (take_two h2)
        have HTL := Lib.hid (show (zs.take (i * 2)).length = i * 2 by rw [List.length_take]; omega)
        have HTM := Lib.hid (show (zs.take ((i + 1) * 2)).length = (i + 1) * 2 by rw [List.length_take]; omega)
        have HST := Lib.hid (show rtpB 10 zs (i + 1) = (rtpB 10 zs i && rtQ 10 (nth zs (i * 2)) (nth zs (i * 2 + 1))) from rfl)
        rw [HQ.out] at HST HNF
        clear h2
        generalize nth zs (i * 2) = Z0 at *
        generalize nth zs (i * 2 + 1) = Z1 at *
        go_wp2_with ((with_reducible refine wpl_loadv rtR ?_ (.tmp 37) ?_ q (off + i * 2) ?_ _ ?_ HCR.out ?_); rfl; rfl; rfl; rfl; simp only [Act.put, List.setIfInBounds_toArray, List.set_cons_succ, List.set_cons_zero])
        refine (rrs_any Z0 Z1 wr).mono ?_
        rintro e w3 ⟨rfl, hb3⟩
        replace HX := Lib.hid ((hb3.block _ (row_lt HX.out)).trans HX.out)
        replace HO := Lib.hid (HO.out.keep hb3)
        replace HBw := Lib.hid (HBw.out.trans (hb3.mono HBw.out.size))
        replace HBW := Lib.hid (HBW.out.trans (hb3.mono HBW.out.size))
        have HC0 := Lib.hid (show w3.cell? ⟨q, off + i * 2, none⟩ = some (.int .i64 Z0) ∧ w3.cell? ⟨q, off + i * 2 + 1, none⟩ = some (.int .i64 Z1) from ⟨(hb3.cell (p := ⟨q, off + i * 2, none⟩) (Nat.lt_of_lt_of_le hql hs1)).trans (HCR.out 0 _ rfl), (hb3.cell (p := ⟨q, off + i * 2 + 1, none⟩) (Nat.lt_of_lt_of_le hql hs1)).trans (HCR.out 1 _ rfl)⟩)
        replace hs1 := Nat.le_trans hs1 hb3.size
        clear hb3 HCR
        have HQK := Lib.hid (show qB 10 Z0 Z1 = rsB Z0 Z1 from rfl)
        rw [HQK.out] at HST HNF
        clear HQK
        cases hpt : rsB Z0 Z1 with
        | false =>
          have HEz := Lib.hid (HNO.out (.inr (HNF.out hpt)))
          clear hpt
          go_wp2_with ((with_reducible refine wpl_store_row rtV ?_ (.tmp 4) (.tmp 43) ?_ (w.heap.size) ?_ (vrow 0 0 none 0 0) ?_ (vrow_one _ _ _ _ _) 27 ?_ _ ?_ HX.out ?_); rfl; rfl; rfl; rfl; rfl; rfl; intro w7 hr7 hg7 hs7; (try simp only [Act.put]))
          rw [HEz.out.1, HEz.out.2]
          exact bodyPost_ret (res_row_tmp rtV rfl _ _ w.heap.size 27 (vrow 0 0 none 0 0) rfl (.bool false) rfl rfl hr7) rfl ⟨none, 0, rfl, .inl rfl, HBw.out.grown hg7 HBw.out.size (fun k hk => by cases hk; exact Nat.le_refl _)⟩
        | true =>
          have HOK' := Lib.hid (show rtpB 10 zs (i + 1) = true by rw [HST.out, HOK.out, hpt]; rfl)
          clear hpt HST HNF HOK
          have q0 : ∀ p : Bel W.heap.size w3.drew, p.w'.cell? ⟨q, off + i * 2, none⟩ = some (.int .i64 Z0) := fun p => (p.h.cell (p := ⟨q, off + i * 2, none⟩) hql).trans HC0.out.1
          have q1 : ∀ p : Bel W.heap.size w3.drew, p.w'.cell? ⟨q, off + i * 2 + 1, none⟩ = some (.int .i64 Z1) := fun p => (p.h.cell (p := ⟨q, off + i * 2 + 1, none⟩) hql).trans HC0.out.2
          go_wp2_with fail
          refine Tin.reg_begin W.heap.size 14 (by rfl) (by kernel_rfl) ?_
          refine Tin.reg_quiets [0, 1, 2, 3, 4, 5, 6, 7, 8, 9, 10] _ 3 rfl (by simp only [Tin.pick, List.map_cons, List.map_nil, Array.getD_eq_getD_getElem?, List.getElem?_toArray, List.getElem?_cons_zero, List.getElem?_cons_succ, Option.getD_some]; rfl) (by kernel_rfl) (by kernel_rfl) ?_
          repeat (first | go_big_quiet_step (fail))
          refine wpQuiet_nil ?_
          clear q0 q1
          refine Tin.reg_one 11 _ rfl (by kernel_rfl) ?_
          try simp only [List.getElem_toArray, List.getElem_cons_succ, List.getElem_cons_zero]
          go_wp2_with fail
          have hW3 := hs1
          refine ⟨W.heap.size, by have h := (ba (brefl w3) (.cells #[.int .i64 Z0, .int .i64 Z1] 3)).mono hs1; exact ⟨h.os, h.tape, h.output, h.size, h.block⟩, Nat.le_refl _, ?_⟩
          have HO4 := Lib.hid (HO.out.alloc (.cells #[.int .i64 Z0, .int .i64 Z1] 3)).drew
          have HBW4 := Lib.hid (ud' (HBW.out.trans ((ba (brefl w3) (.cells #[.int .i64 Z0, .int .i64 Z1] 3)).mono hs1)))
          have HX4 := Lib.hid (show ((w3.alloc (.cells #[.int .i64 Z0, .int .i64 Z1] 3)).drew).heap[w.heap.size]? = some (.cells (vrow 0 0 none 0 0) 27 (0, 0)) by show (w3.alloc _).heap[w.heap.size]? = _; rw [Below.heap_alloc _ _ _ (row_lt HX.out)]; exact HX.out)
          have HNS := Lib.hid (show Sl .i64 ((w3.alloc (.cells #[.int .i64 Z0, .int .i64 Z1] 3)).drew) (some ⟨w3.heap.size, 0, none⟩) [Z0, Z1] from Sl.new_ w3 _ _ _ rfl)
          refine Tin.reg_one 12 _ rfl (by kernel_rfl) ?_
          try simp only [List.getElem_toArray, List.getElem_cons_succ, List.getElem_cons_zero]
          go_wp2_with (at_builtin; refine Tin.wpl_app bt3 _ rfl (.tmp 44) (.tmp 55) rfl W.heap.size (.slice A1 (i * 2) c1) (zs.take (i * 2)) rfl HO4.out (some ⟨w3.heap.size, 0, none⟩) 2 2 [Z0, Z1] rfl HNS.out rfl (by rw [HTL.out]; simp; omega) (by rw [HTL.out]; simp; omega) (by show W.heap.size ≤ (w3.alloc _).heap.size; simp; omega) ?_; intro v5 w5 ho5 hg5 hw5; rw [← HTK.out] at ho5; obtain ⟨A5, c5, rfl⟩ := own_form ho5; rw [HTM.out] at ho5 ⊢; have HO5 := Lib.hid ho5; have HG5 := Lib.hid hg5; clear ho5 hg5 hw5)
          have hlow : ∀ g, (Value.slice A1 (i * 2) c1).ownBlock = some g → W.heap.size ≤ g := fun g hg => (World.ownsRow.lt HO4.out g hg).1
          have HBW5 := Lib.hid (HBW4.out.grown HG5.out HBW4.out.size hlow)
          have HX5 := Lib.hid ((HG5.out.block w.heap.size (row_lt HX4.out) (fun e => by have := hlow _ e.symm; omega)).trans HX4.out)
          refine ⟨W.heap.size, (Below.refl _ _).grown HG5.out (by show W.heap.size ≤ (w3.alloc _).heap.size; simp; omega) hlow, Nat.le_refl _, ?_⟩
          refine Tin.reg_quiets [13] _ 0 rfl (by simp only [Tin.pick, List.map_cons, List.map_nil, Array.getD_eq_getD_getElem?, List.getElem?_toArray, List.getElem?_cons_zero, List.getElem?_cons_succ, Option.getD_some]; rfl) (by kernel_rfl) (by kernel_rfl) ?_
          repeat (first | go_big_quiet_step (fail))
          refine wpQuiet_nil ?_
          refine Tin.reg_done (by kernel_rfl) ?_
          clear hlow hW3
          go_wp2_with fail
          go_roundw
          case rel => exact ⟨i + 1, A5, c5, by omega, by go_num, rfl, HOK'.out, HO5.out, HBW5.out⟩
          case measure => simp [intOf]; omega
      · obtain rfl : i = n := by omega
        have HTL := Lib.hid (show zs.take (i * 2) = zs by rw [← HZS.out, List.take_length])
        rw [HTL.out] at HO
        obtain ⟨hA, hsl⟩ := HO.out.sl'
        obtain ⟨hy1, hy2⟩ := HYES.out HT.out HOK.out
        have HR := Lib.hid (rof__any 10 2 (i : Int) A1 zs c1 wr hsl (by rw [HZS.out]; omega) (by decide) (by rw [HZS.out, Int.tdiv_eq_ediv_of_nonneg (by omega)]; omega) (by omega) (by omega))
        rw [hy1, hy2, HZS.out] at HR
        clear hA hsl hy1 hy2
        go_wp2_with fail
        refine HR.out.mono ?_
        rintro e w5 ⟨A5, c5, rfl, ho5, hb5⟩
        have hlt := row_lt HX.out
        have HX5 := Lib.hid ((hb5.block _ hlt).trans HX.out)
        replace HBw := Lib.hid (HBw.out.trans (hb5.mono HBw.out.size))
        have HO5 := Lib.hid ho5
        clear hb5 ho5 HR HO HX HYES HNO
        go_wp2_with ((with_reducible refine wpl_store_row rtV ?_ (.tmp 4) (.tmp 60) ?_ (w.heap.size) ?_ (vrow (on (raB 10 i zs) 10) (on (raB 10 i zs) (i : Int)) A5 (raL 10 i zs).length c5) ?_ (vrow_one _ _ _ _ _) 27 ?_ _ ?_ HX5.out ?_); rfl; rfl; rfl; rfl; rfl; rfl; intro w7 hr7 hg7 hs7; (try simp only [Act.put]))
        exact bodyPost_ret (res_row_tmp rtV rfl _ _ w.heap.size 27 (vrow (on (raB 10 i zs) 10) (on (raB 10 i zs) (i : Int)) A5 (raL 10 i zs).length c5) rfl (.bool (raB 10 i zs)) rfl rfl hr7) rfl ⟨A5, c5, rfl, (HO5.out.kept hg7 (by
          cases hq : (Value.slice A5 (raL 10 i zs).length c5).ownBlock with
          | none => exact .inl rfl
          | some q => exact .inr (fun e => by have h1 := (World.ownsRow.lt HO5.out q hq).1; have e' : q = w.heap.size := Option.some.inj e; omega))).sl'.2, HBw.out.grown hg7 HBw.out.size (fun k hk => by cases hk; exact Nat.le_refl _)⟩
  have d10 : (k != 10) = true := by simpa using h10
  have HEz := Lib.hid (HNO.out (.inl (decide_eq_false (by omega))))
  have HBw := Lib.hid HB.out
  clear h5 h10
  go_enter Try.func11, Try.ntmps11
  go_wp2_with ((with_reducible refine wpl_store_row rtV ?_ (.tmp 4) (.tmp 14) ?_ (w.heap.size) ?_ (vrow 0 0 none 0 0) ?_ (vrow_one _ _ _ _ _) 27 ?_ _ ?_ HX.out ?_); rfl; rfl; rfl; rfl; rfl; rfl; intro w7 hr7 hg7 hs7; (try simp only [Act.put]))
  rw [HEz.out.1, HEz.out.2]
  exact bodyPost_ret (res_row_tmp rtV rfl _ _ w.heap.size 27 (vrow 0 0 none 0 0) rfl (.bool false) rfl rfl hr7) rfl ⟨none, 0, rfl, .inl rfl, HBw.out.grown hg7 HBw.out.size (fun k hk => by cases hk; exact Nat.le_refl _)⟩
end Go.Proofs.Ytmdcdmgbillehaa
