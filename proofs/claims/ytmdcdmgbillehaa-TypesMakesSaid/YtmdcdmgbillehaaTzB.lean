/- The contract of made: a value of numbers. -/
import Derived.Test.YtmdcdmgbillehaaTzA
namespace Go.Proofs.Ytmdcdmgbillehaa
open Go.RowKit
open Go.Tin
set_option linter.unusedVariables false
set_option linter.unusedSimpArgs false


set_option maxRecDepth 100000 in
set_option maxHeartbeats 8000000 in
theorem made_any (k : Int) (A : Option Addr) (l : List Int) (cap : Nat) (w : World) (hs : Sl .i64 w A l) (hl : l.length ≤ 1000000) :
    Calls Try.prog 37 #[.int .i64 k, .slice A l.length cap, .func (.func 38) #[.agg #[.int .i64 (szT k), .int .i64 (prT k), .int .i64 (isT k)]] #[]] w fun e w' => ∃ A' c', e = .returned (.tuple #[.agg (vrow (on (rofB k (l.length : Int) l) k) (on (rofB k (l.length : Int) l) (l.length : Int)) A' (rofL k (l.length : Int) l).length c'), .bool (rofB k (l.length : Int) l)]) ∧ Own .u8 5 w' w.heap.size (.slice A' (rofL k (l.length : Int) l).length c') (rofL k (l.length : Int) l) ∧ Below w.heap.size w w' := by
  obtain ⟨W, hW⟩ : ∃ W, W = (w.alloc (.cells (vrow 0 0 none 0 0) 27)).alloc (.cells (vrow k (l.length : Int) none 0 0) 27) := ⟨_, rfl⟩
  have HB := Lib.hid (show Below w.heap.size w W by rw [hW]; exact ba (ba (brefl w) _) _)
  have HX := Lib.hid (show W.heap[w.heap.size]? = some (.cells (vrow 0 0 none 0 0) 27 (0, 0)) by rw [hW, Below.heap_alloc _ _ _ (by simp)]; exact heap_alloc_new w _)
  have HR := Lib.hid (show W.heap[w.heap.size + 1]? = some (.cells (vrow k (l.length : Int) none 0 0) 27 (0, 0)) by
    have := heap_alloc_new (w.alloc (.cells (vrow 0 0 none 0 0) 27)) (.cells (vrow k (l.length : Int) none 0 0) 27)
    rw [hW]
    simpa using this)
  have hsz : W.heap.size = w.heap.size + 2 := by rw [hW]; simp
  have HS := Lib.hid hs
  have HED := Lib.hid (show rofB k (l.length : Int) l = (nmsB k l && mayV k (l.length : Int) (nmsL k l)) ∧ rofL k (l.length : Int) l = (if rofB k (l.length : Int) l then nmsL k l else []) from ⟨rfl, rfl⟩)
  have HE0 := Lib.hid (show rofB k (l.length : Int) l = false → rofL k (l.length : Int) l = [] ∧ on (rofB k (l.length : Int) l) k = 0 ∧ on (rofB k (l.length : Int) l) (l.length : Int) = 0 from fun h => ⟨by unfold rofL; rw [h]; rfl, by rw [h]; rfl, by rw [h]; rfl⟩)
  clear hs
  go_enter Try.func37, Try.ntmps37
  go_wp2_with fail
  rw [← hW]
  clear hW
  go_loopw [19] (fun s9 wr => ∃ (i : Nat) (A1 : Option Addr) (c1 : Nat), i ≤ l.length ∧ s9 = .int .i64 (i : Int) ∧ nmsB k (l.take i) = true ∧ wr.heap[w.heap.size + 1]? = some (.cells (vrow k (l.length : Int) A1 (nmsL k (l.take i)).length c1) 27 (0, 0)) ∧ Own .u8 5 wr W.heap.size (.slice A1 (nmsL k (l.take i)).length c1) (nmsL k (l.take i)) ∧ Below (w.heap.size + 1) W wr) (fun s9 _ => l.length - (intOf s9).toNat)
  case atStart => exact ⟨0, none, 0, by omega, rfl, by simp [nmsB], by simpa [nmsL] using HR.out, by simpa [nmsL] using Own.nil_ _ _ _ _, Below.refl _ _⟩
  case round =>
    obtain ⟨i, A1, c1, hi, rfl, hok, hrow, hown, hb⟩ := hrel
    have HOK := Lib.hid hok
    have HRW := Lib.hid hrow
    have HO := Lib.hid hown
    have HB1 := Lib.hid hb
    have HBw := Lib.hid (HB.out.trans (hb.mono (Nat.le_succ _)))
    have HZ := Lib.hid ((hb.block _ (Nat.lt_succ_self _)).trans HX.out)
    have hs1 : W.heap.size ≤ wr.heap.size := hb.size
    clear hok hrow hown hb
    by_cases hil : i < l.length
    · have i1 : (i : Int) < (l.length : Int) := by omega
      have hsl := HS.out.keep HBw.out
      obtain ⟨q, off, rfl, hql, hqc⟩ := hsl.at_ (by omega)
      have kx : wr.cell? ⟨q, off + i, none⟩ = some (.int .i64 (nth l i)) := hqc i hil
      have HTN := Lib.hid (take_next hil)
      have HNF := Lib.hid (nmsB_false k l i hil)
      have HPR := Lib.hid (nmsL_le k (l.take i))
      clear hsl hqc
      generalize nth l i = N at *
      have HKL := Lib.hid (show kpL k N = (if nmB k N then nmL k N else []) from rfl)
      go_wp2_with fail
      refine (kput_any k N wr).mono ?_
      rintro e w3 ⟨A3, c3, rfl, ho3, hb3⟩
      have HP3 := Lib.hid ho3
      have HO3 := Lib.hid (HO.out.keep hb3)
      have HR3 := Lib.hid ((hb3.block _ (row_lt HRW.out)).trans HRW.out)
      have HZ3 := Lib.hid ((hb3.block _ (row_lt HZ.out)).trans HZ.out)
      have HB3 := Lib.hid (HB1.out.trans (hb3.mono (show w.heap.size + 1 ≤ wr.heap.size by omega)))
      have HBw3 := Lib.hid (HBw.out.trans (hb3.mono HBw.out.size))
      have hs3 : wr.heap.size ≤ w3.heap.size := hb3.size
      have HPL := Lib.hid (show (kpL k N).length ≤ 4 by rw [HKL.out]; split; exact putL_le4 _ _ _; simp)
      clear ho3 hb3 HO HRW HZ HB1 HBw kx
      cases hpt : nmB k N with
      | false =>
        have HE := Lib.hid (show rofB k (l.length : Int) l = false by rw [HED.out.1, HNF.out hpt]; rfl)
        have HEz := Lib.hid (HE0.out HE.out)
        clear hpt
        generalize kpL k N = PL at *
        go_wp2_with ((with_reducible refine wpl_store_row rtV ?_ (.tmp 6) (.tmp 31) ?_ (w.heap.size) ?_ (vrow 0 0 none 0 0) ?_ (vrow_one _ _ _ _ _) 27 ?_ _ ?_ HZ3.out ?_); rfl; rfl; rfl; rfl; rfl; rfl; intro w7 hr7 hg7 hs7; (try simp only [Act.put]))
        rw [HEz.out.2.1, HEz.out.2.2, HEz.out.1, HE.out]
        exact bodyPost_ret (res_row_tmp rtV rfl _ _ w.heap.size 27 (vrow 0 0 none 0 0) rfl (.bool false) rfl rfl hr7) rfl ⟨none, 0, rfl, Own.nil_ _ _ _ _, HBw3.out.grown hg7 HBw3.out.size (fun k hk => by cases hk; exact Nat.le_refl _)⟩

      | true =>
        have HNBT := Lib.hid hpt
        have HOK' := Lib.hid (show nmsB k (l.take (i + 1)) = true by rw [HTN.out, nmsB_app, HOK.out]; show (true && (nmB k N && true)) = true; rw [HNBT.out]; rfl)
        have HLS := Lib.hid (show nmsL k (l.take (i + 1)) = nmsL k (l.take i) ++ kpL k N by rw [HTN.out, nmsL_app, HKL.out, HNBT.out, if_pos rfl]; show _ ++ (nmL k N ++ []) = _; rw [List.append_nil])
        have hLi : (l.take i).length ≤ 1000000 := by rw [List.length_take]; omega
        clear hpt
        generalize kpL k N = PL at *
        generalize nmsL k (l.take i) = L at *
        have k2 := row_cell (v := .slice A1 L.length c1) HR3.out 2 rfl
        go_wp2_with (at_builtin; refine Tin.wpl_app bt5 _ rfl (.tmp 33) (.tmp 34) rfl W.heap.size (.slice A1 L.length c1) L rfl HO3.out A3 PL.length c3 PL rfl HP3.out.sl'.2 rfl (by have := HPL.out; have := HPR.out; omega) (by have := HPL.out; have := HPR.out; omega) (by omega) ?_; intro v4 w4 ho4 hg4 hw4; obtain ⟨A4, c4, rfl⟩ := own_form ho4; have HO4 := Lib.hid ho4; have HR4 := Lib.hid ((hg4.block (w.heap.size + 1) (row_lt HR3.out) (fun e => by have h1 := (World.ownsRow.lt HO3.out _ e.symm).1; omega)).trans HR3.out); have HB4 := Lib.hid (HB3.out.grown hg4 (by omega) (fun q hq => by have h1 := (World.ownsRow.lt HO3.out _ hq).1; omega)); have hs4 : w3.heap.size ≤ w4.heap.size := hg4.size; clear ho4 hg4 hw4; have q2 := row_cell (v := .slice A1 L.length c1) HR4.out 2 rfl; have y2 := frozen_of_row w4 _ 2 _ _ HR4.out)
        have hgs := grown_setCells (w.heap.size + 1) [.slice A4 (L.length + PL.length) c4] 2 w4 w4 (World.grownBy.refl w4 _)
        have HR5 := Lib.hid (row_set HR4.out 2 (.slice A4 (L.length + PL.length) c4))
        have HO5 := Lib.hid (HO4.out.kept hgs (by right; intro e; have h1 := (World.ownsRow.lt HO4.out _ e).1; omega))
        have HB5 := Lib.hid (HB4.out.grown hgs (by omega) (fun q hq => by have e' : w.heap.size + 1 = q := Option.some.inj hq; omega))
        clear hgs q2 y2 k2
        go_roundw
        case rel =>
          refine ⟨i + 1, A4, c4, by omega, by go_num, HOK'.out, ?_, ?_, HB5.out⟩
          · rw [HLS.out, List.length_append]; exact HR5.out
          · rw [HLS.out]; exact HO5.out
        case measure => simp [intOf]; omega
    · obtain rfl : i = l.length := by omega
      rw [List.take_length] at HOK HRW HO
      have HY := Lib.hid (byts_nmsL k l)
      have HL := Lib.hid (nmsL_le k l)
      have HED2 := Lib.hid (show rofB k (l.length : Int) l = mayV k (l.length : Int) (nmsL k l) by rw [HED.out.1, HOK.out]; rfl)
      generalize nmsL k l = R at *
      go_wp2_with ((with_reducible refine wpl_load_row rtV ?_ (.tmp 8) ?_ (w.heap.size + 1) ?_ 27 (vrow k (l.length : Int) A1 R.length c1) ?_ HRW.out ?_); rfl; rfl; rfl; rfl; simp only [Act.put, List.setIfInBounds_toArray, List.set_cons_succ, List.set_cons_zero])
      refine (vmay_any k (l.length : Int) A1 R c1 wr HO.out.sl'.2 (by have := HL.out; omega) HY.out).mono ?_
      rintro e w5 ⟨rfl, hb5⟩
      have HR5 := Lib.hid ((hb5.block _ (row_lt HRW.out)).trans HRW.out)
      have HZ5 := Lib.hid ((hb5.block _ (row_lt HZ.out)).trans HZ.out)
      have HB5 := Lib.hid (HBw.out.trans (hb5.mono HBw.out.size))
      have HO5 := Lib.hid (HO.out.keep hb5)
      clear hb5
      cases hmv : mayV k (l.length : Int) R with
      | false =>
        have HE := Lib.hid (HED2.out.trans hmv)
        have HEz := Lib.hid (HE0.out HE.out)
        clear hmv
        go_wp2_with ((with_reducible refine wpl_store_row rtV ?_ (.tmp 6) (.tmp 41) ?_ (w.heap.size) ?_ (vrow 0 0 none 0 0) ?_ (vrow_one _ _ _ _ _) 27 ?_ _ ?_ HZ5.out ?_); rfl; rfl; rfl; rfl; rfl; rfl; intro w7 hr7 hg7 hs7; (try simp only [Act.put]))
        rw [HEz.out.2.1, HEz.out.2.2, HEz.out.1, HE.out]
        exact bodyPost_ret (res_row_tmp rtV rfl _ _ w.heap.size 27 (vrow 0 0 none 0 0) rfl (.bool false) rfl rfl hr7) rfl ⟨none, 0, rfl, Own.nil_ _ _ _ _, HB5.out.grown hg7 HB5.out.size (fun k hk => by cases hk; exact Nat.le_refl _)⟩

      | true =>
        have HE := Lib.hid (HED2.out.trans hmv)
        have HEL := Lib.hid (show rofL k (l.length : Int) l = R by rw [HED.out.2, HE.out]; rfl)
        clear hmv
        go_wp2_with (first | ((with_reducible refine wpl_load_row rtV ?_ (.tmp 8) ?_ (w.heap.size + 1) ?_ 27 (vrow k (l.length : Int) A1 R.length c1) ?_ HR5.out ?_); rfl; rfl; rfl; rfl; simp only [Act.put, List.setIfInBounds_toArray, List.set_cons_succ, List.set_cons_zero]) | ((with_reducible refine wpl_store_row rtV ?_ (.tmp 6) (.tmp 42) ?_ (w.heap.size) ?_ (vrow k (l.length : Int) A1 R.length c1) ?_ (vrow_one _ _ _ _ _) 27 ?_ _ ?_ HZ5.out ?_); rfl; rfl; rfl; rfl; rfl; rfl; intro w7 hr7 hg7 hs7; (try simp only [Act.put])))
        rw [HEL.out, HE.out]
        exact bodyPost_ret (res_row_tmp rtV rfl _ _ w.heap.size 27 (vrow k (l.length : Int) A1 R.length c1) rfl (.bool true) rfl rfl hr7) rfl ⟨A1, c1, rfl, (HO5.out.mono (show w.heap.size ≤ W.heap.size by omega)).kept hg7 (by
          cases hq : (Value.slice A1 R.length c1).ownBlock with
          | none => exact .inl rfl
          | some q => exact .inr (fun e => by have h1 := (World.ownsRow.lt HO5.out q hq).1; have e' : q = w.heap.size := Option.some.inj e; omega)), HB5.out.grown hg7 HB5.out.size (fun k hk => by cases hk; exact Nat.le_refl _)⟩
end Go.Proofs.Ytmdcdmgbillehaa
