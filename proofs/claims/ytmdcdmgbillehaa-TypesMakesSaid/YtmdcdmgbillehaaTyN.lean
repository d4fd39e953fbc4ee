/- The reference's contracts of values of numbers. -/
import Derived.Test.YtmdcdmgbillehaaTyG
import Derived.Test.YtmdcdmgbillehaaTyE
import Derived.Test.YtmdcdmgbillehaaOcG
import Derived.Test.YtmdcdmgbillehaaOcI
namespace Go.Proofs.Ytmdcdmgbillehaa
open Go.RowKit
open Go.Tin
set_option linter.unusedVariables false
set_option linter.unusedSimpArgs false


/-- May a number be one of a type, and its bytes. -/
def nmV (k n : Int) : Int := if sgT k then plN n (prT k) else n
def nmB (k n : Int) : Bool := (!sgT k || plB n (prT k)) && putB (nmV k n) (prT k) 2
def nmL (k n : Int) : List Int := putL (nmV k n) (prT k) 2
def nmsB (k : Int) : List Int → Bool
  | [] => true
  | n :: l => nmB k n && nmsB k l
def nmsL (k : Int) : List Int → List Int
  | [] => []
  | n :: l => nmL k n ++ nmsL k l
theorem nmsB_app (k : Int) : ∀ l m : List Int, nmsB k (l ++ m) = (nmsB k l && nmsB k m)
  | [], m => by simp [nmsB]
  | n :: l, m => by
    show (nmB k n && nmsB k (l ++ m)) = (nmB k n && nmsB k l && nmsB k m)
    rw [nmsB_app k l m, Bool.and_assoc]
theorem nmsL_app (k : Int) : ∀ l m : List Int, nmsL k (l ++ m) = nmsL k l ++ nmsL k m
  | [], m => by simp [nmsL]
  | n :: l, m => by
    show nmL k n ++ nmsL k (l ++ m) = nmL k n ++ nmsL k l ++ nmsL k m
    rw [nmsL_app k l m, List.append_assoc]
theorem putL_le4 (n s o : Int) : (putL n s o).length ≤ 4 := by
  unfold putL
  split
  · rename_i h
    have hs : szB s = true := by
      unfold putB mayO at h
      simp only [Bool.and_eq_true] at h
      exact h.1.1
    have := szB_t hs
    unfold ordL
    split
    · rw [List.length_reverse, bytesOf_len]; omega
    · rw [bytesOf_len]; omega
  · simp
theorem nmsL_le (k : Int) : ∀ l : List Int, (nmsL k l).length ≤ 4 * l.length
  | [] => by simp [nmsL]
  | n :: l => by
    have := nmsL_le k l
    have := putL_le4 (nmV k n) (prT k) 2
    show (putL (nmV k n) (prT k) 2 ++ nmsL k l).length ≤ _
    rw [List.length_append, List.length_cons]
    omega
theorem byts_putL (n s o : Int) : Byts (putL n s o) := by
  have hb : ∀ (k : Nat) (n : Int), Byts (bytesOf k n) := by
    intro k
    induction k with
    | zero => intro n x hx; simp [bytesOf] at hx
    | succ k ih =>
      intro n x hx
      rw [bytesOf_cons] at hx
      rcases List.mem_cons.1 hx with rfl | hx
      · omega
      · exact ih n x hx
  unfold putL
  split
  · unfold ordL
    split
    · exact (hb _ _).sub fun x hx => List.mem_reverse.1 hx
    · exact hb _ _
  · intro x hx; simp at hx
theorem byts_app {l m : List Int} (h : Byts l) (h' : Byts m) : Byts (l ++ m) := fun x hx => by
  rcases List.mem_append.1 hx with hx | hx
  · exact h x hx
  · exact h' x hx
theorem byts_nmsL (k : Int) : ∀ l : List Int, Byts (nmsL k l)
  | [] => fun x hx => by simp [nmsL] at hx
  | n :: l => byts_app (byts_putL _ _ _) (byts_nmsL k l)
theorem nmsB_false (k : Int) (l : List Int) (i : Nat) (hi : i < l.length) (h : nmB k (nth l i) = false) : nmsB k l = false := by
  have e : l = l.take i ++ (nth l i :: l.drop (i + 1)) := by
    unfold nth
    rw [List.getD_eq_getElem?_getD, List.getElem?_eq_getElem hi]
    simp
  rw [e, nmsB_app]
  show (nmsB k (l.take i) && (nmB k (nth l i) && nmsB k (l.drop (i + 1)))) = false
  rw [h]
  simp
theorem take_next {l : List Int} {i : Nat} (hi : i < l.length) : l.take (i + 1) = l.take i ++ [nth l i] := by
  rw [List.take_add_one, List.getElem?_eq_getElem hi]
  unfold nth
  rw [List.getD_eq_getElem?_getD, List.getElem?_eq_getElem hi]
  rfl
def rofB (k cnt : Int) (l : List Int) : Bool := nmsB k l && mayV k cnt (nmsL k l)
def rofL (k cnt : Int) (l : List Int) : List Int := if rofB k cnt l then nmsL k l else []
set_option maxRecDepth 100000 in
set_option maxHeartbeats 8000000 in
theorem rof__any (k by_ cnt : Int) (A : Option Addr) (l : List Int) (cap : Nat) (w : World) (hs : Sl .i64 w A l) (hl : l.length ≤ 1000000) (hby : ¬ by_ = 0) (hq : Int.tdiv (l.length : Int) by_ = cnt) (hc0 : 0 ≤ cnt) (hc1 : cnt ≤ 1000000) :
    Calls Try.prog 39 #[.int .i64 k, .slice A l.length cap, .int .i64 by_] w fun e w' => ∃ A' c', e = .returned (.tuple #[.agg (vrow (on (rofB k cnt l) k) (on (rofB k cnt l) cnt) A' (rofL k cnt l).length c'), .bool (rofB k cnt l)]) ∧ Own .u8 5 w' w.heap.size (.slice A' (rofL k cnt l).length c') (rofL k cnt l) ∧ Below w.heap.size w w' := by
  obtain ⟨W, hW⟩ : ∃ W, W = (w.alloc (.cells (vrow 0 0 none 0 0) 27)).alloc (.cells (vrow k cnt none 0 0) 27) := ⟨_, rfl⟩
  have HB := Lib.hid (show Below w.heap.size w W by rw [hW]; exact ba (ba (brefl w) _) _)
  have HX := Lib.hid (show W.heap[w.heap.size]? = some (.cells (vrow 0 0 none 0 0) 27 (0, 0)) by rw [hW, Below.heap_alloc _ _ _ (by simp)]; exact heap_alloc_new w _)
  have HR := Lib.hid (show W.heap[w.heap.size + 1]? = some (.cells (vrow k cnt none 0 0) 27 (0, 0)) by
    have := heap_alloc_new (w.alloc (.cells (vrow 0 0 none 0 0) 27)) (.cells (vrow k cnt none 0 0) 27)
    rw [hW]
    simpa using this)
  have hsz : W.heap.size = w.heap.size + 2 := by rw [hW]; simp
  have HS := Lib.hid hs
  have HED := Lib.hid (show rofB k cnt l = (nmsB k l && mayV k cnt (nmsL k l)) ∧ rofL k cnt l = (if rofB k cnt l then nmsL k l else []) from ⟨rfl, rfl⟩)
  have HE0 := Lib.hid (show rofB k cnt l = false → rofL k cnt l = [] ∧ on (rofB k cnt l) k = 0 ∧ on (rofB k cnt l) cnt = 0 from fun h => ⟨by unfold rofL; rw [h]; rfl, by rw [h]; rfl, by rw [h]; rfl⟩)
  clear hs
  go_enter Try.func39, Try.ntmps39
  go_wp2_with fail
  rw [← hW]
  clear hW hq hby
  go_loopw [9] (fun s9 wr => ∃ (i : Nat) (A1 : Option Addr) (c1 : Nat), i ≤ l.length ∧ s9 = .int .i64 (i : Int) ∧ nmsB k (l.take i) = true ∧ wr.heap[w.heap.size + 1]? = some (.cells (vrow k cnt A1 (nmsL k (l.take i)).length c1) 27 (0, 0)) ∧ Own .u8 5 wr W.heap.size (.slice A1 (nmsL k (l.take i)).length c1) (nmsL k (l.take i)) ∧ Below (w.heap.size + 1) W wr) (fun s9 _ => l.length - (intOf s9).toNat)
  case atStart => exact ⟨0, none, 0, by omega, rfl, by simp [nmsB], by simpa [nmsL] using HR.out, by simpa [nmsL] using Own.nil_ _ _ _ _, Below.refl _ _⟩
  case round =>
    obtain ⟨i, A1, c1, hi, rfl, hok, hrow, hown, hb⟩ := hrel
    have HOK := Lib.hid hok
    have HRW := Lib.hid hrow
    have HO := Lib.hid hown
    have HB1 := Lib.hid hb
    have HBw := Lib.hid (HB.out.trans (hb.mono (Nat.le_succ _)))
    have HZ := Lib.hid ((hb.block _ (Nat.lt_succ_self _)).trans HX.out)
    have hs1 : W.heap.size ≤ wr.heap.size := hb.size
    clear hok hrow hown hb
    by_cases hil : i < l.length
    · have i1 : (i : Int) < (l.length : Int) := by omega
      have hsl := HS.out.keep HBw.out
      obtain ⟨q, off, rfl, hql, hqc⟩ := hsl.at_ (by omega)
      have kx : wr.cell? ⟨q, off + i, none⟩ = some (.int .i64 (nth l i)) := hqc i hil
      have HTN := Lib.hid (take_next hil)
      have HNF := Lib.hid (nmsB_false k l i hil)
      have HPR := Lib.hid (nmsL_le k (l.take i))
      have HDB := Lib.hid (show nmB k (nth l i) = ((!sgT k || plB (nth l i) (prT k)) && putB (nmV k (nth l i)) (prT k) 2) ∧ nmV k (nth l i) = (if sgT k then plN (nth l i) (prT k) else nth l i) ∧ nmL k (nth l i) = putL (nmV k (nth l i)) (prT k) 2 from ⟨rfl, rfl, rfl⟩)
      clear hsl hqc
      generalize nth l i = N at *
      go_wp2_with fail
      refine (rsgn_any k wr).mono ?_
      rintro e w2 ⟨rfl, rfl⟩
      cases hsg : sgT k with
      | false =>
        have HV := Lib.hid (show nmV k N = N by rw [HDB.out.2.1, hsg]; rfl)
        have HNB := Lib.hid (show nmB k N = putB (nmV k N) (prT k) 2 by rw [HDB.out.1, hsg]; rfl)
        rw [HV.out] at HNB
        have HNL := Lib.hid (HDB.out.2.2.trans (by rw [HV.out]))
        clear hsg
        go_wp2_with fail
        refine (rpart_any k wr).mono ?_
        rintro e w2 ⟨rfl, rfl⟩
        go_wp2_with fail
        refine (rput_any N (prT k) 2 wr).mono ?_
        rintro e w3 ⟨A3, c3, rfl, ho3, hb3⟩
        have HP3 := Lib.hid ho3
        have HO3 := Lib.hid (HO.out.keep hb3)
        have HR3 := Lib.hid ((hb3.block _ (row_lt HRW.out)).trans HRW.out)
        have HZ3 := Lib.hid ((hb3.block _ (row_lt HZ.out)).trans HZ.out)
        have HB3 := Lib.hid (HB1.out.trans (hb3.mono (show w.heap.size + 1 ≤ wr.heap.size by omega)))
        have HBw3 := Lib.hid (HBw.out.trans (hb3.mono HBw.out.size))
        have hs3 : wr.heap.size ≤ w3.heap.size := hb3.size
        have HPL := Lib.hid (putL_le4 N (prT k) 2)
        clear ho3 hb3 HO HRW HZ HB1 HBw kx
        cases hpt : putB N (prT k) 2 with
        | false =>
          have HE := Lib.hid (show rofB k cnt l = false by rw [HED.out.1, HNF.out (by rw [HNB.out, hpt])]; rfl)
          have HEz := Lib.hid (HE0.out HE.out)
          clear hpt
          go_wp2_with ((with_reducible refine wpl_store_row rtV ?_ (.tmp 6) (.tmp 53) ?_ (w.heap.size) ?_ (vrow 0 0 none 0 0) ?_ (vrow_one _ _ _ _ _) 27 ?_ _ ?_ HZ3.out ?_); rfl; rfl; rfl; rfl; rfl; rfl; intro w7 hr7 hg7 hs7; (try simp only [Act.put]))
          rw [HEz.out.2.1, HEz.out.2.2, HEz.out.1, HE.out]
          exact bodyPost_ret (res_row_tmp rtV rfl _ _ w.heap.size 27 (vrow 0 0 none 0 0) rfl (.bool false) rfl rfl hr7) rfl ⟨none, 0, rfl, Own.nil_ _ _ _ _, HBw3.out.grown hg7 HBw3.out.size (fun k hk => by cases hk; exact Nat.le_refl _)⟩
        | true =>
          have HNBT := Lib.hid (HNB.out.trans hpt)
          have HOK' := Lib.hid (show nmsB k (l.take (i + 1)) = true by rw [HTN.out, nmsB_app, HOK.out]; show (true && (nmB k N && true)) = true; rw [HNBT.out]; rfl)
          have HLS := Lib.hid (show nmsL k (l.take (i + 1)) = nmsL k (l.take i) ++ putL N (prT k) 2 by rw [HTN.out, nmsL_app]; show _ ++ (nmL k N ++ []) = _; rw [List.append_nil, HNL.out])
          have hLi : (l.take i).length ≤ 1000000 := by rw [List.length_take]; omega
          clear hpt
          generalize putL N (prT k) 2 = PL at *
          generalize nmsL k (l.take i) = L at *
          have k2 := row_cell (v := .slice A1 L.length c1) HR3.out 2 rfl
          go_wp2_with (at_builtin; refine Tin.wpl_app bt5 _ rfl (.tmp 55) (.tmp 56) rfl W.heap.size (.slice A1 L.length c1) L rfl HO3.out A3 PL.length c3 PL rfl HP3.out.sl'.2 rfl (by have := HPL.out; have := HPR.out; omega) (by have := HPL.out; have := HPR.out; omega) (by omega) ?_; intro v4 w4 ho4 hg4 hw4; obtain ⟨A4, c4, rfl⟩ := own_form ho4; have HO4 := Lib.hid ho4; have HR4 := Lib.hid ((hg4.block (w.heap.size + 1) (row_lt HR3.out) (fun e => by have h1 := (World.ownsRow.lt HO3.out _ e.symm).1; omega)).trans HR3.out); have HB4 := Lib.hid (HB3.out.grown hg4 (by omega) (fun q hq => by have h1 := (World.ownsRow.lt HO3.out _ hq).1; omega)); have hs4 : w3.heap.size ≤ w4.heap.size := hg4.size; clear ho4 hg4 hw4; have q2 := row_cell (v := .slice A1 L.length c1) HR4.out 2 rfl; have y2 := frozen_of_row w4 _ 2 _ _ HR4.out)
          have hgs := grown_setCells (w.heap.size + 1) [.slice A4 (L.length + PL.length) c4] 2 w4 w4 (World.grownBy.refl w4 _)
          have HR5 := Lib.hid (row_set HR4.out 2 (.slice A4 (L.length + PL.length) c4))
          have HO5 := Lib.hid (HO4.out.kept hgs (by right; intro e; have h1 := (World.ownsRow.lt HO4.out _ e).1; omega))
          have HB5 := Lib.hid (HB4.out.grown hgs (by omega) (fun q hq => by have e' : w.heap.size + 1 = q := Option.some.inj hq; omega))
          clear hgs q2 y2 k2
          go_roundw
          case rel =>
            refine ⟨i + 1, A4, c4, by omega, by go_num, HOK'.out, ?_, ?_, HB5.out⟩
            · rw [HLS.out, List.length_append]; exact HR5.out
            · rw [HLS.out]; exact HO5.out
          case measure => simp [intOf]; omega

      | true =>
        have HV := Lib.hid (show nmV k N = plN N (prT k) by rw [HDB.out.2.1, hsg]; rfl)
        have HNB0 := Lib.hid (show nmB k N = (plB N (prT k) && putB (nmV k N) (prT k) 2) by rw [HDB.out.1, hsg]; rfl)
        rw [HV.out] at HNB0
        have HNL := Lib.hid (HDB.out.2.2.trans (by rw [HV.out]))
        clear hsg
        go_wp2_with fail
        refine (rpart_any k wr).mono ?_
        rintro e w2 ⟨rfl, rfl⟩
        go_wp2_with fail
        refine (rplain_any N (prT k) wr).mono ?_
        rintro e w2 ⟨rfl, rfl⟩
        cases hpb : plB N (prT k) with
        | false =>
          have HE := Lib.hid (show rofB k cnt l = false by rw [HED.out.1, HNF.out (by rw [HNB0.out, hpb]; rfl)]; rfl)
          have HEz := Lib.hid (HE0.out HE.out)
          clear hpb
          go_wp2_with ((with_reducible refine wpl_store_row rtV ?_ (.tmp 6) (.tmp 42) ?_ (w.heap.size) ?_ (vrow 0 0 none 0 0) ?_ (vrow_one _ _ _ _ _) 27 ?_ _ ?_ HZ.out ?_); rfl; rfl; rfl; rfl; rfl; rfl; intro w7 hr7 hg7 hs7; (try simp only [Act.put]))
          rw [HEz.out.2.1, HEz.out.2.2, HEz.out.1, HE.out]
          exact bodyPost_ret (res_row_tmp rtV rfl _ _ w.heap.size 27 (vrow 0 0 none 0 0) rfl (.bool false) rfl rfl hr7) rfl ⟨none, 0, rfl, Own.nil_ _ _ _ _, HBw.out.grown hg7 HBw.out.size (fun k hk => by cases hk; exact Nat.le_refl _)⟩

        | true =>
          have HNB := Lib.hid (show nmB k N = putB (plN N (prT k)) (prT k) 2 by rw [HNB0.out, hpb]; rfl)
          clear hpb
          generalize plN N (prT k) = V at *
          go_wp2_with fail
          refine (rpart_any k wr).mono ?_
          rintro e w2 ⟨rfl, rfl⟩
          go_wp2_with fail
          refine (rput_any V (prT k) 2 wr).mono ?_
          rintro e w3 ⟨A3, c3, rfl, ho3, hb3⟩
          have HP3 := Lib.hid ho3
          have HO3 := Lib.hid (HO.out.keep hb3)
          have HR3 := Lib.hid ((hb3.block _ (row_lt HRW.out)).trans HRW.out)
          have HZ3 := Lib.hid ((hb3.block _ (row_lt HZ.out)).trans HZ.out)
          have HB3 := Lib.hid (HB1.out.trans (hb3.mono (show w.heap.size + 1 ≤ wr.heap.size by omega)))
          have HBw3 := Lib.hid (HBw.out.trans (hb3.mono HBw.out.size))
          have hs3 : wr.heap.size ≤ w3.heap.size := hb3.size
          have HPL := Lib.hid (putL_le4 V (prT k) 2)
          clear ho3 hb3 HO HRW HZ HB1 HBw kx
          cases hpt : putB V (prT k) 2 with
          | false =>
            have HE := Lib.hid (show rofB k cnt l = false by rw [HED.out.1, HNF.out (by rw [HNB.out, hpt])]; rfl)
            have HEz := Lib.hid (HE0.out HE.out)
            clear hpt
            go_wp2_with ((with_reducible refine wpl_store_row rtV ?_ (.tmp 6) (.tmp 53) ?_ (w.heap.size) ?_ (vrow 0 0 none 0 0) ?_ (vrow_one _ _ _ _ _) 27 ?_ _ ?_ HZ3.out ?_); rfl; rfl; rfl; rfl; rfl; rfl; intro w7 hr7 hg7 hs7; (try simp only [Act.put]))
            rw [HEz.out.2.1, HEz.out.2.2, HEz.out.1, HE.out]
            exact bodyPost_ret (res_row_tmp rtV rfl _ _ w.heap.size 27 (vrow 0 0 none 0 0) rfl (.bool false) rfl rfl hr7) rfl ⟨none, 0, rfl, Own.nil_ _ _ _ _, HBw3.out.grown hg7 HBw3.out.size (fun k hk => by cases hk; exact Nat.le_refl _)⟩
          | true =>
            have HNBT := Lib.hid (HNB.out.trans hpt)
            have HOK' := Lib.hid (show nmsB k (l.take (i + 1)) = true by rw [HTN.out, nmsB_app, HOK.out]; show (true && (nmB k N && true)) = true; rw [HNBT.out]; rfl)
            have HLS := Lib.hid (show nmsL k (l.take (i + 1)) = nmsL k (l.take i) ++ putL V (prT k) 2 by rw [HTN.out, nmsL_app]; show _ ++ (nmL k N ++ []) = _; rw [List.append_nil, HNL.out])
            have hLi : (l.take i).length ≤ 1000000 := by rw [List.length_take]; omega
            clear hpt
            generalize putL V (prT k) 2 = PL at *
            generalize nmsL k (l.take i) = L at *
            have k2 := row_cell (v := .slice A1 L.length c1) HR3.out 2 rfl
            go_wp2_with (at_builtin; refine Tin.wpl_app bt5 _ rfl (.tmp 55) (.tmp 56) rfl W.heap.size (.slice A1 L.length c1) L rfl HO3.out A3 PL.length c3 PL rfl HP3.out.sl'.2 rfl (by have := HPL.out; have := HPR.out; omega) (by have := HPL.out; have := HPR.out; omega) (by omega) ?_; intro v4 w4 ho4 hg4 hw4; obtain ⟨A4, c4, rfl⟩ := own_form ho4; have HO4 := Lib.hid ho4; have HR4 := Lib.hid ((hg4.block (w.heap.size + 1) (row_lt HR3.out) (fun e => by have h1 := (World.ownsRow.lt HO3.out _ e.symm).1; omega)).trans HR3.out); have HB4 := Lib.hid (HB3.out.grown hg4 (by omega) (fun q hq => by have h1 := (World.ownsRow.lt HO3.out _ hq).1; omega)); have hs4 : w3.heap.size ≤ w4.heap.size := hg4.size; clear ho4 hg4 hw4; have q2 := row_cell (v := .slice A1 L.length c1) HR4.out 2 rfl; have y2 := frozen_of_row w4 _ 2 _ _ HR4.out)
            have hgs := grown_setCells (w.heap.size + 1) [.slice A4 (L.length + PL.length) c4] 2 w4 w4 (World.grownBy.refl w4 _)
            have HR5 := Lib.hid (row_set HR4.out 2 (.slice A4 (L.length + PL.length) c4))
            have HO5 := Lib.hid (HO4.out.kept hgs (by right; intro e; have h1 := (World.ownsRow.lt HO4.out _ e).1; omega))
            have HB5 := Lib.hid (HB4.out.grown hgs (by omega) (fun q hq => by have e' : w.heap.size + 1 = q := Option.some.inj hq; omega))
            clear hgs q2 y2 k2
            go_roundw
            case rel =>
              refine ⟨i + 1, A4, c4, by omega, by go_num, HOK'.out, ?_, ?_, HB5.out⟩
              · rw [HLS.out, List.length_append]; exact HR5.out
              · rw [HLS.out]; exact HO5.out
            case measure => simp [intOf]; omega

    · obtain rfl : i = l.length := by omega
      rw [List.take_length] at HOK HRW HO
      have HY := Lib.hid (byts_nmsL k l)
      have HL := Lib.hid (nmsL_le k l)
      have HED2 := Lib.hid (show rofB k cnt l = mayV k cnt (nmsL k l) by rw [HED.out.1, HOK.out]; rfl)
      generalize nmsL k l = R at *
      go_wp2_with ((with_reducible refine wpl_load_row rtV ?_ (.tmp 8) ?_ (w.heap.size + 1) ?_ 27 (vrow k cnt A1 R.length c1) ?_ HRW.out ?_); rfl; rfl; rfl; rfl; simp only [Act.put, List.setIfInBounds_toArray, List.set_cons_succ, List.set_cons_zero])
      refine (rmay_any k cnt A1 R c1 wr HO.out.sl'.2 (by have := HL.out; omega) HY.out).mono ?_
      rintro e w5 ⟨rfl, hb5⟩
      have HR5 := Lib.hid ((hb5.block _ (row_lt HRW.out)).trans HRW.out)
      have HZ5 := Lib.hid ((hb5.block _ (row_lt HZ.out)).trans HZ.out)
      have HB5 := Lib.hid (HBw.out.trans (hb5.mono HBw.out.size))
      have HO5 := Lib.hid (HO.out.keep hb5)
      clear hb5
      cases hmv : mayV k cnt R with
      | false =>
        have HE := Lib.hid (HED2.out.trans hmv)
        have HEz := Lib.hid (HE0.out HE.out)
        clear hmv
        go_wp2_with ((with_reducible refine wpl_store_row rtV ?_ (.tmp 6) (.tmp 62) ?_ (w.heap.size) ?_ (vrow 0 0 none 0 0) ?_ (vrow_one _ _ _ _ _) 27 ?_ _ ?_ HZ5.out ?_); rfl; rfl; rfl; rfl; rfl; rfl; intro w7 hr7 hg7 hs7; (try simp only [Act.put]))
        rw [HEz.out.2.1, HEz.out.2.2, HEz.out.1, HE.out]
        exact bodyPost_ret (res_row_tmp rtV rfl _ _ w.heap.size 27 (vrow 0 0 none 0 0) rfl (.bool false) rfl rfl hr7) rfl ⟨none, 0, rfl, Own.nil_ _ _ _ _, HB5.out.grown hg7 HB5.out.size (fun k hk => by cases hk; exact Nat.le_refl _)⟩

      | true =>
        have HE := Lib.hid (HED2.out.trans hmv)
        have HEL := Lib.hid (show rofL k cnt l = R by rw [HED.out.2, HE.out]; rfl)
        clear hmv
        go_wp2_with (first | ((with_reducible refine wpl_load_row rtV ?_ (.tmp 8) ?_ (w.heap.size + 1) ?_ 27 (vrow k cnt A1 R.length c1) ?_ HR5.out ?_); rfl; rfl; rfl; rfl; simp only [Act.put, List.setIfInBounds_toArray, List.set_cons_succ, List.set_cons_zero]) | ((with_reducible refine wpl_store_row rtV ?_ (.tmp 6) (.tmp 63) ?_ (w.heap.size) ?_ (vrow k cnt A1 R.length c1) ?_ (vrow_one _ _ _ _ _) 27 ?_ _ ?_ HZ5.out ?_); rfl; rfl; rfl; rfl; rfl; rfl; intro w7 hr7 hg7 hs7; (try simp only [Act.put])))
        rw [HEL.out, HE.out]
        exact bodyPost_ret (res_row_tmp rtV rfl _ _ w.heap.size 27 (vrow k cnt A1 R.length c1) rfl (.bool true) rfl rfl hr7) rfl ⟨A1, c1, rfl, (HO5.out.mono (show w.heap.size ≤ W.heap.size by omega)).kept hg7 (by
          cases hq : (Value.slice A1 R.length c1).ownBlock with
          | none => exact .inl rfl
          | some q => exact .inr (fun e => by have h1 := (World.ownsRow.lt HO5.out q hq).1; have e' : q = w.heap.size := Option.some.inj e; omega)), HB5.out.grown hg7 HB5.out.size (fun k hk => by cases hk; exact Nat.le_refl _)⟩
end Go.Proofs.Ytmdcdmgbillehaa
