/- The contracts of lay.Of and lay.Long. -/
import Derived.Test.YtkepbobnjplpoaaLzC
namespace Go.Proofs.Ytkepbobnjplpoaa
open Go.RowKit
open Go.Tin
set_option linter.unusedVariables false
set_option linter.unusedSimpArgs false


theorem pl_new (B : Nat) (w : World) (hB : B ≤ w.heap.size) : Pl B (w.alloc (.cells #[.int .i64 0, .int .i64 0, .slice none 0 0] 69)) w.heap.size [] 0 :=
  ⟨hB, none, 0, heap_alloc_new w _, OwnV.nil_ _ _ _ _⟩
set_option maxRecDepth 100000 in
set_option maxHeartbeats 16000000 in
theorem lof_any (o : Int) (Ad : Option Addr) (cd : Nat) (f : Fo) (w : World) (hf : FoS w (· < w.heap.size) false Ad f) (hsm : smF f) (hcnt : f.cnt ≤ 1000) :
    Calls Try.prog 10 #[.agg #[.int .i64 o, .slice Ad f.len cd]] w fun e w' => ∃ A c, e = .returned (.tuple #[.slice A (ofF f).length c, .bool (okF f)]) ∧ OwnV 53 5 w' w.heap.size (.slice A (ofF f).length c) (ofF f).length (spsC (ofF f)) ∧ Below w.heap.size w w' := by
  have HSM := Lib.hid hsm
  have hns : f.len ≤ 1000 := Nat.le_trans f.len_cnt hcnt
  have HBD := Lib.hid (layF_bd0 hsm hcnt)
  have HOK := Lib.hid (show okF f = (mayF f && decide (endL (layF headL 0 f) ≤ 4294967295)) from rfl)
  have HOF := Lib.hid (show ofF f = if okF f then layF headL 0 f else [] from rfl)
  have hb0 := ba (brefl w) (.cells (trow o Ad f.len cd) 24)
  have R1 := Lib.hid (heap_alloc_new w (.cells (trow o Ad f.len cd) 24))
  have HB := Lib.hid hb0
  have hz1 : w.heap.size < (w.alloc (.cells (trow o Ad f.len cd) 24)).heap.size := by simp
  have HMY := Lib.hid (may_any o Ad cd f _ ((hf.bel hb0).mono fun b _ h => Nat.lt_of_lt_of_le h hb0.size) hsm hcnt)
  have HF := Lib.hid (hf.bel hb0)
  clear hb0 hf hsm
  generalize hsub : f.len = NS at *
  have HSUB := Lib.hid hsub
  clear hsub
  go_enter Try.func10, Try.ntmps10
  go_wp2_with ((with_reducible refine wpl_load_row rtTf ?_ (.tmp 1) ?_ (w.heap.size) ?_ 24 (trow o Ad NS cd) ?_ R1.out ?_); rfl; rfl; rfl; rfl; simp only [Act.put, List.setIfInBounds_toArray, List.set_cons_succ, List.set_cons_zero])
  generalize w.alloc (.cells (trow o Ad NS cd) 24) = w1 at *
  refine HMY.out.mono ?_
  clear HMY
  cases hm : mayF f with
  | false =>
    have hk : okF f = false := by rw [HOK.out, hm]; rfl
    have hf0 : ofF f = [] := by rw [HOF.out, hk]; rfl
    have HKF := Lib.hid (And.intro hk hf0)
    clear hm hk hf0
    rintro e w2 ⟨rfl, hb⟩
    go_wp2_with fail
    refine bodyPost_ret (results_tmp2 rfl _ _ _) rfl ?_
    rw [HKF.out.1, HKF.out.2]
    exact ⟨none, 0, rfl, OwnV.nil_ _ _ _ _, HB.out.trans (hb.mono (Nat.le_of_lt hz1))⟩
  | true =>
  have HMAY := Lib.hid hm
  clear hm
  rintro e w2 ⟨rfl, hb⟩
  replace HF := Lib.hid (HF.out.bel (hb.mono (Nat.le_of_lt hz1)))
  replace R1 := Lib.hid ((hb.block _ (row_lt R1.out)).trans R1.out)
  replace HB := Lib.hid (HB.out.trans (hb.mono (Nat.le_of_lt hz1)))
  replace hz1 := Nat.lt_of_lt_of_le hz1 hb.size
  clear hb
  have hpl := pl_new w.heap.size w2 (Nat.le_of_lt hz1)
  have hb3 := ba (brefl w2) (.cells #[.int .i64 0, .int .i64 0, .slice none 0 0] 69)
  have HN := Lib.hid (Nsp.of_bel (g := w2.heap.size) hb3)
  have hg : w2.heap.size ≠ w.heap.size := by omega
  have hz3 := Nat.lt_of_lt_of_le hz1 hb3.size
  have HF3 := Lib.hid (HF.out.bel (hb3.mono (Nat.le_of_lt hz1)))
  have HB3 := Lib.hid (HB.out.trans (hb3.mono (Nat.le_of_lt hz1)))
  have R3 := Lib.hid ((hb3.block _ (row_lt R1.out)).trans R1.out)
  have HP := Lib.hid (put_any w.heap.size w2.heap.size [] 0 1 (-1) 0 8 _ hpl (by decide) (by decide) (by decide) (by decide) (by decide))
  clear hpl hb3 HF HB R1 hz1
  go_wp2_with fail
  generalize w2.alloc (.cells #[.int .i64 0, .int .i64 0, .slice none 0 0] 69) = w3 at *
  generalize w2.heap.size = g at *
  refine HP.out.mono ?_
  clear HP
  rintro e w4 ⟨rfl, hp, hb, hn⟩
  rw [show wth [] 1 (-1) 0 8 = headL from rfl] at hp
  replace R3 := Lib.hid (hn.row R3.out hg.symm (by decide))
  replace HB3 := Lib.hid (HB3.out.trans hb)
  replace HF3 := Lib.hid (HF3.out.bel hb)
  replace hz3 := Nat.lt_of_lt_of_le hz3 hb.size
  have HP := Lib.hid hp
  clear hp hb hn HN
  have he8 : endL headL = 8 := rfl
  have hl1 : headL.length ≤ 1 := by decide
  have HE8 := Lib.hid he8
  clear he8
  generalize headL = l0 at *
  have q1 := row_cell (v := .slice Ad NS cd) R3.out 1 rfl
  go_wp2_with fail
  clear q1
  obtain ⟨w5, hw5⟩ : ∃ w5, w5 = w4 := ⟨_, rfl⟩
  rw [← hw5] at HP HB3 HF3 R3 hz3 ⊢
  clear hw5
  go_loopw [17] (fun s17 wr => ∃ (j : Nat) (l2 : List Sp) (no' : Nat), j ≤ NS ∧ s17 = .int .i64 (j : Int) ∧ Pl w.heap.size wr g l2 no' ∧ Below w.heap.size w5 wr ∧ layF l0 0 f = layF l2 no' (f.drop j) ∧ no' + (f.drop j).cnt = f.cnt ∧ 0 ≤ endL l2 ∧ endL l2 + 100000000 * ((f.drop j).cnt : Int) ≤ 8 + 100000000 * (f.cnt : Int) ∧ l2.length + 62 * (f.drop j).cnt ≤ 1 + 62 * f.cnt) (fun s17 _ => NS - (intOf s17).toNat)
  case atStart => exact ⟨0, l0, 0, by omega, rfl, HP.out, Below.refl _ _, rfl, by rw [Fo.drop]; omega, by rw [HE8.out]; decide, by rw [Fo.drop, HE8.out]; exact Int.le_refl _, by rw [Fo.drop]; omega⟩
  case round =>
    obtain ⟨j, l2, no', hj, rfl, hp, hb, hlay, hcc, hy0, hy1, hy2⟩ := hrel
    have HP2 := Lib.hid hp
    have HB2 := Lib.hid hb
    have HLAY := Lib.hid hlay
    clear hp hb hlay HP
    by_cases hjn : j < NS
    case neg =>
      obtain rfl : j = NS := by omega
      have hnil := Fo.drop_all (f := f) (i := j) (by rw [HSUB.out]; exact Nat.le_refl _)
      rw [hnil] at HLAY
      have HFIN := Lib.hid (show layF l0 0 f = l2 by rw [HLAY.out]; rfl)
      rw [HFIN.out] at HBD HOK HOF
      rw [HMAY.out, Bool.true_and] at HOK
      obtain ⟨g0, g1, g2⟩ := HBD.out
      obtain ⟨A', c', hrow, hown⟩ := HP2.out.at_
      have HOWN := Lib.hid hown
      have HBF := Lib.hid (HB3.out.trans HB2.out)
      have p0 := row_cell (v := .int .i64 (endL l2)) hrow 0 rfl
      have p2 := row_cell (v := .slice A' l2.length c') hrow 2 rfl
      clear hnil hcc hy1 hy2 HBD hrow hown
      generalize hE : endL l2 = E at *
      by_cases h4 : E ≤ 4294967295
      · have i4 : ¬ 4294967295 < E := by omega
        have hok : okF f = true := by rw [HOK.out]; exact decide_eq_true h4
        have hof : ofF f = l2 := by rw [HOF.out, hok]; rfl
        have HKF := Lib.hid (And.intro hok hof)
        clear hok hof h4
        go_wp2_with fail
        refine bodyPost_ret (results_tmp2 rfl _ _ _) rfl ?_
        rw [HKF.out.1, HKF.out.2]
        exact ⟨A', c', rfl, HOWN.out, HBF.out⟩
      · have i4 : 4294967295 < E := by omega
        have hok : okF f = false := by rw [HOK.out]; exact decide_eq_false h4
        have hof : ofF f = [] := by rw [HOF.out, hok]; rfl
        have HKF := Lib.hid (And.intro hok hof)
        clear hok hof h4
        go_wp2_with fail
        refine bodyPost_ret (results_tmp2 rfl _ _ _) rfl ?_
        rw [HKF.out.1, HKF.out.2]
        exact ⟨none, 0, rfl, OwnV.nil_ _ _ _ _, HBF.out⟩
    have j1 : (j : Int) < (NS : Int) := by omega
    have hjf : j < f.len := by rw [HSUB.out]; exact hjn
    obtain ⟨b, off, rfl, hpb, hbs, hc⟩ := HF3.out.at_ (by omega)
    obtain ⟨At', ct', As', cs', Ab', cb', hr0, hdi⟩ := hc j hjf
    have hd1 := Fo.drop_at j f hjf
    have hse := smF_elem j f HSM.out hjf
    have HRG := Lib.hid (rng_below HB2.out hpb hr0)
    have HDI := Lib.hid (hdi.bel HB2.out)
    rw [hd1, one_cnt] at hcc hy1 hy2
    rw [hd1, layF_one] at HLAY
    have hdb := dirL_bd l2 no' _ hse
    have HSE := Lib.hid hse
    clear hc hr0 hdi hd1 hse
    generalize f.elem j = el at *
    obtain ⟨etag, ed⟩ := el
    dsimp only at hcc hy1 hy2
    dsimp only at HRG HDI HLAY hdb HSE
    push_cast at hy1
    replace HRG := Lib.hid (show wr.rangeAt b (off + j * 3) [.slice At' ed.ts.length ct', .slice As' ed.sub.len cs', .slice Ab' ed.bl.length cb'] from HRG.out)
    have hba := ba (brefl wr) (.cells (drow At' ed.ts.length ct' As' ed.sub.len cs' Ab' ed.bl.length cb') 42)
    have hzw : w.heap.size ≤ wr.heap.size := Nat.le_of_lt HP2.out.lt
    have HDA := Lib.hid (dir_any _ w.heap.size g l2 no' At' As' Ab' ct' cs' cb' ed _ (Nat.lt_succ_self _) (HP2.out.keep hba) (HDI.out.bel (hba.mono hzw)) HSE.out hy0 (by omega) (by omega) (by omega))
    have R6 := Lib.hid (heap_alloc_new wr (.cells (drow At' ed.ts.length ct' As' ed.sub.len cs' Ab' ed.bl.length cb') 42))
    have HB6 := Lib.hid (HB2.out.trans (hba.mono hzw))
    clear hba HP2 HB2
    go_wp2_with (first
      | ((with_reducible refine wpl_loadv rtDi ?_ (.tmp 19) ?_ b (off + j * 3) ?_ [.slice At' ed.ts.length ct', .slice As' ed.sub.len cs', .slice Ab' ed.bl.length cb'] ?_ HRG.out ?_); rfl; rfl; rfl; rfl; simp only [Act.put, List.setIfInBounds_toArray, List.set_cons_succ, List.set_cons_zero])
      | ((with_reducible refine wpl_load_row rtDi ?_ (.tmp 6) ?_ (wr.heap.size) ?_ 42 (drow At' ed.ts.length ct' As' ed.sub.len cs' Ab' ed.bl.length cb') ?_ R6.out ?_); rfl; rfl; rfl; rfl; simp only [Act.put, List.setIfInBounds_toArray, List.set_cons_succ, List.set_cons_zero]))
    refine HDA.out.mono ?_
    clear HDA
    rintro e w6 ⟨rfl, hp6, hb6, hn6⟩
    have HP6 := Lib.hid hp6
    replace HB6 := Lib.hid (HB6.out.trans hb6)
    clear hp6 hb6 hn6
    generalize hl3 : dirL l2 no' ed = l3 at *
    go_wp2_with fail
    exact ⟨⟨j + 1, l3, no' + 1 + ed.sub.cnt, by omega, rfl, HP6.out, HB6.out, HLAY.out, by omega, by omega, by omega, by omega⟩, by simp only [intOf]; omega⟩
end Go.Proofs.Ytkepbobnjplpoaa
