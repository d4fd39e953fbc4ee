/- The contract of the reference's Of and Long. -/
import Derived.Test.YtkepbobnjplpoaaLyG
namespace Go.Proofs.Ytkepbobnjplpoaa
open Go.RowKit
open Go.Tin
set_option linter.unusedVariables false
set_option linter.unusedSimpArgs false


theorem rtVl : RT Try.prog 48 3 := RT.of Try.underlying48 rfl (by kernel_rfl)
theorem all_at {α : Type} {P : α → Bool} : ∀ {l : List α} {i : Nat} (h : i < l.length), l.all P = true → P l[i] = true
  | _ :: _, 0, _, h => by simp only [List.all_cons, Bool.and_eq_true] at h; exact h.1
  | _ :: l, i + 1, hi, h => by
    simp only [List.all_cons, Bool.and_eq_true] at h
    exact all_at (l := l) (i := i) (by simpa using hi) h.2
theorem all_no {α : Type} {P : α → Bool} {l : List α} {i : Nat} (h : i < l.length) (hp : P l[i] = false) : l.all P = false := by
  cases ha : l.all P with
  | false => rfl
  | true => rw [all_at h ha] at hp; cases hp
theorem take_all {α : Type} {P : α → Bool} {l : List α} {i : Nat} (h : i < l.length) (ht : (l.take i).all P = true) (hp : P l[i] = true) : (l.take (i + 1)).all P = true := by
  rw [List.take_succ_eq_append_getElem h, List.all_append, ht]
  simp [hp]
theorem mayF_no {f : Fo} {i : Nat} (h : i < (flatF f).length) (hp : mayD (flatF f)[i].ts (flatF f)[i].bl (flatF f)[i].sub = false) : mayF f = false := by
  rw [mayF_flat]; exact all_no h hp
theorem okF_no {f : Fo} (h : mayF f = false) : okF f = false := by unfold okF; rw [h]; rfl
theorem smF_flat : ∀ f : Fo, smF f → ∀ d ∈ flatF f, smD d
  | .nil, _, d, h => by simp [flatF] at h
  | .cons _ ts bl s r, hs, d, h => by
    rw [flatF, List.mem_cons, List.mem_append] at h
    rcases h with rfl | h | h
    · exact ⟨hs.1, hs.2.1, hs.2.2.1, hs.2.2.2.1, hs.2.2.2.2.1⟩
    · exact smF_flat s hs.2.2.2.2.1 d h
    · exact smF_flat r hs.2.2.2.2.2 d h
theorem layF_bd0 {f : Fo} (h : smF f) (hc : f.cnt ≤ 1000) : 0 ≤ endL (layF headL 0 f) ∧ endL (layF headL 0 f) ≤ 100000000100 ∧ (layF headL 0 f).length ≤ 70000 := by
  have h1 := layF_bd f headL 0 h
  have h2 : endL headL = 8 := rfl
  have h3 : headL.length = 1 := rfl
  rw [h2, h3] at h1
  omega
theorem DiS.at_ {w : World} {p : Nat → Prop} {A : Option Addr} {L : List Di} {xs : List Value} (h1 : SlV w A xs) (h2 : DiV w p L xs) (hl : 0 < L.length) :
    ∃ b off, A = some ⟨b, off, none⟩ ∧ b < w.heap.size ∧ ∀ i (hi : i < L.length), ∃ At ct As cs Ab cb, w.rangeAt b (off + i * 3) [.slice At L[i].ts.length ct, .slice As L[i].sub.len cs, .slice Ab L[i].bl.length cb] ∧ DiP w p At As Ab L[i] := by
  have hx := h2.len
  obtain ⟨b, off, rfl, hb, _⟩ := SlV.at_ h1 (by omega)
  refine ⟨b, off, rfl, hb, fun i hi => ?_⟩
  obtain ⟨At, ct, As, cs, Ab, cb, hv, h4⟩ := h2.at_ i hi
  refine ⟨At, ct, As, cs, Ab, cb, ?_, h4⟩
  have := SlV.rng h1 (i * 3) 3 (by rw [hx]; omega)
  rw [hv] at this
  exact this
set_option maxRecDepth 100000 in
set_option maxHeartbeats 16000000 in
theorem rof_any (o : Int) (Ad : Option Addr) (cd : Nat) (f : Fo) (w : World) (hf : FoS w (· < w.heap.size) false Ad f) (hsm : smF f) (hcnt : f.cnt ≤ 1000) :
    Calls Try.prog 11 #[.agg #[.int .i64 o, .slice Ad f.len cd]] w fun e w' => ∃ A c, e = .returned (.tuple #[.slice A (ofF f).length c, .bool (okF f)]) ∧ OwnV 53 5 w' w.heap.size (.slice A (ofF f).length c) (ofF f).length (spsC (ofF f)) ∧ Below w.heap.size w w' := by
  have HF := Lib.hid hf
  have HSM := Lib.hid hsm
  have hns : f.len ≤ 1000 := Nat.le_trans f.len_cnt hcnt
  have HNO := Lib.hid (fun (h : mayF f = false) => show okF f = false ∧ ofF f = [] by have := okF_no h; exact ⟨this, by unfold ofF; rw [this]; rfl⟩)
  have HBD := Lib.hid (layF_bd0 hsm hcnt)
  have HOK := Lib.hid (show okF f = (mayF f && decide (endL (layF headL 0 f) ≤ 4294967295)) from rfl)
  have HOF := Lib.hid (show ofF f = if okF f then layF headL 0 f else [] from rfl)
  have hb0 := ba (brefl w) (.cells (trow o Ad f.len cd) 24)
  have R1 := Lib.hid (heap_alloc_new w (.cells (trow o Ad f.len cd) 24))
  have HB := Lib.hid hb0
  have HN := Lib.hid (Nsq.of_bel hb0)
  have hz1 : w.heap.size < (w.alloc (.cells (trow o Ad f.len cd) 24)).heap.size := by simp
  have hdi := rdirs_any w.heap.size o Ad cd f _ (hf.bel hb0) hb0.size (by omega)
  clear hb0 hf hsm
  generalize hsub : f.len = NS at *
  have HSUB := Lib.hid hsub
  have HDI := Lib.hid hdi
  clear hsub hdi
  go_enter Try.func11, Try.ntmps11
  go_wp2_with ((with_reducible refine wpl_load_row rtTf ?_ (.tmp 1) ?_ (w.heap.size) ?_ 24 (trow o Ad NS cd) ?_ R1.out ?_); rfl; rfl; rfl; rfl; simp only [Act.put, List.setIfInBounds_toArray, List.set_cons_succ, List.set_cons_zero])
  generalize w.alloc (.cells (trow o Ad NS cd) 24) = w1 at *
  refine HDI.out.mono ?_
  rintro e w2 ⟨A2, c2, xs, rfl, ho, hv, hb⟩
  replace R1 := Lib.hid ((hb.block _ (row_lt R1.out)).trans R1.out)
  replace HN := Lib.hid (HN.out.trans (Nsq.of_bel hb))
  replace HB := Lib.hid (HB.out.trans (hb.mono (Nat.le_of_lt hz1)))
  replace hz1 := Nat.lt_of_lt_of_le hz1 hb.size
  have HO := Lib.hid ho
  have HV := Lib.hid hv
  clear hb ho hv HDI
  generalize hcn : f.cnt = CN at *
  have HCN := Lib.hid (show (flatF f).length = CN by rw [flatF_len, hcn])
  have HCN2 := Lib.hid hcn
  clear hcn
  go_wp2_with fail
  obtain ⟨w3, hw3⟩ : ∃ w3, w3 = w2 := ⟨_, rfl⟩
  rw [← hw3] at HO HV HB HN R1 hz1 ⊢
  clear hw3
  go_loopw [5] (fun s5 wr => ∃ (i : Nat), i ≤ CN ∧ s5 = .int .i64 (i : Int) ∧ Below w3.heap.size w3 wr ∧ ((flatF f).take i).all (fun d => mayD d.ts d.bl d.sub) = true) (fun s5 _ => CN - (intOf s5).toNat)
  case atStart => exact ⟨0, by omega, rfl, Below.refl _ _, by simp⟩
  case round =>
    obtain ⟨i, hi, rfl, hb, hall⟩ := hrel
    have HBr := Lib.hid hb
    have HALL := Lib.hid hall
    have R1r := Lib.hid ((hb.block _ (row_lt R1.out)).trans R1.out)
    have hzr := Nat.lt_of_lt_of_le hz1 hb.size
    clear hb hall
    by_cases hin : i < CN
    case neg =>
      obtain rfl : i = CN := by omega
      have hmay : mayF f = true := by
        have := HALL.out
        rw [List.take_of_length_le (by rw [HCN.out]; exact Nat.le_refl _)] at this
        rw [mayF_flat]; exact this
      have HMAY := Lib.hid hmay
      replace HB := Lib.hid (HB.out.trans (HBr.out.mono (Nat.le_of_lt hz1)))
      replace HN := Lib.hid (HN.out.trans (Nsq.of_bel HBr.out))
      clear HALL hmay HBr R1 HO HV hz1
      go_wp2_with fail
      have hw0 := with_any w.heap.size none 0 [] 1 (-1) 0 8 wr (OwnV.nil_ _ _ _ _) (Nat.le_of_lt hzr) (by decide) (by decide) (by decide)
      refine hw0.mono ?_
      rintro e w4 ⟨A4, c4, rfl, ho4, hb4, hn4⟩
      have ehl : wth [] 1 (-1) 0 8 = headL := rfl
      rw [ehl] at ho4 ⊢
      have HO4 := Lib.hid ho4
      replace R1r := Lib.hid (hn4.row R1r.out (by decide))
      replace HB := Lib.hid (HB.out.trans hb4)
      replace HN := Lib.hid (HN.out.trans hn4)
      replace hzr := Nat.lt_of_lt_of_le hzr hb4.size
      clear ho4 hb4 hn4 ehl hw0
      have he8 : endL headL = 8 := rfl
      have hl1 : headL.length ≤ 1 := by decide
      have HE8 := Lib.hid he8
      clear he8
      generalize headL = l0 at *
      go_wp2_with fail
      obtain ⟨w5, hw5⟩ : ∃ w5, w5 = w4 := ⟨_, rfl⟩
      rw [← hw5] at HO4 HB HN R1r hzr ⊢
      clear hw5
      go_loopw [7, 8, 9] (fun s7 s8 s9 wr => ∃ (j : Nat) (l2 : List Sp) (no' : Nat) (A' : Option Addr) (c' : Nat), j ≤ NS ∧ s9 = .int .i64 (j : Int) ∧ s8 = .int .i64 (no' : Int) ∧ s7 = .slice A' l2.length c' ∧ OwnV 53 5 wr w.heap.size (.slice A' l2.length c') l2.length (spsC l2) ∧ Below w.heap.size w5 wr ∧ Nsq w5 wr ∧ layF l0 0 f = layF l2 no' (f.drop j) ∧ no' + (f.drop j).cnt = i ∧ 0 ≤ endL l2 ∧ endL l2 + 100000000 * ((f.drop j).cnt : Int) ≤ 8 + 100000000 * (i : Int) ∧ l2.length + 62 * (f.drop j).cnt ≤ 1 + 62 * i) (fun _ _ s9 _ => NS - (intOf s9).toNat)
      case atStart => exact ⟨0, l0, 0, A4, c4, by omega, rfl, rfl, rfl, HO4.out, Below.refl _ _, Nsq.refl _, rfl, by rw [Fo.drop, HCN2.out]; omega, by rw [HE8.out]; decide, by rw [Fo.drop, HCN2.out, HE8.out]; exact Int.le_refl _, by rw [Fo.drop, HCN2.out]; omega⟩
      case round =>
        obtain ⟨j, l2, no', A', c', hj, rfl, rfl, rfl, ho, hb, hn, hlay, hcc, hy0, hy1, hy2⟩ := hrel
        have HO2 := Lib.hid ho
        have HB2 := Lib.hid hb
        have HN2 := Lib.hid hn
        have HLAY := Lib.hid hlay
        have R12 := Lib.hid (hn.row R1r.out (by decide))
        have hz2 := Nat.lt_of_lt_of_le hzr hb.size
        clear ho hb hn hlay
        have q1 := row_cell (v := .slice Ad NS cd) R12.out 1 rfl
        by_cases hjn : j < NS
        case neg =>
          obtain rfl : j = NS := by omega
          have hnil := Fo.drop_all (f := f) (i := j) (by rw [HSUB.out]; exact Nat.le_refl _)
          rw [hnil] at HLAY
          have HFIN := Lib.hid (show layF l0 0 f = l2 by rw [HLAY.out]; rfl)
          rw [HFIN.out] at HBD HOK HOF
          rw [HMAY.out, Bool.true_and] at HOK
          obtain ⟨g0, g1, g2⟩ := HBD.out
          have HEA := Lib.hid (fun W (h : SpS W A' l2) => end_any A' c' l2 W h (by omega) (by omega) (by omega))
          clear hnil hcc hy1 hy2 HBD
          generalize hE : endL l2 = E at *
          go_wp2_with fail
          clear q1
          refine (HEA.out _ HO2.out.sl'.2.1).mono ?_
          rintro e w6 ⟨rfl, hb6⟩
          replace HO2 := Lib.hid (HO2.out.keep hb6)
          replace HB2 := Lib.hid (HB2.out.trans (hb6.mono (Nat.le_of_lt hz2)))
          by_cases h4 : E ≤ 4294967295
          · have i4 : ¬ 4294967295 < E := by omega
            have hok : okF f = true := by rw [HOK.out]; exact decide_eq_true h4
            have hof : ofF f = l2 := by rw [HOF.out, hok]; rfl
            have HKF := Lib.hid (And.intro hok hof)
            clear hok hof h4
            go_wp2_with fail
            refine bodyPost_ret (results_tmp2 rfl _ _ _) rfl ?_
            rw [HKF.out.1, HKF.out.2]
            exact ⟨A', c', rfl, HO2.out, HB.out.trans HB2.out⟩
          · have i4 : 4294967295 < E := by omega
            have hok : okF f = false := by rw [HOK.out]; exact decide_eq_false h4
            have hof : ofF f = [] := by rw [HOF.out, hok]; rfl
            have HKF := Lib.hid (And.intro hok hof)
            clear hok hof h4
            go_wp2_with fail
            refine bodyPost_ret (results_tmp2 rfl _ _ _) rfl ?_
            rw [HKF.out.1, HKF.out.2]
            exact ⟨none, 0, rfl, OwnV.nil_ _ _ _ _, HB.out.trans HB2.out⟩
        have j1 : (j : Int) < (NS : Int) := by omega
        have hjf : j < f.len := by rw [HSUB.out]; exact hjn
        obtain ⟨b, off, rfl, hpb, hbs, hc⟩ := HF.out.at_ (by omega)
        obtain ⟨At', ct', As', cs', Ab', cb', hr0, hdi⟩ := hc j hjf
        have hd1 := Fo.drop_at j f hjf
        have hse := smF_elem j f HSM.out hjf
        have hbw := HB.out.trans HB2.out
        have HRG := Lib.hid (rng_below hbw hpb hr0)
        have HDI := Lib.hid (hdi.bel hbw)
        rw [hd1, one_cnt] at hcc hy1 hy2
        rw [hd1, layF_one] at HLAY
        have hdb := dirL_bd l2 no' _ hse
        have HSE := Lib.hid hse
        clear hc hr0 hdi hd1 hse hbw
        generalize f.elem j = el at *
        obtain ⟨etag, ed⟩ := el
        dsimp only at hcc hy1 hy2
        dsimp only at HRG HDI HLAY hdb HSE
        push_cast at hy1
        replace HRG := Lib.hid (show wr.rangeAt b (off + j * 3) [.slice At' ed.ts.length ct', .slice As' ed.sub.len cs', .slice Ab' ed.bl.length cb'] from HRG.out)
        go_wp2_with ((with_reducible refine wpl_loadv rtDi ?_ (.tmp 65) ?_ b (off + j * 3) ?_ [.slice At' ed.ts.length ct', .slice As' ed.sub.len cs', .slice Ab' ed.bl.length cb'] ?_ HRG.out ?_); rfl; rfl; rfl; rfl; simp only [Act.put, List.setIfInBounds_toArray, List.set_cons_succ, List.set_cons_zero])
        clear q1
        refine (rlaid_any _ w.heap.size A' c' l2 no' At' As' Ab' ct' cs' cb' ed _ (Nat.lt_succ_self _) HO2.out (Nat.le_of_lt hz2) HDI.out HSE.out hy0 (by omega) (by omega) (by omega)).mono ?_
        rintro e w6 ⟨A6, c6, rfl, ho6, hb6, hn6⟩
        replace R12 := Lib.hid (hn6.row R12.out (by decide))
        replace HRG := Lib.hid (rng_below hb6 hpb HRG.out)
        replace HDI := Lib.hid (HDI.out.bel hb6)
        replace HB2 := Lib.hid (HB2.out.trans hb6)
        replace HN2 := Lib.hid (HN2.out.trans hn6)
        replace HO2 := Lib.hid ho6
        replace hz2 := Nat.lt_of_lt_of_le hz2 hb6.size
        clear ho6 hb6 hn6
        have q1 := row_cell (v := .slice (some ⟨b, off, none⟩) NS cd) R12.out 1 rfl
        go_wp2_with ((with_reducible refine wpl_loadv rtDi ?_ (.tmp 73) ?_ b (off + j * 3) ?_ [.slice At' ed.ts.length ct', .slice As' ed.sub.len cs', .slice Ab' ed.bl.length cb'] ?_ HRG.out ?_); rfl; rfl; rfl; rfl; simp only [Act.put, List.setIfInBounds_toArray, List.set_cons_succ, List.set_cons_zero])
        clear q1
        refine (within_any _ w.heap.size At' As' Ab' ct' cs' cb' ed _ (Nat.lt_succ_self _) HDI.out (Nat.le_of_lt hz2) (by omega)).mono ?_
        rintro e w7 ⟨A7, c7, xs7, rfl, _, _, hb7⟩
        replace HO2 := Lib.hid (HO2.out.keep hb7)
        replace HN2 := Lib.hid (HN2.out.trans (Nsq.of_bel hb7))
        replace HB2 := Lib.hid (HB2.out.trans (hb7.mono (Nat.le_of_lt hz2)))
        clear hb7
        generalize hl3 : dirL l2 no' ed = l3 at *
        have HCE := Lib.hid (show (no' : Int) + ((ed.sub.cnt : Int) + 1) = ((no' + 1 + ed.sub.cnt : Nat) : Int) by push_cast; omega)
        clear hl3
        go_wp2_with fail
        exact ⟨⟨j + 1, l3, no' + 1 + ed.sub.cnt, A6, c6, by omega, rfl, by first | exact congrArg _ HCE.out | (push_cast; congr 1; omega), rfl, HO2.out, HB2.out, HN2.out, HLAY.out, by omega, by omega, by omega, by omega⟩, by simp only [intOf]; omega⟩
    have i1 : (i : Int) < (CN : Int) := by omega
    have hif : i < (flatF f).length := by rw [HCN.out]; exact hin
    have HDF := Lib.hid (HV.out.bel (B := w.heap.size) (w' := wr) (HBr.out.mono (Nat.le_of_lt hz1)))
    obtain ⟨b, off, rfl, hbs, hc⟩ := DiS.at_ (HO.out.keep HBr.out).sl'.2.1 HDF.out (by omega)
    obtain ⟨At', ct', As', cs', Ab', cb', hr0, hdi⟩ := hc i hif
    have HNOI := Lib.hid (fun h => HNO.out (mayF_no hif h))
    have HTK := Lib.hid (fun h => take_all hif HALL.out h)
    have hse := smF_flat f HSM.out _ (List.getElem_mem hif)
    have HRG := Lib.hid hr0
    have HDI := Lib.hid hdi
    clear hc hr0 hdi HDF
    generalize (flatF f)[i] = ed at *
    obtain ⟨s1, s2, s3, s4, _⟩ := hse
    have HENT := Lib.hid (entV_N ed.ts ed.bl ed.sub)
    have HMD := Lib.hid (show mayD ed.ts ed.bl ed.sub = (decide (1 ≤ entN ed.ts ed.bl ed.sub) && (decide (entN ed.ts ed.bl ed.sub ≤ 65535) && ed.ts.all fun t => mayV t.t t.c t.d)) from rfl)
    have hent := entN_bd (bl := ed.bl) s1 s3
    replace HRG := Lib.hid (show wr.rangeAt b (off + i * 3) [.slice At' ed.ts.length ct', .slice As' ed.sub.len cs', .slice Ab' ed.bl.length cb'] from HRG.out)
    generalize entN ed.ts ed.bl ed.sub = EN at *
    have HE1 := Lib.hid (fun W => rent_any At' As' Ab' ed.ts.length ct' ed.sub.len cs' ed.bl.length cb' W (by omega) (by omega))
    generalize hts : ed.ts.length = NT at *
    generalize hss : ed.sub.len = NS' at *
    generalize hbb : ed.bl.length = NB' at *
    have HTS := Lib.hid hts
    clear hts hss hbb
    go_wp2_with ((with_reducible refine wpl_loadv rtDi ?_ (.tmp 20) ?_ b (off + i * 3) ?_ [.slice At' NT ct', .slice As' NS' cs', .slice Ab' NB' cb'] ?_ HRG.out ?_); rfl; rfl; rfl; rfl; simp only [Act.put, List.setIfInBounds_toArray, List.set_cons_succ, List.set_cons_zero])
    refine (HE1.out _).mono ?_
    rintro e w4 ⟨rfl, hb4⟩
    rw [HENT.out]
    replace R1r := Lib.hid ((hb4.block _ (row_lt R1r.out)).trans R1r.out)
    replace HRG := Lib.hid (rng_below hb4 hbs HRG.out)
    replace hbs := Nat.lt_of_lt_of_le hbs hb4.size
    replace HDI := Lib.hid (HDI.out.bel (hb4.mono (Nat.le_of_lt hzr)))
    replace HBr := Lib.hid (HBr.out.trans (hb4.mono HBr.out.size))
    replace hzr := Nat.lt_of_lt_of_le hzr hb4.size
    clear hb4
    by_cases h1 : EN < 1
    · have i4 : (EN : Int) < 1 := by omega
      obtain ⟨k1, k2⟩ := HNOI.out (by rw [HMD.out, decide_eq_false (show ¬ 1 ≤ EN by omega)]; rfl)
      have HKF := Lib.hid (And.intro k1 k2)
      clear h1 k1 k2
      go_wp2_with fail
      refine bodyPost_ret (results_tmp2 rfl _ _ _) rfl ?_
      rw [HKF.out.1, HKF.out.2]
      exact ⟨none, 0, rfl, OwnV.nil_ _ _ _ _, HB.out.trans (HBr.out.mono (Nat.le_of_lt hz1))⟩
    have i4 : decide ((EN : Int) < 1) = false := decide_eq_false (by omega)
    have i5 : decide (65535 < (EN : Int)) = false := decide_eq_false (by omega)
    have HMD2 := Lib.hid (show mayD ed.ts ed.bl ed.sub = ed.ts.all fun t => mayV t.t t.c t.d by rw [HMD.out, decide_eq_true (show 1 ≤ EN by omega), decide_eq_true (show EN ≤ 65535 by omega)]; rfl)
    clear h1 HMD
    go_wp2_with ((with_reducible refine wpl_loadv rtDi ?_ (.tmp 27) ?_ b (off + i * 3) ?_ [.slice At' NT ct', .slice As' NS' cs', .slice Ab' NB' cb'] ?_ HRG.out ?_); rfl; rfl; rfl; rfl; simp only [Act.put, List.setIfInBounds_toArray, List.set_cons_succ, List.set_cons_zero])
    refine (HE1.out _).mono ?_
    rintro e w5 ⟨rfl, hb5⟩
    rw [HENT.out]
    replace R1r := Lib.hid ((hb5.block _ (row_lt R1r.out)).trans R1r.out)
    replace HRG := Lib.hid (rng_below hb5 hbs HRG.out)
    replace hbs := Nat.lt_of_lt_of_le hbs hb5.size
    replace HDI := Lib.hid (HDI.out.bel (hb5.mono (Nat.le_of_lt hzr)))
    replace HBr := Lib.hid (HBr.out.trans (hb5.mono HBr.out.size))
    replace hzr := Nat.lt_of_lt_of_le hzr hb5.size
    clear hb5 HENT
    go_wp2_with fail
    clear i4 i5
    obtain ⟨w6, hw6⟩ : ∃ w6, w6 = w5 := ⟨_, rfl⟩
    rw [← hw6] at HRG hbs HDI HBr hzr R1r ⊢
    clear hw6
    go_loopw [6] (fun s6 wr => ∃ (k : Nat), k ≤ NT ∧ s6 = .int .i64 (k : Int) ∧ Below w6.heap.size w6 wr ∧ (ed.ts.take k).all (fun t => mayV t.t t.c t.d) = true) (fun s6 _ => NT - (intOf s6).toNat)
    case atStart => exact ⟨0, by omega, rfl, Below.refl _ _, by simp⟩
    case round =>
      obtain ⟨k, hk, rfl, hb, hall⟩ := hrel
      have HB6 := Lib.hid hb
      have HALK := Lib.hid hall
      replace HRG := Lib.hid (rng_below hb hbs HRG.out)
      clear hb hall
      have q0 : wr.cell? ⟨b, off + i * 3, none⟩ = some (.slice At' NT ct') := HRG.out 0 _ rfl
      by_cases hkn : k < NT
      case neg =>
        obtain rfl : k = NT := by omega
        have HFIN := Lib.hid (HTK.out (by rw [HMD2.out]; have := HALK.out; rwa [List.take_of_length_le (by rw [HTS.out]; exact Nat.le_refl _)] at this))
        go_wp2_with fail
        go_roundw
        case rel => exact ⟨i + 1, by omega, rfl, HBr.out.trans (HB6.out.mono HBr.out.size), HFIN.out⟩
        case measure => simp only [intOf]; omega
      have k1 : (k : Int) < (NT : Int) := by omega
      have hkt : k < ed.ts.length := by rw [HTS.out]; exact hkn
      obtain ⟨b9, off9, rfl, hpb9, hbs9, hc9⟩ := HDI.out.tg.at_ (by omega)
      obtain ⟨Ad9, cd9, hr9, hd9, hby9, _⟩ := hc9 k hkt
      have hbl9 := s4 _ (List.getElem_mem hkt)
      have hB69 := HB6.out.mono (Nat.le_of_lt hzr)
      have HR9 := Lib.hid (rng_tail (rng_below hB69 hpb9 hr9))
      have HD9 := Lib.hid (hd9.keep (Kp.below hB69 fun _ _ h => h)).sl
      have HNOK := Lib.hid (fun h => HNOI.out (by rw [HMD2.out]; exact all_no hkt h))
      have HTKK := Lib.hid (fun h => take_all (P := fun t => mayV t.t t.c t.d) hkt HALK.out h)
      clear hc9 hr9 hd9 hB69
      generalize ed.ts[k] = t at *
      obtain ⟨tn, tt, tc, td⟩ := t
      dsimp only at HR9 HD9 HNOK HTKK hby9 hbl9
      have HMV := Lib.hid (fun W h => rmay_any tt tc Ad9 td cd9 W h (by omega) hby9)
      go_wp2_with ((with_reducible refine wpl_loadv rtVl ?_ (.tmp 49) ?_ b9 (off9 + k * 4 + 1) ?_ [.int .i64 tt, .int .i64 tc, .slice Ad9 td.length cd9] ?_ HR9.out ?_); rfl; rfl; rfl; rfl; simp only [Act.put, List.setIfInBounds_toArray, List.set_cons_succ, List.set_cons_zero])
      clear q0
      refine (HMV.out _ HD9.out).mono ?_
      rintro e w7 ⟨rfl, hb7⟩
      replace HB6 := Lib.hid (HB6.out.trans (hb7.mono HB6.out.size))
      cases hm : mayV tt tc td with
      | true =>
        have HQ := Lib.hid (HTKK.out hm)
        clear hm hb7
        go_wp2_with fail
        exact ⟨⟨k + 1, by omega, rfl, HB6.out, HQ.out⟩, by simp only [intOf]; omega⟩
      | false =>
        obtain ⟨k1, k2⟩ := HNOK.out hm
        have HKF := Lib.hid (And.intro k1 k2)
        clear hm hb7 k1 k2
        go_wp2_with fail
        refine bodyPost_ret (results_tmp2 rfl _ _ _) rfl ?_
        rw [HKF.out.1, HKF.out.2]
        exact ⟨none, 0, rfl, OwnV.nil_ _ _ _ _, HB.out.trans ((HBr.out.trans (HB6.out.mono HBr.out.size)).mono (Nat.le_of_lt hz1))⟩
theorem rtlong_any (o : Int) (Ad : Option Addr) (cd : Nat) (f : Fo) (w : World) (hf : FoS w (· < w.heap.size) false Ad f) (hsm : smF f) (hcnt : f.cnt ≤ 1000) :
    Calls Try.prog 14 #[.agg #[.int .i64 o, .slice Ad f.len cd]] w fun e w' => e = .returned (.int .i64 (longF f)) ∧ Below w.heap.size w w' := by
  have hb0 := ba (brefl w) (.cells (trow o Ad f.len cd) 24)
  have R1 := Lib.hid (heap_alloc_new w (.cells (trow o Ad f.len cd) 24))
  have HB := Lib.hid hb0
  have hbd : 0 ≤ longF f ∧ longF f ≤ 100000000100 ∧ (ofF f).length ≤ 70000 := by
    have := layF_bd0 hsm hcnt
    unfold longF ofF
    split
    · exact this
    · simp [endL]
  have HOF := Lib.hid (rof_any o Ad cd f (w.alloc (.cells (trow o Ad f.len cd) 24)) ((hf.bel hb0).mono fun b _ h => Nat.lt_of_lt_of_le h hb0.size) hsm hcnt)
  have HLO := Lib.hid (show endL (ofF f) = longF f from rfl)
  clear hb0 hf hsm
  go_enter Try.func14, Try.ntmps14
  go_wp2_with ((with_reducible refine wpl_load_row rtTf ?_ (.tmp 1) ?_ (w.heap.size) ?_ 24 (trow o Ad f.len cd) ?_ R1.out ?_); rfl; rfl; rfl; rfl; simp only [Act.put, List.setIfInBounds_toArray, List.set_cons_succ, List.set_cons_zero])
  refine HOF.out.mono ?_
  rintro e w2 ⟨A, c, rfl, ho, hb⟩
  have HO := Lib.hid ho
  replace HB := Lib.hid (HB.out.trans (hb.mono HB.out.size))
  clear ho hb HOF R1
  generalize hl : ofF f = l at *
  rw [← HLO.out] at hbd
  obtain ⟨h1, h2, h3⟩ := hbd
  go_wp2_with fail
  refine (end_any A c l _ HO.out.sl'.2.1 (by omega) (by omega) (by omega)).mono ?_
  rintro e w3 ⟨rfl, hb3⟩
  go_wp2_with fail
  go_ret
  exact ⟨by rw [← HLO.out]; rfl, HB.out.trans (hb3.mono HB.out.size)⟩
end Go.Proofs.Ytkepbobnjplpoaa
