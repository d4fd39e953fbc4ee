/- The contract of the reference's laid. -/
import Derived.Test.YtkepbobnjplpoaaLyF
namespace Go.Proofs.Ytkepbobnjplpoaa
open Go.RowKit
open Go.Tin
set_option linter.unusedVariables false
set_option linter.unusedSimpArgs false


set_option maxRecDepth 100000 in
set_option maxHeartbeats 16000000 in
theorem rlaid_any : ∀ (n : Nat) (B : Nat) (A : Option Addr) (c : Nat) (l : List Sp) (no : Nat) (At As Ab : Option Addr) (ct cs cb : Nat) (d : Di) (w : World), d.sub.cnt < n → OwnV 53 5 w B (.slice A l.length c) l.length (spsC l) → B ≤ w.heap.size → DiP w (· < B) At As Ab d → smD d → 0 ≤ endL l → endL l + 100000000 * ((d.sub.cnt : Int) + 1) ≤ 10000000000000 → l.length + 62 * (d.sub.cnt + 1) ≤ 100000000 → no + d.sub.cnt + 1 ≤ 100000000 →
    Calls Try.prog 35 #[.slice A l.length c, .agg #[.slice At d.ts.length ct, .slice As d.sub.len cs, .slice Ab d.bl.length cb], .int .i64 (no : Int)] w fun e w' => ∃ A' c', e = .returned (.slice A' (dirL l no d).length c') ∧ OwnV 53 5 w' B (.slice A' (dirL l no d).length c') (dirL l no d).length (spsC (dirL l no d)) ∧ Below B w w' ∧ Nsq w w' := by
  intro n
  induction n with
  | zero => intro B A c l no At As Ab ct cs cb d w h; omega
  | succ n ih =>
  intro B A c l no At As Ab ct cs cb d w hcnt ho hB hd hsm he0 he1 hl hno
  have IH := Lib.hid ih
  clear ih
  have HD := Lib.hid (show dirL l no d = blobL (layF (tagsL (wth l 2 no 0 (6 + 12 * (entN d.ts d.bl d.sub : Int))) no d.ts) (no + 1) d.sub) no d.bl from rfl)
  obtain ⟨s1, s2, s3, _, s5⟩ := hsm
  have hb0 := ba (brefl w) (.cells (drow At d.ts.length ct As d.sub.len cs Ab d.bl.length cb) 42)
  have R4 := Lib.hid (heap_alloc_new w (.cells (drow At d.ts.length ct As d.sub.len cs Ab d.bl.length cb) 42))
  have HO := Lib.hid (ho.keep hb0)
  have HB := Lib.hid (hb0.mono hB)
  have HN := Lib.hid (Nsq.of_bel hb0)
  have HDP := Lib.hid hd
  have HEN := Lib.hid (entV_N d.ts d.bl d.sub)
  have hent := entN_bd (bl := d.bl) s1 s3
  have hBz : B ≤ (w.alloc (.cells (drow At d.ts.length ct As d.sub.len cs Ab d.bl.length cb) 42)).heap.size := Nat.le_trans hB hb0.size
  clear hb0 ho hd
  generalize hsub : d.sub.len = NS at *
  generalize hts : d.ts.length = NT at *
  generalize hbl : d.bl.length = NB at *
  have HSUB := Lib.hid hsub
  have HTS := Lib.hid hts
  have HBL := Lib.hid hbl
  clear hsub hts hbl
  generalize hcn : d.sub.cnt = CN at *
  have HCN := Lib.hid hcn
  clear hcn
  generalize entN d.ts d.bl d.sub = EN at *
  have HSM := Lib.hid s5
  clear s5
  have q0 := row_cell (v := .slice At NT ct) R4.out 0 rfl
  go_enter Try.func35, Try.ntmps35
  go_wp2_with ((with_reducible refine wpl_load_row rtDi ?_ (.tmp 4) ?_ (w.heap.size) ?_ 42 (drow At NT ct As NS cs Ab NB cb) ?_ R4.out ?_); rfl; rfl; rfl; rfl; simp only [Act.put, List.setIfInBounds_toArray, List.set_cons_succ, List.set_cons_zero])
  clear q0
  generalize w.alloc (.cells (drow At NT ct As NS cs Ab NB cb) 42) = w1 at *
  refine (rent_any At As Ab NT ct NS cs NB cb _ (by omega) (by omega)).mono ?_
  rintro e w2 ⟨rfl, hb⟩
  rw [HEN.out]
  replace R4 := Lib.hid ((hb.block _ (row_lt R4.out)).trans R4.out)
  replace HN := Lib.hid (HN.out.trans (Nsq.of_bel hb))
  replace HB := Lib.hid (HB.out.trans (hb.mono hBz))
  replace HO := Lib.hid (HO.out.keep hb)
  replace hBz := Nat.le_trans hBz hb.size
  clear hb
  go_wp2_with fail
  refine (with_any B A c l 2 no 0 (6 + 12 * (EN : Int)) _ HO.out hBz he0 (by omega) (by omega)).mono ?_
  rintro e w3 ⟨A3, c3, rfl, ho, hb, hn⟩
  replace R4 := Lib.hid (hn.row R4.out (by decide))
  replace HN := Lib.hid (HN.out.trans hn)
  replace HB := Lib.hid (HB.out.trans hb)
  have HL1 := Lib.hid (show endL (wth l 2 no 0 (6 + 12 * (EN : Int))) ≤ endL l + 1000 ∧ 0 ≤ endL (wth l 2 no 0 (6 + 12 * (EN : Int))) ∧ (wth l 2 no 0 (6 + 12 * (EN : Int))).length ≤ l.length + 1 by
    rw [endL_wth, wth_len]
    have := evenN_bd (endL l)
    omega)
  generalize wth l 2 no 0 (6 + 12 * (EN : Int)) = l1 at *
  replace HO := Lib.hid ho
  replace hBz := Nat.le_trans hBz hb.size
  clear ho hb hn HEN
  obtain ⟨h11, h12, h13⟩ := HL1.out
  go_wp2_with fail
  have t1 := tagsL_end l1 no d.ts
  have t2 := tagsL_len l1 no d.ts
  rw [HTS.out] at t1 t2
  have HT := Lib.hid HDP.out.tg
  have HTG := Lib.hid (rfl : tagsL l1 no d.ts = tagsL l1 no d.ts)
  obtain ⟨w4, hw4⟩ : ∃ w4, w4 = w3 := ⟨_, rfl⟩
  rw [← hw4] at HO HB HN R4 hBz ⊢
  clear hw4
  go_loopw [0, 7] (fun s0 s7 wr => ∃ (i : Nat) (l' : List Sp) (A' : Option Addr) (c' : Nat), i ≤ NT ∧ s7 = .int .i64 (i : Int) ∧ s0 = .slice A' l'.length c' ∧ OwnV 53 5 wr B (.slice A' l'.length c') l'.length (spsC l') ∧ Below B w4 wr ∧ Nsq w4 wr ∧ tagsL l1 no d.ts = tagsL l' no (d.ts.drop i) ∧ 0 ≤ endL l' ∧ endL l' ≤ endL l1 + 1000001 * i ∧ l'.length ≤ l1.length + i) (fun _ s7 _ => NT - (intOf s7).toNat)
  case atStart => exact ⟨0, l1, A3, c3, by omega, rfl, rfl, HO.out, Below.refl _ _, Nsq.refl _, by rw [List.drop_zero], h12, by omega, by omega⟩
  case round =>
    obtain ⟨i, l', A', c', hi, rfl, rfl, ho, hb, hn, htl, hz0, hz1, hz2⟩ := hrel
    have HOr := Lib.hid ho
    have HBr := Lib.hid hb
    have HNr := Lib.hid hn
    have HTL := Lib.hid htl
    have R4r := Lib.hid (hn.row R4.out (by decide))
    have hBr := Nat.le_trans hBz hb.size
    clear ho hb hn htl
    have q0 := row_cell (v := .slice At NT ct) R4r.out 0 rfl
    by_cases hin : i < NT
    case neg =>
      obtain rfl : i = NT := by omega
      have HL2 := Lib.hid (show tagsL l1 no d.ts = l' by rw [HTL.out, List.drop_eq_nil_of_le (by rw [HTS.out]; exact Nat.le_refl _), tagsL])
      rw [HL2.out] at t1 t2
      rw [HL2.out] at HD
      have hl21 : endL l' ≤ endL l + 61000000 := by omega
      have hl22 : l'.length ≤ l.length + 61 := by omega
      replace HB := Lib.hid (HB.out.trans HBr.out)
      replace HN := Lib.hid (HN.out.trans HNr.out)
      clear t1 t2 h11 h12 h13 HL1 hz1 hz2 HTL HL2 HTG HBr HNr R4 HO
      go_wp2_with fail
      clear q0
      have hsu := HDP.out.su.keep (Kp.below HB.out fun _ _ h => h)
      have HSU := Lib.hid hsu
      clear hsu
      obtain ⟨w5, hw5⟩ : ∃ w5, w5 = wr := ⟨_, rfl⟩
      rw [← hw5] at HOr HB HN R4r hBr HSU ⊢
      clear hw5
      go_loopw [0, 9, 10] (fun s0 s9 s10 wr => ∃ (i : Nat) (l2 : List Sp) (no' : Nat) (A' : Option Addr) (c' : Nat), i ≤ NS ∧ s10 = .int .i64 (i : Int) ∧ s9 = .int .i64 (no' : Int) ∧ s0 = .slice A' l2.length c' ∧ OwnV 53 5 wr B (.slice A' l2.length c') l2.length (spsC l2) ∧ Below B w5 wr ∧ Nsq w5 wr ∧ layF l' (no + 1) d.sub = layF l2 no' (d.sub.drop i) ∧ no' + (d.sub.drop i).cnt = no + 1 + CN ∧ 0 ≤ endL l2 ∧ endL l2 + 100000000 * ((d.sub.drop i).cnt : Int) ≤ endL l' + 100000000 * (CN : Int) ∧ l2.length + 62 * (d.sub.drop i).cnt ≤ l'.length + 62 * CN) (fun _ _ s10 _ => NS - (intOf s10).toNat)
      case atStart => exact ⟨0, l', no + 1, A', c', by omega, rfl, by push_cast; rfl, rfl, HOr.out, Below.refl _ _, Nsq.refl _, rfl, by rw [Fo.drop, HCN.out], hz0, by rw [Fo.drop, HCN.out]; exact Int.le_refl _, by rw [Fo.drop, HCN.out]; exact Nat.le_refl _⟩
      case round =>
        obtain ⟨i, l2, no', A2, c2, hi, rfl, rfl, rfl, ho, hb, hn, hlay, hcc, hz0, hz1, hz2⟩ := hrel
        have HO2 := Lib.hid ho
        have HB2 := Lib.hid hb
        have HN2 := Lib.hid hn
        have HLAY := Lib.hid hlay
        have R42 := Lib.hid (hn.row R4r.out (by decide))
        have hB2 := Nat.le_trans hBr hb.size
        clear ho hb hn hlay
        have q1 := row_cell (v := .slice As NS cs) R42.out 1 rfl
        by_cases hin : i < NS
        case neg =>
          obtain rfl : i = NS := by omega
          have hnil := Fo.drop_all (f := d.sub) (i := i) (by rw [HSUB.out]; exact Nat.le_refl _)
          rw [hnil] at hcc hz1 hz2 HLAY
          have hz1' : endL l2 ≤ endL l' + 100000000 * (CN : Int) := by simpa [Fo.cnt] using hz1
          have hz2' : l2.length ≤ l'.length + 62 * CN := by simpa [Fo.cnt] using hz2
          have HE := Lib.hid (show dirL l no d = blobL l2 no d.bl by rw [HD.out, HLAY.out]; rfl)
          have HBD := Lib.hid (show blobL l2 no d.bl = if 0 < d.bl.length then wth l2 4 no 0 d.bl.length else l2 from rfl)
          clear hnil hcc hz1 hz2
          have q2 := row_cell (v := .slice Ab NB cb) R42.out 2 rfl
          by_cases h0 : 0 < NB
          · have i0 : (0 : Int) < (NB : Int) := by omega
            go_wp2_with fail
            clear q1 q2
            refine (with_any B A2 c2 l2 4 no 0 NB _ HO2.out hB2 hz0 (by omega) (by omega)).mono ?_
            rintro e w6 ⟨A6, c6, rfl, ho6, hb6, hn6⟩
            go_wp2_with fail
            go_ret
            rw [HE.out, HBD.out, HBL.out, if_pos h0]
            exact ⟨A6, c6, rfl, ho6, HB.out.trans (HB2.out.trans hb6), HN.out.trans (HN2.out.trans hn6)⟩
          · have i0 : ¬ (0 : Int) < (NB : Int) := by omega
            go_wp2_with fail
            go_ret
            rw [HE.out, HBD.out, HBL.out, if_neg h0]
            exact ⟨A2, c2, rfl, HO2.out, HB.out.trans HB2.out, HN.out.trans HN2.out⟩
        have i1 : (i : Int) < (NS : Int) := by omega
        have hif : i < d.sub.len := by rw [HSUB.out]; exact hin
        obtain ⟨b, off, rfl, hpb, hbs, hc⟩ := HSU.out.at_ (by omega)
        obtain ⟨At', ct', As', cs', Ab', cb', hr0, hdi⟩ := hc i hif
        have hd1 := Fo.drop_at i d.sub hif
        have hce := Fo.elem_cnt i d.sub hif
        have hse := smF_elem i d.sub HSM.out hif
        rw [HCN.out] at hce
        have HRG := Lib.hid (rng_tail (rng_below HB2.out hpb hr0))
        have HDI := Lib.hid (hdi.bel HB2.out)
        rw [hd1, one_cnt] at hcc hz1 hz2
        rw [hd1, layF_one] at HLAY
        have hdb := dirL_bd l2 no' _ hse
        have HSE := Lib.hid hse
        clear hc hr0 hdi hd1 hse
        generalize d.sub.elem i = el at *
        obtain ⟨etag, ed⟩ := el
        dsimp only at hcc hz1 hz2 hce
        dsimp only at HRG HDI HLAY hdb HSE
        push_cast at hz1
        replace HRG := Lib.hid (show wr.rangeAt b (off + i * 4 + 1) [.slice At' ed.ts.length ct', .slice As' ed.sub.len cs', .slice Ab' ed.bl.length cb'] from HRG.out)
        go_wp2_with ((with_reducible refine wpl_loadv rtDi ?_ (.tmp 66) ?_ b (off + i * 4 + 1) ?_ [.slice At' ed.ts.length ct', .slice As' ed.sub.len cs', .slice Ab' ed.bl.length cb'] ?_ HRG.out ?_); rfl; rfl; rfl; rfl; simp only [Act.put, List.setIfInBounds_toArray, List.set_cons_succ, List.set_cons_zero])
        clear q1
        refine (IH.out B A2 c2 l2 no' At' As' Ab' ct' cs' cb' ed _ (by omega) HO2.out hB2 HDI.out HSE.out hz0 (by omega) (by omega) (by omega)).mono ?_
        rintro e w6 ⟨A6, c6, rfl, ho6, hb6, hn6⟩
        replace R42 := Lib.hid (hn6.row R42.out (by decide))
        replace HRG := Lib.hid (rng_below hb6 hpb HRG.out)
        replace HDI := Lib.hid (HDI.out.bel hb6)
        replace HB2 := Lib.hid (HB2.out.trans hb6)
        replace HN2 := Lib.hid (HN2.out.trans hn6)
        replace HO2 := Lib.hid ho6
        replace hB2 := Nat.le_trans hB2 hb6.size
        clear ho6 hb6 hn6
        have q1 := row_cell (v := .slice (some ⟨b, off, none⟩) NS cs) R42.out 1 rfl
        go_wp2_with ((with_reducible refine wpl_loadv rtDi ?_ (.tmp 75) ?_ b (off + i * 4 + 1) ?_ [.slice At' ed.ts.length ct', .slice As' ed.sub.len cs', .slice Ab' ed.bl.length cb'] ?_ HRG.out ?_); rfl; rfl; rfl; rfl; simp only [Act.put, List.setIfInBounds_toArray, List.set_cons_succ, List.set_cons_zero])
        clear q1
        refine (within_any _ B At' As' Ab' ct' cs' cb' ed _ (Nat.lt_succ_self _) HDI.out hB2 (by omega)).mono ?_
        rintro e w7 ⟨A7, c7, xs7, rfl, _, _, hb7⟩
        replace HO2 := Lib.hid (HO2.out.keep hb7)
        replace HN2 := Lib.hid (HN2.out.trans (Nsq.of_bel hb7))
        replace HB2 := Lib.hid (HB2.out.trans (hb7.mono hB2))
        clear hb7
        generalize hl3 : dirL l2 no' ed = l3 at *
        have hce2 : (no' : Int) + ((ed.sub.cnt : Int) + 1) = ((no' + 1 + ed.sub.cnt : Nat) : Int) := by push_cast; omega
        have HCE := Lib.hid hce2
        clear hl3 hce2
        go_wp2_with fail
        exact ⟨⟨i + 1, l3, no' + 1 + ed.sub.cnt, A6, c6, by omega, rfl, by first | exact congrArg _ HCE.out | (push_cast; congr 1; omega), rfl, HO2.out, HB2.out, HN2.out, HLAY.out, by omega, by omega, by omega, by omega⟩, by simp only [intOf]; omega⟩
    have i1 : (i : Int) < (NT : Int) := by omega
    obtain ⟨b, off, rfl, hpb, hbs, hc⟩ := HT.out.at_ (by have := HTS.out; omega)
    have hit : i < d.ts.length := by rw [HTS.out]; exact hin
    obtain ⟨Ad, cd, hr0, _, _, _⟩ := hc i hit
    have hbw := HB.out.trans HBr.out
    have HRG := Lib.hid (rng_below hbw hpb hr0)
    have HDD := Lib.hid (drop_at_ hit)
    have hstep : tagsL l' no (d.ts.drop i) = tagsL (if 0 < ouE d.ts[i].t d.ts[i].c then wth l' 3 no d.ts[i].n (ouE d.ts[i].t d.ts[i].c) else l') no (d.ts.drop (i + 1)) := by rw [HDD.out, tagsL]
    have hob := ouE_bd d.ts[i].t d.ts[i].c
    have HOU := Lib.hid (fun W => rout_any d.ts[i].t d.ts[i].c W)
    have HST := Lib.hid hstep
    clear hc hr0 hstep
    generalize hO : ouE d.ts[i].t d.ts[i].c = O at *
    generalize d.ts[i] = t at *
    obtain ⟨tn, tt, tc, td⟩ := t
    dsimp only at HRG HOU HST
    clear hO
    have hlr : w.heap.size < wr.heap.size := row_lt R4r.out
    have hbr2 : b < wr.heap.size := by omega
    go_wp2_with fail
    clear q0
    have k0 : ∀ p : Bel wr.heap.size wr.drew, p.w'.cell? ⟨w.heap.size, 0, none⟩ = some (.slice (some ⟨b, off, none⟩) NT ct) := fun p => row_cell ((p.h.block _ hlr).trans R4r.out) 0 rfl
    have k1 : ∀ p : Bel wr.heap.size wr.drew, p.w'.cell? ⟨b, off + i * 4 + 1, none⟩ = some (.int .i64 tt) := fun p => (p.h.cell (p := ⟨b, off + i * 4 + 1, none⟩) hbr2).trans (HRG.out 1 _ rfl)
    have k2 : ∀ p : Bel wr.heap.size wr.drew, p.w'.cell? ⟨b, off + i * 4 + 2, none⟩ = some (.int .i64 tc) := fun p => (p.h.cell (p := ⟨b, off + i * 4 + 2, none⟩) hbr2).trans (HRG.out 2 _ rfl)
    refine Tin.reg_begin wr.heap.size 16 (by rfl) (by kernel_rfl) ?_
    refine Tin.reg_quiets [0, 1, 2, 3, 4, 5, 6, 7, 8, 9, 10, 11, 12, 13] _ 2 rfl (by simp only [Tin.pick, List.map_cons, List.map_nil, Array.getD_eq_getD_getElem?, List.getElem?_toArray, List.getElem?_cons_zero, List.getElem?_cons_succ, Option.getD_some]; rfl) (by kernel_rfl) (by kernel_rfl) ?_
    repeat (first | go_big_quiet_step (fail))
    refine wpQuiet_nil ?_
    clear k0 k1 k2
    refine Tin.reg_one 14 _ rfl (by kernel_rfl) ?_
    try simp only [List.getElem_toArray, List.getElem_cons_succ, List.getElem_cons_zero]
    go_wp2_with fail
    refine (HOU.out _).mono ?_
    rintro e w' ⟨rfl, rfl⟩
    go_wp2_with fail
    refine ⟨wr.heap.size, Below.refl _ _, Nat.le_refl _, ?_⟩
    refine Tin.reg_quiets [15] _ 0 rfl (by simp only [Tin.pick, List.map_cons, List.map_nil, Array.getD_eq_getD_getElem?, List.getElem?_toArray, List.getElem?_cons_zero, List.getElem?_cons_succ, Option.getD_some]; rfl) (by kernel_rfl) (by kernel_rfl) ?_
    repeat (first | go_big_quiet_step (fail))
    refine wpQuiet_nil ?_
    refine Tin.reg_done (by kernel_rfl) ?_
    replace HOr := Lib.hid HOr.out.drew
    have hbd := bl_drew (brefl wr)
    replace R4r := Lib.hid (show wr.drew.heap[w.heap.size]? = _ from R4r.out)
    replace HRG := Lib.hid (rng_below hbd hbr2 HRG.out)
    replace HBr := Lib.hid (bl_drew HBr.out)
    replace HNr := Lib.hid (HNr.out.trans (Nsq.of_bel hbd))
    have hBd : B ≤ wr.drew.heap.size := hBr
    clear hbd
    generalize wr.drew = v0 at *
    have q0 := row_cell (v := .slice (some ⟨b, off, none⟩) NT ct) R4r.out 0 rfl
    have q1 : v0.cell? ⟨b, off + i * 4, none⟩ = some (.int .i64 tn) := HRG.out 0 _ rfl
    by_cases h0 : 0 < O
    · rw [if_pos h0] at HST
      go_wp2_with fail
      clear q0 q1
      refine (with_any B A' c' l' 3 no tn O _ HOr.out hBd hz0 (by omega) (by omega)).mono ?_
      rintro e w6 ⟨A6, c6, rfl, ho6, hb6, hn6⟩
      have hev := evenN_bd (endL l')
      have HLe := Lib.hid (endL_wth l' 3 no tn O)
      have HLn := Lib.hid (wth_len l' 3 no tn O)
      generalize wth l' 3 no tn O = l3 at *
      go_wp2_with fail
      exact ⟨⟨i + 1, l3, A6, c6, by omega, rfl, rfl, ho6, HBr.out.trans hb6, HNr.out.trans hn6, HTL.out.trans HST.out, by rw [HLe.out]; omega, by rw [HLe.out]; omega, by rw [HLn.out]; omega⟩, by simp only [intOf]; omega⟩
    · rw [if_neg h0] at HST
      go_wp2_with fail
      exact ⟨⟨i + 1, l', A', c', by omega, rfl, rfl, HOr.out, HBr.out, HNr.out, HTL.out.trans HST.out, by omega, by omega, by omega⟩, by simp only [intOf]; omega⟩
end Go.Proofs.Ytkepbobnjplpoaa
