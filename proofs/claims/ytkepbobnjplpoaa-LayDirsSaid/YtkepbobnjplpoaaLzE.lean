/- The contracts of lay.Long, of vast and of huge. -/
import Derived.Test.YtkepbobnjplpoaaLzD
namespace Go.Proofs.Ytkepbobnjplpoaa
open Go.RowKit
open Go.Tin
set_option linter.unusedVariables false
set_option linter.unusedSimpArgs false


theorem ofF_pos {f : Fo} (h : okF f = true) : 0 < (ofF f).length := by
  unfold ofF
  rw [h]
  obtain ⟨E, hE⟩ := layF_pre f headL 0
  rw [if_pos rfl, hE, List.length_append]
  have : headL.length = 1 := rfl
  omega
set_option maxRecDepth 100000 in
set_option maxHeartbeats 4000000 in
theorem llong_any (o : Int) (Ad : Option Addr) (cd : Nat) (f : Fo) (w : World) (hf : FoS w (· < w.heap.size) false Ad f) (hsm : smF f) (hcnt : f.cnt ≤ 1000) :
    Calls Try.prog 13 #[.agg #[.int .i64 o, .slice Ad f.len cd]] w fun e w' => e = .returned (.int .i64 (longF f)) ∧ Below w.heap.size w w' := by
  have hb0 := ba (brefl w) (.cells (trow o Ad f.len cd) 24)
  have R1 := Lib.hid (heap_alloc_new w (.cells (trow o Ad f.len cd) 24))
  have HB := Lib.hid hb0
  have hbd : 0 ≤ longF f ∧ longF f ≤ 100000000100 ∧ (ofF f).length ≤ 70000 := by
    have := layF_bd0 hsm hcnt
    unfold longF ofF
    split
    · exact this
    · simp [endL]
  have HOF := Lib.hid (lof_any o Ad cd f (w.alloc (.cells (trow o Ad f.len cd) 24)) ((hf.bel hb0).mono fun b _ h => Nat.lt_of_lt_of_le h hb0.size) hsm hcnt)
  have HLO := Lib.hid (show endL (ofF f) = longF f from rfl)
  have HPO := Lib.hid (fun h => ofF_pos (f := f) h)
  have HNO := Lib.hid (fun (h : okF f = false) => show ofF f = [] by unfold ofF; rw [h]; rfl)
  clear hb0 hf hsm
  go_enter Try.func13, Try.ntmps13
  go_wp2_with ((with_reducible refine wpl_load_row rtTf ?_ (.tmp 1) ?_ (w.heap.size) ?_ 24 (trow o Ad f.len cd) ?_ R1.out ?_); rfl; rfl; rfl; rfl; simp only [Act.put, List.setIfInBounds_toArray, List.set_cons_succ, List.set_cons_zero])
  refine HOF.out.mono ?_
  clear HOF
  generalize hl : ofF f = l at *
  cases hok : okF f with
  | false =>
    have h0 := HNO.out hok
    have HZ := Lib.hid (show longF f = 0 by rw [← HLO.out, h0]; rfl)
    clear hok h0 hbd
    rintro e w2 ⟨A, c, rfl, ho, hb⟩
    go_wp2_with fail
    go_ret
    exact ⟨by rw [HZ.out]; rfl, HB.out.trans (hb.mono HB.out.size)⟩
  | true =>
    have hp := HPO.out hok
    rintro e w2 ⟨A, c, rfl, ho, hb⟩
    replace HB := Lib.hid (HB.out.trans (hb.mono HB.out.size))
    obtain ⟨b, off, rfl, hlt, hc⟩ := SpS.at_ ho.sl'.2.1 hp
    have he := end_at hp
    have hr := hc (l.length - 1) (by omega)
    rw [HLO.out] at he
    obtain ⟨h1, h2, h3⟩ := hbd
    clear hok hc ho hb HPO HNO HLO
    generalize l[l.length - 1] = s at *
    obtain ⟨s1, s2, s3, s4, s5⟩ := s
    dsimp only at he
    rw [he] at h1 h2
    have HE := Lib.hid he
    clear hl he
    generalize l.length = n at *
    obtain ⟨m, rfl⟩ : ∃ m, n = m + 1 := ⟨n - 1, by omega⟩
    rw [Nat.add_sub_cancel] at hr
    have HRG := Lib.hid (show w2.rangeAt b (off + m * 5) [.int .i64 s1, .int .i64 s2, .int .i64 s3, .int .i64 s4, .int .i64 s5] from hr)
    have HBB := Lib.hid (HB.out.trans ((ba (brefl w2) (.cells #[.int .i64 s1, .int .i64 s2, .int .i64 s3, .int .i64 s4, .int .i64 s5] 53)).mono HB.out.size))
    have e1 : ((m + 1 : Nat) : Int) - 1 = (m : Int) := by omega
    clear hr
    go_wp2_with ((with_reducible refine wpl_loadv rtSp ?_ (.tmp 17) ?_ b (off + m * 5) ?_ [.int .i64 s1, .int .i64 s2, .int .i64 s3, .int .i64 s4, .int .i64 s5] ?_ HRG.out ?_); rfl; rfl; rfl; rfl; simp only [Act.put, List.setIfInBounds_toArray, List.set_cons_succ, List.set_cons_zero])
    go_ret
    exact ⟨by rw [HE.out]; rfl, HBB.out⟩
/-- What vast tells of a row of directories, so many steps down. -/
def vastF : Nat → Fo → Bool
  | _, .nil => false
  | n, .cons _ ts bl sub rest => (match n with
    | 0 => true
    | k + 1 => decide (60 < ts.length) || (decide (600 < bl.length) || (decide (6 < sub.len) || (ts.any (fun t => decide (600 < t.d.length)) || vastF k sub)))) || vastF n rest
def vastD (n : Nat) (d : Di) : Bool := match n with
  | 0 => true
  | k + 1 => decide (60 < d.ts.length) || (decide (600 < d.bl.length) || (decide (6 < d.sub.len) || (d.ts.any (fun t => decide (600 < t.d.length)) || vastF k d.sub)))
theorem vastF_one (n : Nat) (e : El) (r : Fo) : vastF n (one e r) = (vastD n e.d || vastF n r) := by
  cases n <;> rfl
def hugeF (f : Fo) : Bool := vastF 8 f || (decide (6 < f.len) || decide (40 < f.cnt))
theorem vastF_sm : ∀ (f : Fo) (n : Nat), vastF n f = false → smF f
  | .nil, _, _ => trivial
  | .cons _ ts bl s r, 0, h => by simp [vastF] at h
  | .cons _ ts bl s r, n + 1, h => by
    simp only [vastF, Bool.or_eq_false_iff, decide_eq_false_iff_not, List.any_eq_false, decide_eq_true_eq] at h
    obtain ⟨⟨h1, h2, h3, h4, h5⟩, h6⟩ := h
    exact ⟨by omega, by omega, by omega, fun t ht => by have := h4 t ht; omega, vastF_sm s n h5, vastF_sm r (n + 1) h6⟩
def cbN : Nat → Nat
  | 0 => 0
  | n + 1 => 1 + 6 * cbN n
theorem vastF_cnt : ∀ (f : Fo) (n : Nat), vastF n f = false → f.cnt ≤ f.len * cbN n
  | .nil, _, _ => Nat.zero_le _
  | .cons _ ts bl s r, 0, h => by simp [vastF] at h
  | .cons _ ts bl s r, n + 1, h => by
    simp only [vastF, Bool.or_eq_false_iff, decide_eq_false_iff_not] at h
    obtain ⟨⟨h1, h2, h3, h4, h5⟩, h6⟩ := h
    have i1 := vastF_cnt s n h5
    have i2 := vastF_cnt r (n + 1) h6
    have i3 : s.len * cbN n ≤ 6 * cbN n := Nat.mul_le_mul_right _ (by omega)
    simp only [Fo.cnt, Fo.len, Nat.succ_mul, cbN] at *
    omega
theorem hugeF_no {f : Fo} (h : hugeF f = false) : smF f ∧ f.cnt ≤ 40 ∧ f.len ≤ 6 := by
  unfold hugeF at h
  simp only [Bool.or_eq_false_iff, decide_eq_false_iff_not] at h
  exact ⟨vastF_sm f 8 h.1, by omega, by omega⟩
set_option maxRecDepth 100000 in
set_option maxHeartbeats 8000000 in
theorem vast_any : ∀ (n : Nat) (At As Ab : Option Addr) (ct cs cb : Nat) (d : Di) (w : World), n ≤ 8 → DiP w (· < w.heap.size) At As Ab d → d.ts.length ≤ maxLen →
    Calls Try.prog 23 #[.agg #[.slice At d.ts.length ct, .slice As d.sub.len cs, .slice Ab d.bl.length cb], .int .i64 (n : Int)] w fun e w' => e = .returned (.bool (vastD n d)) ∧ Below w.heap.size w w' := by
  intro n
  induction n with
  | zero =>
    intro At As Ab ct cs cb d w _ _ _
    have hb := ba (brefl w) (.cells (drow At d.ts.length ct As d.sub.len cs Ab d.bl.length cb) 42)
    have HB := Lib.hid hb
    clear hb
    go_enter Try.func23, Try.ntmps23
    go_wp2_with fail
    go_ret
    exact ⟨rfl, HB.out⟩
  | succ n ih =>
  intro At As Ab ct cs cb d w hn8 hd _
  have IH := Lib.hid ih
  clear ih
  have hb := ba (brefl w) (.cells (drow At d.ts.length ct As d.sub.len cs Ab d.bl.length cb) 42)
  have R2 := Lib.hid (heap_alloc_new w (.cells (drow At d.ts.length ct As d.sub.len cs Ab d.bl.length cb) 42))
  have HD := Lib.hid (hd.bel hb)
  have HB := Lib.hid hb
  have HV := Lib.hid (show vastD (n + 1) d = (decide (60 < d.ts.length) || (decide (600 < d.bl.length) || (decide (6 < d.sub.len) || (d.ts.any (fun t => decide (600 < t.d.length)) || vastF n d.sub)))) from rfl)
  have hz : w.heap.size < (w.alloc (.cells (drow At d.ts.length ct As d.sub.len cs Ab d.bl.length cb) 42)).heap.size := by simp
  have q0 := row_cell (v := .slice At d.ts.length ct) R2.out 0 rfl
  have q1 := row_cell (v := .slice As d.sub.len cs) R2.out 1 rfl
  have q2 := row_cell (v := .slice Ab d.bl.length cb) R2.out 2 rfl
  obtain ⟨M, hM⟩ : ∃ M, n + 1 = M := ⟨_, rfl⟩
  rw [hM] at HV ⊢
  have HM := Lib.hid hM
  have n0 : ((M : Int) == 0) = false := by rw [beq_eq_false_iff_ne]; omega
  clear hM
  clear hb hd
  by_cases h1 : 60 < d.ts.length
  · have i1 : decide (60 < (d.ts.length : Int)) = true := decide_eq_true (by omega)
    have HT := Lib.hid (show vastD M d = true by rw [HV.out, decide_eq_true h1]; rfl)
    clear h1
    go_enter Try.func23, Try.ntmps23
    go_wp2_with fail
    go_ret
    exact ⟨by rw [HT.out]; rfl, HB.out⟩
  have i1 : decide (60 < (d.ts.length : Int)) = false := decide_eq_false (by omega)
  by_cases h2 : 600 < d.bl.length
  · have i2 : decide (600 < (d.bl.length : Int)) = true := decide_eq_true (by omega)
    have HT := Lib.hid (show vastD M d = true by rw [HV.out, decide_eq_true h2]; simp)
    clear h1 h2
    go_enter Try.func23, Try.ntmps23
    go_wp2_with fail
    go_ret
    exact ⟨by rw [HT.out]; rfl, HB.out⟩
  have i2 : decide (600 < (d.bl.length : Int)) = false := decide_eq_false (by omega)
  by_cases h3 : 6 < d.sub.len
  · have i3 : decide (6 < (d.sub.len : Int)) = true := decide_eq_true (by omega)
    have HT := Lib.hid (show vastD M d = true by rw [HV.out, decide_eq_true h3]; simp)
    clear h1 h2 h3
    go_enter Try.func23, Try.ntmps23
    go_wp2_with fail
    go_ret
    exact ⟨by rw [HT.out]; rfl, HB.out⟩
  have i3 : decide (6 < (d.sub.len : Int)) = false := decide_eq_false (by omega)
  replace HV := Lib.hid (show vastD M d = (d.ts.any (fun t => decide (600 < t.d.length)) || vastF n d.sub) by rw [HV.out, decide_eq_false h1, decide_eq_false h2, decide_eq_false h3]; simp)
  generalize hts : d.ts.length = NT at *
  generalize hss : d.sub.len = NS at *
  generalize hbl : d.bl.length = NB at *
  have HTS := Lib.hid hts
  have HSS := Lib.hid hss
  clear hts hss hbl
  go_enter Try.func23, Try.ntmps23
  go_wp2_with fail
  generalize w.alloc (.cells (drow At NT ct As NS cs Ab NB cb) 42) = w1 at *
  clear i1 i2 i3 q0 q1 q2 n0
  go_loopw [5] (fun s5 wr => ∃ (i : Nat), i ≤ NT ∧ s5 = .int .i64 (i : Int) ∧ Below w1.heap.size w1 wr ∧ (d.ts.take i).any (fun t => decide (600 < t.d.length)) = false) (fun s5 _ => NT - (intOf s5).toNat)
  case atStart => exact ⟨0, by omega, rfl, Below.refl _ _, by simp⟩
  case round =>
    obtain ⟨i, hi, rfl, hb, hno⟩ := hrel
    have HB1 := Lib.hid hb
    have HNO := Lib.hid hno
    have R2r := Lib.hid ((hb.block _ (row_lt R2.out)).trans R2.out)
    have hzr := Nat.lt_of_lt_of_le hz hb.size
    have q0 := row_cell (v := .slice At NT ct) R2r.out 0 rfl
    clear hb hno
    by_cases hin : i < NT
    case neg =>
      obtain rfl : i = NT := by omega
      have HALL := Lib.hid (show d.ts.any (fun t => decide (600 < t.d.length)) = false by have := HNO.out; rwa [List.take_of_length_le (by rw [HTS.out]; exact Nat.le_refl _)] at this)
      replace HB := Lib.hid (HB.out.trans (HB1.out.mono (Nat.le_of_lt hz)))
      replace HV := Lib.hid (show vastD M d = vastF n d.sub by rw [HV.out, HALL.out]; rfl)
      replace HD := Lib.hid (HD.out.bel (HB1.out.mono (Nat.le_of_lt hz)))
      clear HALL HNO HB1 R2 hz
      go_wp2_with fail
      clear q0
      obtain ⟨w2, hw2⟩ : ∃ w2, w2 = wr := ⟨_, rfl⟩
      rw [← hw2] at R2r hzr HB HD ⊢
      clear hw2
      go_loopw [6] (fun s6 wr => ∃ (j : Nat), j ≤ NS ∧ s6 = .int .i64 (j : Int) ∧ Below w2.heap.size w2 wr ∧ vastF n d.sub = vastF n (d.sub.drop j)) (fun s6 _ => NS - (intOf s6).toNat)
      case atStart => exact ⟨0, by omega, rfl, Below.refl _ _, rfl⟩
      case round =>
        obtain ⟨j, hj, rfl, hb, hvd⟩ := hrel
        have HB2 := Lib.hid hb
        have HVD := Lib.hid hvd
        have R3 := Lib.hid ((hb.block _ (row_lt R2r.out)).trans R2r.out)
        have hz3 := Nat.lt_of_lt_of_le hzr hb.size
        have q1 := row_cell (v := .slice As NS cs) R3.out 1 rfl
        clear hb hvd
        by_cases hjn : j < NS
        case neg =>
          obtain rfl : j = NS := by omega
          have HE := Lib.hid (show vastD M d = false by rw [HV.out, HVD.out, Fo.drop_all (by rw [HSS.out]; exact Nat.le_refl _)]; rfl)
          go_wp2_with fail
          go_ret
          exact ⟨by rw [HE.out]; rfl, HB.out.trans (HB2.out.mono (Nat.le_of_lt hzr))⟩
        have j1 : (j : Int) < (NS : Int) := by omega
        have hjs : j < d.sub.len := by rw [HSS.out]; exact hjn
        have HDB := HD.out.bel (HB2.out.mono (Nat.le_of_lt hzr))
        obtain ⟨b, off, rfl, hpb, hbs, hc⟩ := HDB.su.at_ (by omega)
        obtain ⟨At', ct', As', cs', Ab', cb', hr0, hdi⟩ := hc j hjs
        have hd1 := Fo.drop_at j d.sub hjs
        rw [hd1, vastF_one] at HVD
        clear hc hd1 HDB
        generalize d.sub.elem j = el at *
        obtain ⟨etag, ed⟩ := el
        dsimp only at hr0 hdi HVD
        have HRG := Lib.hid (show wr.rangeAt b (off + j * 4 + 1) [.slice At' ed.ts.length ct', .slice As' ed.sub.len cs', .slice Ab' ed.bl.length cb'] from rng_tail hr0)
        have hnt := hdi.nt
        have HCA := Lib.hid (IH.out At' As' Ab' ct' cs' cb' ed wr (by have := HM.out; omega) (hdi.mono (fun b _ h => Nat.lt_trans h hz3)) hnt)
        have hn1 : (M : Int) - 1 = (n : Int) := by have := HM.out; omega
        clear hr0 hdi
        go_wp2_with ((with_reducible refine wpl_loadv rtDi ?_ (.tmp 54) ?_ b (off + j * 4 + 1) ?_ [.slice At' ed.ts.length ct', .slice As' ed.sub.len cs', .slice Ab' ed.bl.length cb'] ?_ HRG.out ?_); rfl; rfl; rfl; rfl; simp only [Act.put, List.setIfInBounds_toArray, List.set_cons_succ, List.set_cons_zero])
        refine HCA.out.mono ?_
        clear HCA hn1 q1
        cases hq : vastD n ed with
        | true =>
          have HE := Lib.hid (show vastD M d = true by rw [HV.out, HVD.out, hq]; rfl)
          clear hq
          rintro e w3 ⟨rfl, hb3⟩
          go_wp2_with fail
          go_ret
          exact ⟨by rw [HE.out]; rfl, HB.out.trans ((HB2.out.trans (hb3.mono HB2.out.size)).mono (Nat.le_of_lt hzr))⟩
        | false =>
          have HE := Lib.hid (show vastF n d.sub = vastF n (d.sub.drop (j + 1)) by rw [HVD.out, hq]; rfl)
          clear hq
          rintro e w3 ⟨rfl, hb3⟩
          go_wp2_with fail
          exact ⟨⟨j + 1, by omega, rfl, HB2.out.trans (hb3.mono HB2.out.size), HE.out⟩, by simp only [intOf]; omega⟩
    have i1 : (i : Int) < (NT : Int) := by omega
    have hit : i < d.ts.length := by rw [HTS.out]; exact hin
    have HDB := HD.out.bel (HB1.out.mono (Nat.le_of_lt hz))
    obtain ⟨b, off, rfl, hpb, hbs, hc⟩ := HDB.tg.at_ (by omega)
    obtain ⟨Ad, cd, hr, _, _, hml⟩ := hc i hit
    have HX := Lib.hid (take_nextT hit)
    have HMEM := Lib.hid (List.getElem_mem hit)
    clear hc HDB
    generalize d.ts[i] = tg at *
    obtain ⟨tn, tt, tc, td⟩ := tg
    dsimp only at hr HX hml
    have q3 : wr.cell? ⟨b, off + i * 4 + 3, none⟩ = some (.slice Ad td.length cd) := hr 3 _ rfl
    have q4 : wr.cell? ⟨b, off + i * 4 + 1 + 2, none⟩ = some (.slice Ad td.length cd) := q3
    by_cases h6 : 600 < td.length
    · have i6 : decide (600 < (td.length : Int)) = true := decide_eq_true (by omega)
      have HE := Lib.hid (show vastD M d = true by rw [HV.out, (List.any_eq_true (p := fun t : Tg => decide (600 < t.d.length))).2 ⟨_, HMEM.out, decide_eq_true h6⟩]; rfl)
      clear h6 hr
      go_wp2_with fail
      go_ret
      exact ⟨by rw [HE.out]; rfl, HB.out.trans (HB1.out.mono (Nat.le_of_lt hz))⟩
    · have i6 : decide (600 < (td.length : Int)) = false := decide_eq_false (by omega)
      have HE := Lib.hid (show (d.ts.take (i + 1)).any (fun t => decide (600 < t.d.length)) = false by rw [HX.out, List.any_append, HNO.out]; simp; omega)
      clear h6 hr
      go_wp2_with fail
      exact ⟨⟨i + 1, by omega, rfl, HB1.out, HE.out⟩, by simp only [intOf]; omega⟩
end Go.Proofs.Ytkepbobnjplpoaa
