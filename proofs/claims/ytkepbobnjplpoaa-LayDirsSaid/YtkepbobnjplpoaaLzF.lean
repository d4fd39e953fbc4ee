/- The contract of huge. -/
import Derived.Test.YtkepbobnjplpoaaLzE
namespace Go.Proofs.Ytkepbobnjplpoaa
open Go.RowKit
open Go.Tin
set_option linter.unusedVariables false
set_option linter.unusedSimpArgs false


set_option maxRecDepth 100000 in
set_option maxHeartbeats 8000000 in
theorem huge_any (o : Int) (Ad : Option Addr) (cd : Nat) (f : Fo) (w : World) (hf : FoS w (· < w.heap.size) false Ad f) (hN : f.len ≤ maxLen) :
    Calls Try.prog 7 #[.agg #[.int .i64 o, .slice Ad f.len cd]] w fun e w' => e = .returned (.bool (hugeF f)) ∧ Below w.heap.size w w' := by
  have hm : f.len ≤ 9223372036854775807 := Nat.le_trans hN (by decide)
  have hb := ba (brefl w) (.cells (trow o Ad f.len cd) 24)
  have R1 := Lib.hid (heap_alloc_new w (.cells (trow o Ad f.len cd) 24))
  have HF := Lib.hid (hf.bel hb)
  have HB := Lib.hid hb
  have hz : w.heap.size < (w.alloc (.cells (trow o Ad f.len cd) 24)).heap.size := by simp
  have HV := Lib.hid (show hugeF f = (vastF 8 f || (decide (6 < f.len) || decide (40 < f.cnt))) from rfl)
  clear hb hf
  generalize hsub : f.len = NS at *
  have HSUB := Lib.hid hsub
  clear hsub
  go_enter Try.func7, Try.ntmps7
  go_wp2_with fail
  have HW1 := Lib.hid (show w.alloc (.cells (trow o Ad NS cd) 24) = w.alloc (.cells #[.int .i64 o, .slice Ad NS cd] 24) from rfl)
  generalize w.alloc (.cells #[.int .i64 o, .slice Ad NS cd] 24) = w1 at *
  rw [HW1.out] at R1 HF HB hz
  clear HW1
  go_loopw [3] (fun s3 wr => ∃ (i : Nat), i ≤ NS ∧ s3 = .int .i64 (i : Int) ∧ Below w1.heap.size w1 wr ∧ vastF 8 f = vastF 8 (f.drop i)) (fun s3 _ => NS - (intOf s3).toNat)
  case atStart => exact ⟨0, by omega, rfl, Below.refl _ _, rfl⟩
  case round =>
    obtain ⟨i, hi, rfl, hb, hvd⟩ := hrel
    have HB1 := Lib.hid hb
    have HVD := Lib.hid hvd
    have R1r := Lib.hid ((hb.block _ (row_lt R1.out)).trans R1.out)
    have hzr := Nat.lt_of_lt_of_le hz hb.size
    have q1 := row_cell (v := .slice Ad NS cd) R1r.out 1 rfl
    clear hb hvd
    by_cases hin : i < NS
    case neg =>
      obtain rfl : i = NS := by omega
      have hv8 : vastF 8 f = false := by rw [HVD.out, Fo.drop_all (by rw [HSUB.out]; exact Nat.le_refl _)]; rfl
      replace HV := Lib.hid (show hugeF f = (decide (6 < i) || decide (40 < f.cnt)) by rw [HV.out, hv8]; rfl)
      have hcn := vastF_cnt f 8 hv8
      rw [HSUB.out, show cbN 8 = 335923 from rfl] at hcn
      replace HB := Lib.hid (HB.out.trans (HB1.out.mono (Nat.le_of_lt hz)))
      clear hv8 HVD
      by_cases h6 : 6 < i
      · have i6 : decide (6 < (i : Int)) = true := decide_eq_true (by omega)
        have HT := Lib.hid (show hugeF f = true by rw [HV.out, decide_eq_true h6]; rfl)
        clear h6 hcn
        go_wp2_with fail
        go_ret
        exact ⟨by rw [HT.out]; rfl, HB.out⟩
      have i6 : decide (6 < (i : Int)) = false := decide_eq_false (by omega)
      have HT := Lib.hid (show hugeF f = decide (40 < f.cnt) by rw [HV.out, decide_eq_false h6]; rfl)
      have HDI := Lib.hid (rdirs_any w.heap.size o Ad cd f wr (HF.out.bel (HB1.out.mono (Nat.le_of_lt hz))) (Nat.le_of_lt hzr) (by omega))
      rw [HSUB.out] at HDI
      clear h6 hcn HV
      go_wp2_with ((with_reducible refine wpl_load_row rtTf ?_ (.tmp 1) ?_ (w.heap.size) ?_ 24 (trow o Ad i cd) ?_ R1r.out ?_); rfl; rfl; rfl; rfl; simp only [Act.put, List.setIfInBounds_toArray, List.set_cons_succ, List.set_cons_zero])
      refine HDI.out.mono ?_
      clear HDI q1
      rintro e w2 ⟨A2, c2, xs, rfl, _, _, hb2⟩
      have HE := Lib.hid (show decide (40 < f.cnt) = decide (40 < (f.cnt : Int)) by apply decide_eq_decide.2; omega)
      go_wp2_with fail
      go_ret
      exact ⟨by rw [HT.out, HE.out]; rfl, HB.out.trans (hb2.mono (Nat.le_of_lt hzr))⟩
    have j1 : (i : Int) < (NS : Int) := by omega
    have j2 : (i : Int) < 9223372036854775807 := by omega
    have hif : i < f.len := by rw [HSUB.out]; exact hin
    obtain ⟨b, off, rfl, hpb, hbs, hc⟩ := (HF.out.bel (HB1.out.mono (Nat.le_of_lt hz))).at_ (by omega)
    obtain ⟨At', ct', As', cs', Ab', cb', hr0, hdi⟩ := hc i hif
    have hd1 := Fo.drop_at i f hif
    rw [hd1, vastF_one] at HVD
    clear hc hd1
    generalize f.elem i = el at *
    obtain ⟨etag, ed⟩ := el
    dsimp only at hr0 hdi HVD
    have HRG := Lib.hid (show wr.rangeAt b (off + i * 3) [.slice At' ed.ts.length ct', .slice As' ed.sub.len cs', .slice Ab' ed.bl.length cb'] from hr0)
    have HCA := Lib.hid (vast_any 8 At' As' Ab' ct' cs' cb' ed wr (Nat.le_refl _) (hdi.mono (fun b _ h => Nat.lt_trans h hzr)) hdi.nt)
    clear hr0 hdi
    go_wp2_with ((with_reducible refine wpl_loadv rtDi ?_ (.tmp 14) ?_ b (off + i * 3) ?_ [.slice At' ed.ts.length ct', .slice As' ed.sub.len cs', .slice Ab' ed.bl.length cb'] ?_ HRG.out ?_); rfl; rfl; rfl; rfl; simp only [Act.put, List.setIfInBounds_toArray, List.set_cons_succ, List.set_cons_zero])
    refine HCA.out.mono ?_
    clear HCA q1
    cases hq : vastD 8 ed with
    | true =>
      have HE := Lib.hid (show hugeF f = true by rw [HV.out, HVD.out, hq]; rfl)
      clear hq
      rintro e w3 ⟨rfl, hb3⟩
      go_wp2_with fail
      go_ret
      exact ⟨by rw [HE.out]; rfl, HB.out.trans ((HB1.out.trans (hb3.mono HB1.out.size)).mono (Nat.le_of_lt hz))⟩
    | false =>
      have HE := Lib.hid (show vastF 8 f = vastF 8 (f.drop (i + 1)) by rw [HVD.out, hq]; rfl)
      clear hq
      rintro e w3 ⟨rfl, hb3⟩
      go_wp2_with fail
      exact ⟨⟨i + 1, by omega, rfl, HB1.out.trans (hb3.mono HB1.out.size), HE.out⟩, by simp only [intOf]; omega⟩
end Go.Proofs.Ytkepbobnjplpoaa
