/- The contract of the reference's Dirs. -/
import Derived.Test.YtkepbobnjplpoaaLyE
namespace Go.Proofs.Ytkepbobnjplpoaa
open Go.RowKit
open Go.Tin
set_option linter.unusedVariables false
set_option linter.unusedSimpArgs false


abbrev trow (o : Int) (A : Option Addr) (n c : Nat) : Array Value := #[.int .i64 o, .slice A n c]
theorem rtTf : RT Try.prog 24 2 := RT.of Try.underlying24 rfl (by kernel_rfl)
theorem FoS.bel {B : Nat} {w w' : World} {k : Bool} {A : Option Addr} {f : Fo} (h : FoS w (· < B) k A f) (hb : Below B w w') : FoS w' (· < B) k A f := h.keep (Kp.below hb fun _ _ h => h)
set_option maxRecDepth 100000 in
set_option maxHeartbeats 8000000 in
theorem rdirs_any (B : Nat) (o : Int) (Ad : Option Addr) (cd : Nat) (f : Fo) (w : World) (hf : FoS w (· < B) false Ad f) (hB : B ≤ w.heap.size) (hmax : f.cnt ≤ 100000000) :
    Calls Try.prog 16 #[.agg #[.int .i64 o, .slice Ad f.len cd]] w fun e w' => ∃ A c xs, e = .returned (.slice A f.cnt c) ∧ OwnV 42 3 w' w.heap.size (.slice A f.cnt c) f.cnt xs ∧ DiV w' (· < B) (flatF f) xs ∧ Below w.heap.size w w' := by
  have HF := Lib.hid hf
  have hns : f.len ≤ 100000000 := Nat.le_trans f.len_cnt hmax
  clear hf
  generalize hsub : f.len = NS at *
  have HSUB := Lib.hid hsub
  have hb0 := ba (brefl w) (.cells (trow o Ad NS cd) 24)
  have R1 := Lib.hid (heap_alloc_new w (.cells (trow o Ad NS cd) 24))
  have HB0 := Lib.hid hb0
  have hs1 : (w.alloc (.cells (trow o Ad NS cd) 24)).heap.size = w.heap.size + 1 := by simp
  have HS1 := Lib.hid hs1
  clear hb0 hs1 hsub
  go_enter Try.func16, Try.ntmps16
  go_wp2_with fail
  generalize w.alloc (.cells (trow o Ad NS cd) 24) = w2 at *
  have hs2 : w.heap.size + 1 ≤ w2.heap.size := by have := HS1.out; omega
  go_loopw [3, 4] (fun s3 s4 wr => ∃ (i : Nat) (A : Option Addr) (c : Nat) (xs : List Value), i ≤ NS ∧ s4 = .int .i64 (i : Int) ∧ s3 = .slice A (f.take i).cnt c ∧ OwnV 42 3 wr (w.heap.size + 1) (.slice A (f.take i).cnt c) (f.take i).cnt xs ∧ DiV wr (· < B) (flatF (f.take i)) xs ∧ Below (w.heap.size + 1) w2 wr) (fun _ s4 _ => NS - (intOf s4).toNat)
  case atStart => exact ⟨0, none, 0, [], by omega, rfl, rfl, OwnV.nil_ _ _ _ _, DiV.nil, Below.refl _ _⟩
  case round =>
    obtain ⟨i, A, c, xs, hi, rfl, rfl, ho, hdv, hb⟩ := hrel
    have HO := Lib.hid ho
    have HDV := Lib.hid hdv
    have HB := Lib.hid hb
    have R := Lib.hid ((hb.block _ (by omega)).trans R1.out)
    have q1 := row_cell (v := .slice Ad NS cd) R.out 1 rfl
    have hBr : w.heap.size + 1 ≤ wr.heap.size := Nat.le_trans hs2 hb.size
    clear ho hdv hb
    by_cases hin : i < NS
    case neg =>
      obtain rfl : i = NS := by omega
      have ht : f.take i = f := by have := HSUB.out; rw [← this]; exact Fo.take_all _
      rw [ht] at HO HDV
      go_wp2_with fail
      go_ret
      exact ⟨A, c, xs, by rw [ht]; rfl, HO.out.mono (by omega), HDV.out, HB0.out.trans (HB.out.mono (by omega))⟩
    have i1 : (i : Int) < (NS : Int) := by omega
    have hif : i < f.len := by rw [HSUB.out]; exact hin
    obtain ⟨b, off, rfl, hpb, hbs, hc⟩ := HF.out.at_ (by omega)
    obtain ⟨At', ct', As', cs', Ab', cb', hr0, hdi⟩ := hc i hif
    have hbw : Below B w wr := HB0.out.mono hB |>.trans (HB.out.mono (by omega))
    have HRG := Lib.hid (rng_below hbw hpb hr0)
    have HDI := Lib.hid (hdi.bel hbw)
    have hce := Fo.elem_cnt i f hif
    have htc := take_cnt i f hif
    have htl := take_cnt_le (i + 1) f
    have HFT := Lib.hid (flat_take i f hif)
    clear hc hr0 hdi
    generalize f.elem i = el at *
    obtain ⟨etag, ed⟩ := el
    dsimp only at hce htc HFT
    dsimp only at HRG HDI
    replace HRG := Lib.hid (show wr.rangeAt b (off + i * 3) [.slice At' ed.ts.length ct', .slice As' ed.sub.len cs', .slice Ab' ed.bl.length cb'] from HRG.out)
    go_wp2_with ((with_reducible refine wpl_loadv rtDi ?_ (.tmp 16) ?_ b (off + i * 3) ?_ [.slice At' ed.ts.length ct', .slice As' ed.sub.len cs', .slice Ab' ed.bl.length cb'] ?_ HRG.out ?_); rfl; rfl; rfl; rfl; simp only [Act.put, List.setIfInBounds_toArray, List.set_cons_succ, List.set_cons_zero])
    clear q1
    refine (within_any _ B At' As' Ab' ct' cs' cb' ed _ (Nat.lt_succ_self _) HDI.out (by omega) (by omega)).mono ?_
    rintro e w3 ⟨A3, c3, ys, rfl, ho3, hv3, hb3⟩
    replace HO := Lib.hid (HO.out.keep hb3)
    replace HDV := Lib.hid (HDV.out.bel (hb3.mono (by omega)))
    have HO3 := Lib.hid ho3
    have HV3 := Lib.hid hv3
    replace HB := Lib.hid (HB.out.trans (hb3.mono hBr))
    have hBr3 := Nat.le_trans hBr hb3.size
    clear ho3 hv3 hb3
    generalize hT : (f.take i).cnt = T at *
    generalize hE : ed.sub.cnt = EC at *
    have HTT := Lib.hid hT
    have HTC := Lib.hid htc
    clear hT hE
    go_wp2_with (at_builtin; refine Tin.wplv_app svDi w3 rfl (.tmp 12) (.tmp 18) rfl (w.heap.size + 1) _ T xs rfl HO.out A3 (EC + 1) c3 ys rfl HO3.out.len HO3.out.sl'.2.1 HV3.out.one (by omega) (by omega) hBr3 ?_; intro A4 c4 w4 ho4 hg4 how4; have HO4 := Lib.hid ho4; have HG4 := Lib.hid hg4; clear ho4 hg4 how4)
    have hb4 := grown_below (Below.refl (w.heap.size + 1) w3) HG4.out hBr3 (fun k hk => (World.ownsRow.lt HO.out k hk).1)
    have hv4 := (DiV.app HDV.out HV3.out).bel (hb4.mono (by omega))
    refine ⟨⟨i + 1, A4, c4, xs ++ ys, by omega, rfl, ?_, ?_, ?_, HB.out.trans hb4⟩, by simp only [intOf]; omega⟩
    · rw [HTC.out]
    · rw [HTC.out]; exact HO4.out
    · rw [HFT.out]; exact hv4
end Go.Proofs.Ytkepbobnjplpoaa
