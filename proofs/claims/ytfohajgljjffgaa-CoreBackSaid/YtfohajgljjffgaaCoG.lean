/- The reference's Put. -/
import Derived.Test.YtfohajgljjffgaaCoF
namespace Go.Proofs.Ytfohajgljjffgaa
open Go.RowKit
open Go.Tin
set_option linter.unusedVariables false
set_option linter.unusedSimpArgs false


def PutQ (w : World) (l : List Int) (apps : List Sg) (e : Ending) (w' : World) : Prop := ∃ A c, e = .returned (.tuple #[.slice A (pB l apps).length c, .bool (pOK l apps)]) ∧ Own .u8 5 w' w.heap.size (.slice A (pB l apps).length c) (pB l apps) ∧ Byts (pB l apps) ∧ Below w.heap.size w w'
theorem PutQ.no {w w' : World} {l : List Int} {apps : List Sg} (h : pOK l apps = false) (hb : Below w.heap.size w w') : PutQ w l apps (.returned (.tuple #[.slice none 0 0, .bool false])) w' := by
  obtain ⟨h1, h2⟩ := p_no h
  refine ⟨none, 0, by rw [h1, h]; rfl, ?_, ?_, hb⟩
  · rw [h1]; exact Own.nil_ _ _ _ _
  · rw [h1]; exact fun x hx => (by cases hx)
theorem PutQ.yes {w w' : World} {l : List Int} {apps : List Sg} {A : Option Addr} {c : Nat} (h : pOK l apps = true) (ho : Own .u8 5 w' w.heap.size (.slice A (wrL (putG l apps)).length c) (wrL (putG l apps))) (hy : Byts (wrL (putG l apps))) (hb : Below w.heap.size w w') : PutQ w l apps (.returned (.tuple #[.slice A (wrL (putG l apps)).length c, .bool true])) w' := by
  obtain ⟨h1, h2⟩ := p_yes h
  rw [← h1] at ho hy ⊢
  exact ⟨A, c, by rw [h], ho, hy, hb⟩
set_option maxRecDepth 100000 in
set_option maxHeartbeats 8000000 in
theorem rput_any (A : Option Addr) (l : List Int) (cap : Nat) (Aa : Option Addr) (capa : Nat) (M : List Sg) (w : World) (hs : Sl .u8 w A l) (hcap : l.length ≤ cap) (hl : l.length ≤ 100000) (hby : Byts l) (hm : SegS w Aa M) (hM : M.length ≤ 100000) (hwl : mayB (putG l M) = true → (wrL (putG l M)).length ≤ 900000) :
    Calls Try.prog 21 #[.slice A l.length cap, .slice Aa M.length capa] w fun e w' => PutQ w l M e w' := by
  have HIS := Lib.hid (ris_any A l cap w hs hcap (by omega) hby)
  have HRI := Lib.hid (fun (W : World) (h : Sl .u8 W A l) => rimage_any A l cap W h hcap (by omega) hby)
  have HBY := Lib.hid (img_by hby (show l.length ≤ 1000000 by omega))
  have HOK := Lib.hid (fun h => img_ok hby h)
  have HMS := Lib.hid hm
  have HSL := Lib.hid hs
  have HWL := Lib.hid hwl
  have HP := Lib.hid (show pOK l M = (isB l && (!(M.any notApp) && mayB (putG l M))) from rfl)
  have HI := Lib.hid (show isB l = (imgE l == 0 && !((imgL l).any isApp)) from rfl)
  have HG := Lib.hid (show putG l M = (imgL l).take 1 ++ (M ++ (imgL l).drop 1) from rfl)
  clear hs hby hm hwl
  go_enter Try.func21, Try.ntmps21
  go_wp2_with fail
  refine HIS.out.mono ?_
  rintro e w1 ⟨rfl, hb1⟩
  have HB1 := Lib.hid hb1
  clear hb1 HIS
  cases hi : isB l with
  | false =>
    have HNO := Lib.hid (show pOK l M = false by rw [HP.out, hi]; rfl)
    clear hi
    go_wp2_with fail
    go_ret2
    exact PutQ.no HNO.out HB1.out
  | true =>
  rw [hi] at HP HI
  have h0 : imgE l = 0 := by have := HI.out.symm; rw [Bool.and_eq_true] at this; simpa using this.1
  clear hi HI
  go_wp2_with fail
  refine (some_any Aa capa M false w1 (HMS.out.keep HB1.out) (by omega)).mono ?_
  rintro e w2 ⟨A2, c2, ys, rfl, _, _, hb2⟩
  have HB2 := Lib.hid (HB1.out.trans (hb2.mono HB1.out.size))
  clear hb2
  have HSN := Lib.hid (some_no M)
  obtain ⟨k, hk⟩ : ∃ k, (M.filter (someF false)).length = k := ⟨_, rfl⟩
  rw [hk] at HSN ⊢
  clear hk
  by_cases hk0 : 0 < k
  · have HNO := Lib.hid (show pOK l M = false by rw [HP.out, ← HSN.out, decide_eq_true hk0]; rfl)
    have j0 : (0 : Int) < (k : Int) := by omega
    go_wp2_with fail
    go_ret2
    exact PutQ.no HNO.out HB2.out
  obtain rfl : k = 0 := by omega
  have HP2 := Lib.hid (show pOK l M = mayB (putG l M) by rw [HP.out, ← HSN.out]; simp)
  clear hk0 HP HSN
  go_wp2_with fail
  refine (HRI.out w2 (HSL.out.keep HB2.out)).mono ?_
  rintro e w3 ⟨A3, c3, zs, rfl, ho, hsv, hb3⟩
  have h2L : 2 ≤ (imgL l).length := by
    have h := (HOK.out h0).1
    unfold mayB at h
    rw [Bool.and_eq_true] at h
    exact of_decide_eq_true h.1
  have HS := Lib.hid (SegS.own ho hsv HBY.out.1)
  have hL : (imgL l).length ≤ 100000 := by have := HBY.out.2.1; omega
  have hc3 : (imgL l).length ≤ c3 := ho.sl'.2.2.1
  have HB3 := Lib.hid (HB2.out.trans (hb3.mono HB2.out.size))
  clear ho hsv hb3 HOK HBY HRI
  rw [h0]
  clear h0
  generalize imgL l = L at *
  obtain ⟨b, off, rfl, hlt, hat⟩ := HS.out.at_ (by omega)
  obtain ⟨m1, d1, s1, B1, e1, B2, e2, hx, _, _, _, hrg, hp1, hp2⟩ := hat 0 (by omega)
  have HT1 := Lib.hid (show L.take 1 = [⟨m1, d1, s1⟩] by have := take_nextG hx; simpa using this)
  obtain ⟨rs, hr1, hr2⟩ := HS.out.cutA hc3 1
  obtain ⟨ms, hm1, hm2⟩ := HMS.out.keep HB3.out
  have HE0 := Lib.hid (OwnV.new0 36 3 w3)
  have hb0 := ba (brefl w3) (.cells #[] 36)
  have HZ0 := Lib.hid (show (w3.alloc (.cells #[] 36)).heap.size = w3.heap.size + 1 by simp)
  have hb00 := ba (brefl (w3.alloc (.cells #[] 36))) (.cells #[.int .i64 m1, .slice B1 d1.length e1, .slice B2 s1.length e2] 36)
  have HE1 := Lib.hid (HE0.out.keep hb00)
  have HN1 := Lib.hid (SlV.new_ (w3.alloc (.cells #[] 36)) 36 #[.int .i64 m1, .slice B1 d1.length e1, .slice B2 s1.length e2])
  have HB00 := Lib.hid (hb0.trans (hb00.mono hb0.size))
  have hsz : w3.heap.size ≤ ((w3.alloc (.cells #[] 36)).alloc (.cells #[.int .i64 m1, .slice B1 d1.length e1, .slice B2 s1.length e2] 36)).heap.size := HB00.out.size
  have HSZ := Lib.hid hsz
  have RG := Lib.hid (show (w3.alloc (.cells #[] 36)).rangeAt b off [.int .i64 m1, .slice B1 d1.length e1, .slice B2 s1.length e2] from fun j v hj => by
    have h9 := hrg j v hj
    rw [Nat.zero_mul, Nat.add_zero] at h9
    exact (hb0.cell (p := ⟨b, off + j, none⟩) hlt).trans h9)
  have HM1 := Lib.hid hm1
  have HM2 := Lib.hid hm2
  have HR1 := Lib.hid hr1
  have HR2 := Lib.hid hr2
  have HP1 := Lib.hid hp1
  have HPP2 := Lib.hid hp2
  have HMN := Lib.hid (show ms.length = M.length * 3 from hm2.len)
  have HRN := Lib.hid (show rs.length = (L.length - 1) * 3 by rw [hr2.len, List.length_drop])
  have HMO := Lib.hid (sgv_one hm2)
  have HRO := Lib.hid (sgv_one hr2)
  clear hx hrg hp1 hp2 hat hr1 hr2 hm1 hm2 hb0 hb00 hsz
  go_wp2_with (first | ((with_reducible refine wpl_loadv rtS ?_ (.tmp 25) ?_ b off ?_ [.int .i64 m1, .slice B1 d1.length e1, .slice B2 s1.length e2] ?_ RG.out ?_); rfl; rfl; rfl; rfl; simp only [Act.put, List.setIfInBounds_toArray, List.set_cons_succ, List.set_cons_zero]) | (at_builtin; refine Tin.wplv_app svG _ rfl (.tmp 23) (.tmp 27) rfl w3.heap.size (.slice (some ⟨w3.heap.size, 0, none⟩) 0 0) 0 [] rfl HE1.out (some ⟨(w3.alloc (.cells #[] 36)).heap.size, 0, none⟩) 1 1 [.int .i64 m1, .slice B1 d1.length e1, .slice B2 s1.length e2] (by rw [HZ0.out]; rfl) rfl HN1.out (by simp [Value.oneCell']) (by omega) (by omega) HSZ.out ?_; intro A5 c5 w5 ho5 hg5 hw5; have HO5 := Lib.hid ho5; have HB5 := Lib.hid (HE1.out.grown HB00.out HSZ.out hg5); clear ho5 hg5 hw5) | (at_builtin; refine Tin.wplv_app svG _ rfl (.tmp 28) (.tmp 29) rfl w3.heap.size (.slice A5 1 c5) 1 [.int .i64 m1, .slice B1 d1.length e1, .slice B2 s1.length e2] rfl HO5.out Aa M.length capa ms rfl HMN.out (HM1.out.keep HB5.out) HMO.out (by omega) (by omega) HB5.out.size ?_; intro A6 c6 w6 ho6 hg6 hw6; have HO6 := Lib.hid ho6; have HB6 := Lib.hid (HO5.out.grown HB5.out HB5.out.size hg6); clear ho6 hg6 hw6) | ((with_reducible refine Tin.wpl_cutn (P := Try.prog) (e := 36) (s := 3) Try.underlying27 sz3 ?_ (.tmp 32) (.const (.int .i64 1)) ?_ (some ⟨b, off, none⟩) L.length c3 1 1 ?_ ?_ ?_ ?_ ?_); rfl; rfl; rfl; rfl; rfl; omega; simp only [Act.put, List.setIfInBounds_toArray, List.set_cons_succ, List.set_cons_zero]) | (at_builtin; refine Tin.wplv_app svG _ rfl (.tmp 31) (.tmp 33) rfl w3.heap.size (.slice A6 (1 + M.length) c6) (1 + M.length) _ rfl HO6.out (cutA (some ⟨b, off, none⟩) c3 1 3) (L.length - 1) (c3 - 1) rs rfl HRN.out (HR1.out.keep HB6.out) HRO.out (by omega) (by omega) HB6.out.size ?_; intro A7 c7 w7 ho7 hg7 hw7; have HO7 := Lib.hid ho7; have HB7 := Lib.hid (HO6.out.grown HB6.out HB6.out.size hg7); clear ho7 hg7 hw7))
  have HB47 := Lib.hid (HB3.out.trans (HB7.out.mono HB3.out.size))
  have hpl : (putG l M).length = 1 + M.length + (L.length - 1) := by rw [HG.out, HT1.out]; simp only [List.length_append, List.length_cons, List.length_nil, List.length_drop]; omega
  have HSG := Lib.hid (show SegS w7 A7 (putG l M) by
    refine ⟨_, HO7.out.sl'.2.1, ?_⟩
    rw [HG.out, HT1.out, ← List.append_assoc]
    exact ((SgV.one (HP1.out.keep HB7.out) (HPP2.out.keep HB7.out)).app (SgV.mono (fun _ _ h => h.keep HB7.out) HM2.out)).app (SgV.mono (fun _ _ h => h.keep HB7.out) HR2.out))
  rw [← hpl]
  have hpn : (putG l M).length ≤ 1000000 := by rw [hpl]; omega
  clear hpl HG
  refine (rgmay_any A7 c7 (putG l M) w7 HSG.out hpn).mono ?_
  rintro e w8 ⟨rfl, hb8⟩
  have HB8 := Lib.hid (HB47.out.trans (hb8.mono HB47.out.size))
  have HSG8 := Lib.hid (HSG.out.keep hb8)
  clear hb8
  cases hmm : mayB (putG l M) with
  | false =>
    have HNO := Lib.hid (show pOK l M = false by rw [HP2.out, hmm])
    clear hmm
    go_wp2_with fail
    go_ret2
    exact PutQ.no HNO.out HB8.out
  | true =>
    have HYES := Lib.hid (show pOK l M = true by rw [HP2.out, hmm])
    have HMM := Lib.hid hmm
    clear hmm
    go_wp2_with fail
    refine (rwrite_any A7 c7 (putG l M) w8 HSG8.out hpn HMM.out (HWL.out HMM.out)).mono ?_
    rintro e w9 ⟨A9, c9, rfl, ho9, hy9, hb9⟩
    go_wp2_with fail
    go_ret2
    exact PutQ.yes HYES.out (ho9.mono HB8.out.size) hy9 (HB8.out.trans (hb9.mono HB8.out.size))
end Go.Proofs.Ytfohajgljjffgaa
