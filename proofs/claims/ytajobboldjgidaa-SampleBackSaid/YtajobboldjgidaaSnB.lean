/- SampleBack: the walk. -/
import Derived.Test.YtajobboldjgidaaSnA
import Derived.Test.YtajobboldjgidaaSmZ
namespace Go.Proofs.Ytajobboldjgidaa
open Go.RowKit
open Go.Tin
set_option linter.unusedVariables false
set_option linter.unusedSimpArgs false


theorem and_three (n : Int) : bits .and .i64 n 3 = n % 4 := by
  have h1 : (BitVec.ofInt 64 3).toNat = 2 ^ 2 - 1 := by decide
  have key : (BitVec.ofInt 64 n &&& BitVec.ofInt 64 3).toNat = (n % ((2 ^ 64 : Nat) : Int)).toNat % 2 ^ 2 := by
    rw [BitVec.toNat_and, BitVec.toNat_ofInt, h1, Nat.and_two_pow_sub_one_eq_mod]
  show IntKind.i64.wrap ((BitVec.ofInt 64 n &&& BitVec.ofInt 64 3).toNat : Nat) = n % 4
  rw [key, IntKind.wrap_i64]
  omega
theorem fit0 {n h : Nat} (hn : 1 ≤ n ∧ n ≤ 4096) (hh : 1 ≤ h ∧ h ≤ 2) : n ≤ 8 * (ptN n (8 * h) * h) ∧ 8 * ((ptN n (8 * h) - 1) * h) < n ∧ 1 ≤ ptN n (8 * h) ∧ ptN n (8 * h) ≤ 512 ∧ ptN n h ≤ 8 * ptN n (8 * h) := by
  unfold ptN
  have e : h = 1 ∨ h = 2 := by omega
  rcases e with rfl | rfl <;> refine ⟨?_, ?_, ?_, ?_, ?_⟩ <;> omega
theorem pl_at {w : World} {A : Option Addr} {l : List Int} {wd ht h s : Nat} (hp : PlS w A (plL l wd ht h s 3)) :
    ∃ b off, A = some ⟨b, off, none⟩ ∧ b < w.heap.size ∧ ∀ i, i < 3 → ∃ Ai ci, w.rangeAt b (off + i * 3) [.int .i64 (plO l wd ht h s i).W, .int .i64 (plO l wd ht h s i).H, .slice Ai (plO l wd ht h s i).v.length ci] ∧ Sl .i64 w Ai (plO l wd ht h s i).v := by
  obtain ⟨b, off, rfl, hb, hc⟩ := hp.at_ (by rw [plL_len]; decide)
  refine ⟨b, off, rfl, hb, fun i hi => ?_⟩
  obtain ⟨x, y, d, A1, c1, hx, _, _, _, hr, hpt⟩ := hc i (by rw [plL_len]; exact hi)
  have e : plO l wd ht h s i = ⟨x, y, d⟩ := by
    have : i = 0 ∨ i = 1 ∨ i = 2 := by omega
    rcases this with rfl | rfl | rfl <;> exact Option.some.inj hx
  rw [e]
  exact ⟨A1, c1, hr, hpt.sl.2.1⟩
set_option maxRecDepth 100000 in
set_option maxHeartbeats 16000000 in
theorem sback_any (W H : Int) (A : Option Addr) (len c : Nat) (z0 : List Int) (k more : Int) (w : World) (wW : (Lit.int .i64 W).wf = true) (wH : (Lit.int .i64 H).wf = true) (hr : IsRow .u8 w A len c z0) (wk : (Lit.int .i64 k).wf = true) (wm : (Lit.int .i64 more).wf = true) :
    Calls Try.prog 7 #[.agg #[.int .i64 W, .int .i64 H, .slice A len c], .int .i64 k, .int .i64 more] w fun e w' => e = .returned (.bool true) ∧ Below w.heap.size w w' := by
  obtain ⟨hs, hlen, hlc, hcm, hwf⟩ := Sl.of_row hr
  have hby := byts_of hwf
  generalize z0.take len = l at *
  subst hlen
  clear hwf hr wW wH wk
  unfold maxLen at hcm
  have m64 := wf64 wm
  clear wm
  obtain ⟨r0, hb0, hz0⟩ := alloc1 w (.cells (rsrow W H A l.length c) 44)
  have HV := Lib.hid (hs.keep hb0)
  have HBY := Lib.hid hby
  have R3 := Lib.hid r0
  have HB := Lib.hid hb0
  clear hs r0 hb0 hz0 hby
  have k2 := row_cell (v := .slice A l.length c) R3.out 2 rfl
  by_cases h2 : 2000 < l.length
  · have i3 : (2000 : Int) < (l.length : Int) := by omega
    go_enter Try.func7, Try.ntmps7
    go_wp2_with fail
    refine (awake_any _).mono ?_
    rintro e w9 ⟨rfl, hb9⟩
    go_wp2_with fail
    go_ret
    exact ⟨rfl, HB.out.trans (hb9.mono HB.out.size)⟩
  have i3 : (l.length : Int) ≤ 2000 := by omega
  clear h2
  go_enter Try.func7, Try.ntmps7
  go_wp2_with ((with_reducible refine wpl_load_row rtR ?_ (.tmp 3) ?_ (w.heap.size) ?_ 44 (rsrow W H A l.length c) ?_ R3.out ?_); rfl; rfl; rfl; rfl; simp only [Act.put, List.setIfInBounds_toArray, List.set_cons_succ, List.set_cons_zero])
  generalize (w.alloc (.cells (rsrow W H A l.length c) 44)) = w0 at *
  clear k2
  refine (may_any W H A l.length c w0).mono ?_
  rintro e x1 ⟨rfl, hb⟩
  replace R3 := Lib.hid ((hb.block _ (row_lt R3.out)).trans R3.out)
  replace HV := Lib.hid (HV.out.keep hb)
  replace HB := Lib.hid (HB.out.trans (hb.mono HB.out.size))
  clear hb
  cases hmb : mayB W H l.length with
  | false =>
    go_wp2_with fail
    refine (awake_any _).mono ?_
    rintro e x2 ⟨rfl, hb⟩
    replace R3 := Lib.hid ((hb.block _ (row_lt R3.out)).trans R3.out)
    replace HV := Lib.hid (HV.out.keep hb)
    replace HB := Lib.hid (HB.out.trans (hb.mono HB.out.size))
    clear hb
    go_wp2_with fail
    go_ret
    exact ⟨rfl, HB.out⟩
  | true =>
  obtain ⟨⟨W0a, W0b⟩, ⟨H0a, H0b⟩, hn3⟩ := mayB_t hmb
  obtain ⟨wd, rfl⟩ : ∃ n : Nat, W = (n : Int) := ⟨W.toNat, by omega⟩
  obtain ⟨ht, rfl⟩ : ∃ n : Nat, H = (n : Int) := ⟨H.toNat, by omega⟩
  have HMB := Lib.hid hmb
  have HN3 := Lib.hid hn3
  clear hmb hn3
  have hu0 : ∀ k, okU k (wd : Int) (ht : Int) = okK k := fun k => by unfold okU okS; rw [decide_eq_true W0a, decide_eq_true W0b, decide_eq_true H0a, decide_eq_true H0b]; simp
  have HU0 := Lib.hid hu0
  clear hu0
  go_wp2_with ((with_reducible refine wpl_load_row rtR ?_ (.tmp 3) ?_ (w.heap.size) ?_ 44 (rsrow (wd : Int) (ht : Int) A l.length c) ?_ R3.out ?_); rfl; rfl; rfl; rfl; simp only [Act.put, List.setIfInBounds_toArray, List.set_cons_succ, List.set_cons_zero])
  obtain ⟨mo, hmo⟩ : ∃ mo : Nat, more % 4 = (mo : Int) := ⟨(more % 4).toNat, by omega⟩
  have hmo3 : mo ≤ 3 := by omega
  rw [and_three, hmo]
  clear hmo m64
  cases hk : okK k with
  | false =>
    refine (planes_no k (wd : Int) (ht : Int) A l.length c _ (by rw [hk]; rfl)).mono ?_
    rintro e x2 ⟨rfl, hb⟩
    replace R3 := Lib.hid ((hb.block _ (row_lt R3.out)).trans R3.out)
    replace HV := Lib.hid (HV.out.keep hb)
    replace HB := Lib.hid (HB.out.trans (hb.mono HB.out.size))
    clear hb
    go_wp2_with fail
    refine (factors_any k _).mono ?_
    rintro e x3 ⟨rfl, hb⟩
    replace R3 := Lib.hid ((hb.block _ (row_lt R3.out)).trans R3.out)
    replace HV := Lib.hid (HV.out.keep hb)
    replace HB := Lib.hid (HB.out.trans (hb.mono HB.out.size))
    clear hb
    rw [hk]
    have k0 := row_cell (v := .int .i64 (wd : Int)) R3.out 0 rfl
    have k1 := row_cell (v := .int .i64 (ht : Int)) R3.out 1 rfl
    go_wp2_with fail
    clear k0 k1
    refine (units_no k (wd : Int) (ht : Int) _ (by rw [HU0.out, hk])).mono ?_
    rintro e x4 ⟨rfl, hb⟩
    replace R3 := Lib.hid ((hb.block _ (row_lt R3.out)).trans R3.out)
    replace HV := Lib.hid (HV.out.keep hb)
    replace HB := Lib.hid (HB.out.trans (hb.mono HB.out.size))
    clear hb
    go_wp2_with fail
    refine (awake_any _).mono ?_
    rintro e x5 ⟨rfl, hb⟩
    replace R3 := Lib.hid ((hb.block _ (row_lt R3.out)).trans R3.out)
    replace HV := Lib.hid (HV.out.keep hb)
    replace HB := Lib.hid (HB.out.trans (hb.mono HB.out.size))
    clear hb
    go_wp2_with fail
    go_ret
    exact ⟨rfl, HB.out⟩
  | true =>
  obtain ⟨⟨x0, x1⟩, y0, y1⟩ := fHV_bd hk
  obtain ⟨h, hfx⟩ : ∃ n : Nat, fH k = (n : Int) := ⟨(fH k).toNat, by omega⟩
  obtain ⟨s, hfy⟩ : ∃ n : Nat, fV k = (n : Int) := ⟨(fV k).toNat, by omega⟩
  have h1 : 1 ≤ h ∧ h ≤ 2 := by omega
  have s1 : 1 ≤ s ∧ s ≤ 2 := by omega
  have hw : 1 ≤ wd ∧ wd ≤ 4096 := by omega
  have hh : 1 ≤ ht ∧ ht ≤ 4096 := by omega
  have HUW := Lib.hid (show ptV (wd : Int) (8 * fH k) = ((ptN wd (8 * h) : Nat) : Int) by rw [hfx, show 8 * (h : Int) = ((8 * h : Nat) : Int) by push_cast; rfl]; exact ptV_N (by omega))
  have HUH := Lib.hid (show ptV (ht : Int) (8 * fV k) = ((ptN ht (8 * s) : Nat) : Int) by rw [hfy, show 8 * (s : Int) = ((8 * s : Nat) : Int) by push_cast; rfl]; exact ptV_N (by omega))
  have HOKP := Lib.hid (okPt_pl l hk hfx hfy hw hh)
  have HFX := Lib.hid hfx
  have HFY := Lib.hid hfy
  have HK := Lib.hid hk
  have HPL := Lib.hid (pl_short2 (l := l) (wd := wd) (ht := ht) (h := h) (s := s) hw.2 hh.2 h1 s1)
  have hl2 : l.length = 3 * (wd * ht) := by have := HN3.out; rw [show (3 * (wd : Int) * (ht : Int)) = ((3 * (wd * ht) : Nat) : Int) by rw [Int.natCast_mul, Int.natCast_mul, Int.mul_assoc]; rfl] at this; omega
  have hwl : wd ≤ 666 := by have := Nat.mul_le_mul_left wd hh.1; omega
  have hhl : ht ≤ 666 := by have := Nat.mul_le_mul_right ht hw.1; omega
  obtain ⟨fw1, fw2, fw3, fw4, fw5⟩ := fit0 hw h1
  obtain ⟨fh1, fh2, fh3, fh4, fh5⟩ := fit0 hh s1
  have HL2 := Lib.hid hl2
  clear hl2
  refine (planes_yes k wd ht h s l A c _ HV.out hlc HBY.out (by omega) hk HMB.out hfx hfy).mono ?_
  rintro e x2 ⟨A7, c7, xs7, rfl, hx2_0, hx2_1, hb⟩
  replace R3 := Lib.hid ((hb.block _ (row_lt R3.out)).trans R3.out)
  replace HV := Lib.hid (HV.out.keep hb)
  replace HB := Lib.hid (HB.out.trans (hb.mono HB.out.size))
  have HO7 := Lib.hid hx2_0
  have HN7 := Lib.hid hx2_1
  clear hx2_0 hx2_1 hb
  have hc7 : 3 ≤ c7 := HO7.out.sl'.2.2.1
  have HP := Lib.hid (PlS.own HO7.out HN7.out HPL.out)
  clear HO7 HN7 hfx hfy hk x0 x1 y0 y1
  go_wp2_with fail
  refine (factors_any k _).mono ?_
  rintro e x3 ⟨rfl, hb⟩
  replace R3 := Lib.hid ((hb.block _ (row_lt R3.out)).trans R3.out)
  replace HV := Lib.hid (HV.out.keep hb)
  replace HP := Lib.hid (HP.out.keep hb)
  replace HB := Lib.hid (HB.out.trans (hb.mono HB.out.size))
  clear hb
  rw [HK.out, HFX.out, HFY.out]
  have k0 := row_cell (v := .int .i64 (wd : Int)) R3.out 0 rfl
  have k1 := row_cell (v := .int .i64 (ht : Int)) R3.out 1 rfl
  go_wp2_with fail
  clear k0 k1
  refine (units_yes k (wd : Int) (ht : Int) _ (by rw [HU0.out, HK.out])).mono ?_
  rintro e x4 ⟨rfl, hb⟩
  replace R3 := Lib.hid ((hb.block _ (row_lt R3.out)).trans R3.out)
  replace HV := Lib.hid (HV.out.keep hb)
  replace HP := Lib.hid (HP.out.keep hb)
  replace HB := Lib.hid (HB.out.trans (hb.mono HB.out.size))
  clear hb
  rw [HUW.out, HUH.out]
  generalize ha : ptN wd (8 * h) = a at *
  generalize hd : ptN ht (8 * s) = d at *
  have HA := Lib.hid ha
  have HD := Lib.hid hd
  clear ha hd
  obtain ⟨ah, hah⟩ : ∃ x, a * h = x := ⟨_, rfl⟩
  obtain ⟨ds, hds⟩ : ∃ x, d * s = x := ⟨_, rfl⟩
  obtain ⟨ah1, hah1⟩ : ∃ x, (a - 1) * h = x := ⟨_, rfl⟩
  obtain ⟨ds1, hds1⟩ : ∃ x, (d - 1) * s = x := ⟨_, rfl⟩
  have r1 : ah ≤ ah1 + 2 := by rw [← hah, ← hah1, Nat.sub_mul, Nat.one_mul]; omega
  have r2 : ds ≤ ds1 + 2 := by rw [← hds, ← hds1, Nat.sub_mul, Nat.one_mul]; omega
  have bpw := ptN_bd hw h1
  have bph := ptN_bd hh s1
  have r3 : a ≤ ah := by rw [← hah]; exact Nat.le_mul_of_pos_right a h1.1
  have r4 : d ≤ ds := by rw [← hds]; exact Nat.le_mul_of_pos_right d s1.1
  rw [hah] at fw1
  rw [hah1] at fw2
  rw [hds] at fh1
  rw [hds1] at fh2
  have HEA := Lib.hid (show (a : Int) * (h : Int) = (ah : Int) by rw [← hah]; exact (Int.natCast_mul a h).symm)
  have HED := Lib.hid (show (d : Int) * (s : Int) = (ds : Int) by rw [← hds]; exact (Int.natCast_mul d s).symm)
  have HEA1 := Lib.hid (show ((a : Int) - 1) * (h : Int) = (ah1 : Int) by rw [← hah1, Int.natCast_mul]; congr 1; omega)
  have HED1 := Lib.hid (show ((d : Int) - 1) * (s : Int) = (ds1 : Int) by rw [← hds1, Int.natCast_mul]; congr 1; omega)
  clear hah hds hah1 hds1
  go_wp2_with fail
  obtain ⟨bp, op, rfl, hbp, hpl⟩ := pl_at HP.out
  have HPA := Lib.hid hpl
  clear hpl
  obtain ⟨q0, rfl⟩ : ∃ q0, q0 = x4 := ⟨_, rfl⟩
  go_loopw [15] (fun s15 wr => ∃ (j : Nat), j ≤ 3 ∧ s15 = .int .i64 (j : Int) ∧ Below q0.heap.size q0 wr) (fun s15 _ => 3 - (intOf s15).toNat)
  case atStart => exact ⟨0, by omega, rfl, Below.refl _ _⟩
  case round =>
    obtain ⟨j, hj, rfl, hbj⟩ := hrel
    have HBJ := Lib.hid hbj
    clear hbj
    by_cases hj3 : j < 3
    case neg =>
      obtain rfl : j = 3 := by omega
      rw [show ((3 : Nat) : Int) = 3 from rfl]
      replace R3 := Lib.hid ((HBJ.out.block _ (row_lt R3.out)).trans R3.out)
      replace HV := Lib.hid (HV.out.keep HBJ.out)
      replace HP := Lib.hid (HP.out.keep HBJ.out)
      replace HB := Lib.hid (HB.out.trans (HBJ.out.mono HB.out.size))
      have hbpw : bp < wr.heap.size := Nat.lt_of_lt_of_le hbp HBJ.out.size
      obtain ⟨A0, c0, hr0, hs0⟩ := HPA.out 0 (by decide)
      rw [show plO l wd ht h s 0 = ⟨(wd : Int), (ht : Int), grid (pcV l wd 0) wd ht⟩ from rfl] at hr0 hs0
      dsimp only at hr0 hs0
      rw [Nat.zero_mul, Nat.add_zero] at hr0
      obtain ⟨M, hM⟩ : ∃ M, (grid (pcV l wd 0) wd ht).length = M := ⟨_, rfl⟩
      rw [hM] at hr0
      have hMb : (grid (pcV l wd 0) wd ht).length ≤ 1000000000 := by rw [grid_len]; have := Nat.mul_le_mul hw.2 hh.2; omega
      have HMB2 := Lib.hid hMb
      have HM := Lib.hid hM
      have HR0 := Lib.hid (rng_keep HBJ.out hbp hr0)
      have HS0 := Lib.hid (hs0.keep HBJ.out)
      clear hM hr0 hs0 HPA hMb HBJ
      have SWR := Lib.hid (brefl wr)
      have SWR_le_HB := HB.out.size
      have HR1 := HR0
      have eA := HEA1.out
      have eD := HED.out
      go_wp2_with ((with_reducible refine wpl_loadv rtP ?_ (.tmp 214) ?_ bp op ?_ [.int .i64 (wd : Nat), .int .i64 (ht : Nat), .slice A0 M c0] ?_ HR1.out ?_); rfl; rfl; rfl; rfl; simp only [Act.put, List.setIfInBounds_toArray, List.set_cons_succ, List.set_cons_zero])
      clear HR1 eA eD
      have hbn := blocks_no (wd : Int) (ht : Int) (ah1 : Int) (ds : Int) A0 c0 (grid (pcV l wd 0) wd ht) wr (HS0.out.keep SWR.out) HMB2.out (show (mayP _ _ _ && ((okF _ && okF _) && (decide ((wd : Int) ≤ 8 * (ah1 : Int)) && decide _))) = false by rw [decide_eq_false (show ¬ (wd : Int) ≤ 8 * (ah1 : Int) by omega)]; simp)
      rw [HM.out] at hbn
      have HBN := Lib.hid hbn
      clear hbn
      refine (HBN.out).mono ?_
      rintro e e1 ⟨rfl, hb⟩
      replace R3 := Lib.hid ((hb.block _ (row_lt R3.out)).trans R3.out)
      replace HV := Lib.hid (HV.out.keep hb)
      replace HP := Lib.hid (HP.out.keep hb)
      replace HB := Lib.hid (HB.out.trans (hb.mono HB.out.size))
      replace SWR := Lib.hid (SWR.out.trans (hb.mono SWR.out.size))
      clear hb
      clear HBN
      have HR1 := Lib.hid (rng_keep SWR.out hbpw HR0.out)
      have eA := HEA.out
      have eD := HED1.out
      go_wp2_with ((with_reducible refine wpl_loadv rtP ?_ (.tmp 228) ?_ bp op ?_ [.int .i64 (wd : Nat), .int .i64 (ht : Nat), .slice A0 M c0] ?_ HR1.out ?_); rfl; rfl; rfl; rfl; simp only [Act.put, List.setIfInBounds_toArray, List.set_cons_succ, List.set_cons_zero])
      clear HR1 eA eD
      have hbn := blocks_no (wd : Int) (ht : Int) (ah : Int) (ds1 : Int) A0 c0 (grid (pcV l wd 0) wd ht) e1 (HS0.out.keep SWR.out) HMB2.out (show (mayP _ _ _ && ((okF _ && okF _) && (decide _ && decide ((ht : Int) ≤ 8 * (ds1 : Int))))) = false by rw [decide_eq_false (show ¬ (ht : Int) ≤ 8 * (ds1 : Int) by omega)]; simp)
      rw [HM.out] at hbn
      have HBN := Lib.hid hbn
      clear hbn
      refine (HBN.out).mono ?_
      rintro e e2 ⟨rfl, hb⟩
      replace R3 := Lib.hid ((hb.block _ (row_lt R3.out)).trans R3.out)
      replace HV := Lib.hid (HV.out.keep hb)
      replace HP := Lib.hid (HP.out.keep hb)
      replace HB := Lib.hid (HB.out.trans (hb.mono HB.out.size))
      replace SWR := Lib.hid (SWR.out.trans (hb.mono SWR.out.size))
      clear hb
      clear HBN
      go_wp2_with fail
      have hpls := HP.out
      rw [show plL l wd ht h s 3 = [plO l wd ht h s 0, plO l wd ht h s 1, plO l wd ht h s 2] from rfl] at hpls
      have HP3 := Lib.hid hpls
      clear hpls
      refine (paint_yes k wd ht (grid (pcV l wd 0) wd ht) (plO l wd ht h s 1) (plO l wd ht h s 2) _ c7 _ HP3.out hc7 HOKP.out).mono ?_
      rintro e e3 ⟨A27, c27, rfl, he3_0, hb⟩
      replace R3 := Lib.hid ((hb.block _ (row_lt R3.out)).trans R3.out)
      replace HV := Lib.hid (HV.out.keep hb)
      replace HP := Lib.hid (HP.out.keep hb)
      replace HB := Lib.hid (HB.out.trans (hb.mono HB.out.size))
      replace SWR := Lib.hid (SWR.out.trans (hb.mono SWR.out.size))
      have HO27 := Lib.hid he3_0
      clear he3_0 hb
      rw [← HL2.out] at HO27
      try rw [← HL2.out]
      clear HP3
      have hb := ba (brefl e3) (.cells (rsrow (wd : Int) (ht : Int) A27 l.length c27) 44)
      have R27 := Lib.hid (heap_alloc_new e3 (.cells (rsrow (wd : Int) (ht : Int) A27 l.length c27) 44))
      replace R3 := Lib.hid ((hb.block _ (row_lt R3.out)).trans R3.out)
      replace HV := Lib.hid (HV.out.keep hb)
      replace HP := Lib.hid (HP.out.keep hb)
      replace HO27 := Lib.hid (HO27.out.keep hb)
      replace HB := Lib.hid (HB.out.trans (hb.mono HB.out.size))
      replace SWR := Lib.hid (SWR.out.trans (hb.mono SWR.out.size))
      clear hb
      have k0 := row_cell (v := .int .i64 (wd : Int)) R3.out 0 rfl
      have k1 := row_cell (v := .int .i64 (ht : Int)) R3.out 1 rfl
      have k2 := row_cell (v := .slice A l.length c) R3.out 2 rfl
      have m0 := row_cell (v := .int .i64 (wd : Int)) R27.out 0 rfl
      have m1 := row_cell (v := .int .i64 (ht : Int)) R27.out 1 rfl
      have m2 := row_cell (v := .slice A27 l.length c27) R27.out 2 rfl
      go_wp2_with fail
      clear k0 k1 k2 m0 m1 m2
      generalize (e3.alloc (.cells (rsrow (wd : Int) (ht : Int) A27 l.length c27) 44)) = e0 at *
      obtain ⟨G27, hG27⟩ : ∃ G, G = e3.heap.size := ⟨_, rfl⟩
      rw [← hG27] at R27 ⊢
      clear hG27
      have hnr : k = 1 → ∀ m, m < 3 * (wd * ht) → (0 ≤ nth (gridT (pixV (wd : Int) (ht : Int) (grid (pcV l wd 0) wd ht) (plO l wd ht h s 1).W (plO l wd ht h s 1).H (plO l wd ht h s 1).v (plO l wd ht h s 2).v (fH k) (fV k)) wd ht) m ∧ nth (gridT (pixV (wd : Int) (ht : Int) (grid (pcV l wd 0) wd ht) (plO l wd ht h s 1).W (plO l wd ht h s 1).H (plO l wd ht h s 1).v (plO l wd ht h s 2).v (fH k) (fV k)) wd ht) m ≤ 255) ∧ nth (gridT (pixV (wd : Int) (ht : Int) (grid (pcV l wd 0) wd ht) (plO l wd ht h s 1).W (plO l wd ht h s 1).H (plO l wd ht h s 1).v (plO l wd ht h s 2).v (fH k) (fV k)) wd ht) m - nth l m ≤ 1 ∧ nth l m - nth (gridT (pixV (wd : Int) (ht : Int) (grid (pcV l wd 0) wd ht) (plO l wd ht h s 1).W (plO l wd ht h s 1).H (plO l wd ht h s 1).v (plO l wd ht h s 2).v (fH k) (fV k)) wd ht) m ≤ 1 := by
        intro hk1 m hm
        have f1 : fH k = 1 := by rw [hk1]; rfl
        have f2 : fV k = 1 := by rw [hk1]; rfl
        have e1 : h = 1 := by have := HFX.out; omega
        have e2 : s = 1 := by have := HFY.out; omega
        rw [f1, f2, e1, e2]
        exact back_near HBY.out hm
      have HLB := Lib.hid (fun m => HBY.out m)
      have HLN := Lib.hid HO27.out.sl'.1
      generalize gridT (pixV (wd : Int) (ht : Int) (grid (pcV l wd 0) wd ht) (plO l wd ht h s 1).W (plO l wd ht h s 1).H (plO l wd ht h s 1).v (plO l wd ht h s 2).v (fH k) (fV k)) wd ht = G at *
      rw [← HL2.out] at hnr
      have HNR := Lib.hid hnr
      have HSG := Lib.hid HO27.out.sl'.2
      clear hnr HO27 SWR HP
      go_loopw [29] (fun s29 wr => ∃ (m : Nat), m ≤ l.length ∧ s29 = .int .i64 (m : Int) ∧ Below e0.heap.size e0 wr) (fun s29 _ => l.length - (intOf s29).toNat)
      case atStart => exact ⟨0, by omega, rfl, Below.refl _ _⟩
      case round =>
        obtain ⟨m, hm, rfl, hbj⟩ := hrel
        have HBJ := Lib.hid hbj
        clear hbj
        have R3c := Lib.hid ((HBJ.out.block _ (row_lt R3.out)).trans R3.out)
        have k3 := row_cell (v := .slice A l.length c) R3c.out 2 rfl
        by_cases hmn : m < l.length
        case neg =>
          have i2 : ¬ (m : Int) < (l.length : Int) := by omega
          replace HB := Lib.hid (HB.out.trans (HBJ.out.mono HB.out.size))
          go_wp2_with fail
          refine (awake_any _).mono ?_
          rintro e w9 ⟨rfl, hb9⟩
          go_wp2_with fail
          go_ret
          exact ⟨rfl, HB.out.trans (hb9.mono HB.out.size)⟩
        have i2 : (m : Int) < (l.length : Int) := by omega
        by_cases hk1 : k = 1
        case neg =>
          have i3 : (k == 1) = false := by rw [beq_eq_false_iff_ne]; exact hk1
          replace HB := Lib.hid (HB.out.trans (HBJ.out.mono HB.out.size))
          clear hk1
          go_wp2_with fail
          refine (awake_any _).mono ?_
          rintro e w9 ⟨rfl, hb9⟩
          go_wp2_with fail
          go_ret
          exact ⟨rfl, HB.out.trans (hb9.mono HB.out.size)⟩
        have i3 : (k == 1) = true := by rw [beq_iff_eq]; exact hk1
        obtain ⟨⟨t0, t1⟩, d0, d1⟩ := HNR.out hk1 m hmn
        have hz := HLB.out m
        have z0 := hz.1
        have z1 : nth l m ≤ 255 := by omega
        clear hz hk1
        obtain ⟨b9, o9, rfl, hb9, hc9⟩ := HV.out.at_ (by omega)
        obtain ⟨b13, o13, rfl, hb13, hc13⟩ := HSG.out.at_ (by rw [← HLN.out]; omega)
        have C9 := Lib.hid (show e0.cell? ⟨b9, o9 + m, none⟩ = some (.int .u8 (nth l m)) from hc9 m hmn)
        have C13 := Lib.hid (show e0.cell? ⟨b13, o13 + m, none⟩ = some (.int .u8 (nth G m)) from hc13 m (by rw [← HLN.out]; exact hmn))
        clear hc9 hc13
        generalize nth l m = zv at *
        generalize nth G m = tv at *
        go_wp2_with fail
        clear k3
        have HBD := Lib.hid (ud' HBJ.out)
        have q1 : ∀ p : Bel e0.heap.size wr.drew, p.w'.cell? ⟨w.heap.size, 2, none⟩ = some (.slice (some ⟨b9, o9, none⟩) l.length c) := fun p => row_cell (((HBD.out.trans p.h).block _ (row_lt R3.out)).trans R3.out) 2 rfl
        have q2 : ∀ p : Bel e0.heap.size wr.drew, p.w'.cell? ⟨G27, 2, none⟩ = some (.slice (some ⟨b13, o13, none⟩) l.length c27) := fun p => row_cell (((HBD.out.trans p.h).block _ (row_lt R27.out)).trans R27.out) 2 rfl
        have q3 : ∀ p : Bel e0.heap.size wr.drew, p.w'.cell? ⟨b9, o9 + m, none⟩ = some (.int .u8 zv) := fun p => ((HBD.out.trans p.h).cell (p := ⟨b9, o9 + m, none⟩) hb9).trans C9.out
        have q4 : ∀ p : Bel e0.heap.size wr.drew, p.w'.cell? ⟨b13, o13 + m, none⟩ = some (.int .u8 tv) := fun p => ((HBD.out.trans p.h).cell (p := ⟨b13, o13 + m, none⟩) hb13).trans C13.out
        refine Tin.reg_begin e0.heap.size 14 (by rfl) (by kernel_rfl) ?_
        refine Tin.reg_quiets [0, 1, 2, 3, 4, 5, 6, 7, 8, 9, 10, 11, 12, 13] _ 0 rfl (by simp only [Tin.pick, List.map_cons, List.map_nil, Array.getD_eq_getD_getElem?, List.getElem?_toArray, List.getElem?_cons_zero, List.getElem?_cons_succ, Option.getD_some]; rfl) (by kernel_rfl) (by kernel_rfl) ?_
        repeat (first | go_big_quiet_step (fail))
        refine wpQuiet_nil ?_
        clear q1 q2 q3 q4
        refine Tin.reg_done (by kernel_rfl) ?_
        have j1 : decide ((1 : Int) < tv - zv) = false := decide_eq_false (by omega)
        have j2 : decide (tv - zv < (-1 : Int)) = false := decide_eq_false (by omega)
        go_wp2_with fail
        exact ⟨⟨m + 1, by omega, rfl, HBD.out⟩, by simp only [intOf]; omega⟩
    have j1 : (j : Int) < 3 := by omega
    obtain ⟨Ac, cc, hrg, hsl⟩ := HPA.out j hj3
    have HPj := Lib.hid (plO_may l hw hh h1 s1 j)
    by_cases hj0 : j = 0
    · have hp0 : plO l wd ht h s j = ⟨(wd : Int), (ht : Int), grid (pcV l wd 0) wd ht⟩ := by rw [hj0]; rfl
      have HPj2 := HPj.out
      rw [hp0] at hrg hsl HPj2
      dsimp only at hrg hsl HPj2
      generalize grid (pcV l wd 0) wd ht = v at *
      have hmv := HPj2
      have jz : ((j : Int) == 0) = true := by rw [beq_iff_eq]; omega
      clear hj0 hp0 HPj HPj2
      have eA := HEA.out
      have eD := HED.out
      obtain ⟨M, hM⟩ : ∃ M, v.length = M := ⟨_, rfl⟩
      have hPQ : wd * ht = M := by have := mayP_n hmv; rw [← Int.natCast_mul] at this; omega
      rw [hM] at hrg
      have hMb : M ≤ 4096 * 4096 := by rw [← hPQ]; exact Nat.mul_le_mul (by omega) (by omega)
      have HM := Lib.hid hM
      have HPQ := Lib.hid hPQ
      have HSL := Lib.hid hsl
      have HRG := Lib.hid hrg
      have HMV := Lib.hid hmv
      clear hM hPQ hsl hrg hmv
      have HR1 := Lib.hid (rng_keep HBJ.out hbp HRG.out)
      have es1 : (ah : Int) + (mo : Int) = ((ah + mo : Nat) : Int) := (Int.natCast_add _ _).symm
      have es2 : (ds : Int) + (mo : Int) = ((ds + mo : Nat) : Int) := (Int.natCast_add _ _).symm
      have ES1 := Lib.hid es1
      have ES2 := Lib.hid es2
      clear es1 es2
      go_wp2_with ((with_reducible refine wpl_loadv rtP ?_ (.tmp 112) ?_ bp (op + j * 3) ?_ [.int .i64 (wd : Nat), .int .i64 (ht : Nat), .slice Ac M cc] ?_ HR1.out ?_); rfl; rfl; rfl; rfl; simp only [Act.put, List.setIfInBounds_toArray, List.set_cons_succ, List.set_cons_zero])
      rw [ES1.out, ES2.out]
      have hby := blocks_yes (wd : Nat) (ht : Nat) (ah + mo) (ds + mo) Ac cc v _ (HSL.out.keep HBJ.out) (by rw [HM.out]; omega) HMV.out (by omega) (by omega) (by omega) (by omega)
      rw [HM.out] at hby
      have HBYS := Lib.hid hby
      clear hby
      refine (HBYS.out).mono ?_
      rintro e x5 ⟨A18, c18, rfl, hx5_0, hb⟩
      replace HBJ := Lib.hid (HBJ.out.trans (hb.mono HBJ.out.size))
      have HO18 := Lib.hid hx5_0
      clear hx5_0 hb
      clear HBYS HR1
      obtain ⟨NN, hNN⟩ : ∃ NN, ((ah + mo) * (ds + mo)) = NN := ⟨_, rfl⟩
      rw [hNN] at HO18 ⊢
      have HNN := Lib.hid hNN
      have hNb : NN ≤ 300 * 300 := by rw [← hNN]; exact Nat.mul_le_mul (by omega) (by omega)
      have HNE := Lib.hid (show ((ah : Int) + (mo : Int)) * ((ds : Int) + (mo : Int)) = (NN : Int) by rw [← hNN, Int.natCast_mul, Int.natCast_add, Int.natCast_add])
      clear hNN
      go_wp2_with fail
      rename_i K18 hK18
      have HK18 := Lib.hid hK18
      clear hK18
      have tail18 : ∀ (X : World) (g20 : Nat) (A20 : Option Addr) (c20 : Nat) (u22 u95 u96 u97 u98 u99 u100 u101 u102 u103 u104 u105 u106 u107 u108 u109 u110 u111 u112 u113 u114 u115 u116 u117 u118 u119 u120 u121 u122 u123 u124 u125 u126 u127 u128 u129 u130 u131 u132 u133 u134 u135 u136 u137 u138 u139 u140 u141 u142 u143 u144 u145 u146 u147 u148 u149 u150 u151 u152 u153 u154 u155 u156 u157 u158 u159 u160 u161 u162 u163 u164 u165 u166 u167 u168 u169 u170 u171 u172 u173 u174 u175 u176 u177 u178 u179 u180 u181 u182 u183 u184 u185 u186 u187 u188 u189 u190 u191 u192 u193 u194 u195 u196 u197 u198 u199 u200 u201 u202 u203 u204 u205 u206 u207 u208 u209 u210 u211 : Value), X.heap[g20]? = some (.cells (plrow (wd : Nat) (ht : Nat) A20 M c20) 24 (0, 0)) → Sl .i64 X A20 v → Below q0.heap.size q0 X → K18 { tmps := #[Value.agg #[Value.int IntKind.i64 (wd : Int), Value.int IntKind.i64 (ht : Int), Value.slice A l.length c], Value.int IntKind.i64 k, Value.int IntKind.i64 (mo : Int), Value.pointer (some { block := w.heap.size, off := 0 }), undef, undef, u6, Value.slice (some { block := bp, off := op }) 3 c7, Value.int IntKind.i64 0, Value.int IntKind.i64 (h : Int), Value.int IntKind.i64 (s : Int), Value.bool true, Value.int IntKind.i64 (a : Int), Value.int IntKind.i64 (d : Int), Value.int IntKind.i64 0, .int .i64 (j : Int), .int .i64 (ah : Int), .int .i64 (ds : Int), .slice A18 NN c18, .int .i64 0, .pointer (some ⟨g20, 0, none⟩), .int .i64 0, u22, undef, undef, undef, undef, undef, undef, undef, undef, Value.pointer (some { block := w.heap.size, off := 2 }), Value.slice A l.length c, Value.int IntKind.i64 (l.length : Int), Value.bool (decide (2000 < (l.length : Int))), Value.bool (decide (2000 < (l.length : Int))), Value.agg #[Value.int IntKind.i64 (wd : Int), Value.int IntKind.i64 (ht : Int), Value.slice A l.length c], Value.bool true, Value.bool false, Value.bool (decide (2000 < (l.length : Int))), undef, Value.int IntKind.i64 more, Value.int IntKind.i64 (mo : Int), Value.tuple #[Value.slice (some { block := bp, off := op }) 3 c7, Value.int IntKind.i64 0], Value.agg (rsrow ((wd : Int)) ((ht : Int)) A l.length c), Value.int IntKind.i64 k, Value.tuple #[Value.slice (some { block := bp, off := op }) 3 c7, Value.int IntKind.i64 0], Value.slice (some { block := bp, off := op }) 3 c7, Value.int IntKind.i64 0, Value.tuple #[Value.int IntKind.i64 (h : Int), Value.int IntKind.i64 (s : Int), Value.bool true], Value.int IntKind.i64 k, Value.tuple #[Value.int IntKind.i64 (h : Int), Value.int IntKind.i64 (s : Int), Value.bool true], Value.int IntKind.i64 (h : Int), Value.int IntKind.i64 (s : Int), Value.bool true, Value.tuple #[Value.int IntKind.i64 (a : Int), Value.int IntKind.i64 (d : Int), Value.int IntKind.i64 0], Value.pointer (some { block := w.heap.size, off := 0 }), Value.int IntKind.i64 (wd : Int), Value.pointer (some { block := w.heap.size, off := 1 }), Value.int IntKind.i64 (ht : Int), Value.int IntKind.i64 k, Value.tuple #[Value.int IntKind.i64 (a : Int), Value.int IntKind.i64 (d : Int), Value.int IntKind.i64 0], Value.int IntKind.i64 (a : Int), Value.int IntKind.i64 (d : Int), Value.int IntKind.i64 0, Value.bool true, Value.bool false, undef, undef, undef, undef, undef, undef, undef, undef, undef, Value.int IntKind.i64 0, Value.bool false, Value.bool false, Value.int IntKind.i64 0, Value.bool false, Value.bool false, Value.bool false, Value.slice (some { block := bp, off := op }) 3 c7, Value.int IntKind.i64 3, Value.bool false, Value.bool false, Value.bool false, Value.int IntKind.i64 (h : Int), Value.bool (decide ((h : Int) < 1)), Value.bool (decide ((h : Int) < 1)), Value.bool (decide ((h : Int) < 1)), Value.int IntKind.i64 (s : Int), Value.bool (decide ((s : Int) < 1)), Value.bool (decide ((h : Int) < 1) || decide ((s : Int) < 1)), u95, u96, u97, u98, u99, u100, u101, u102, u103, u104, u105, u106, u107, u108, u109, u110, u111, u112, u113, u114, u115, u116, u117, u118, u119, u120, u121, u122, u123, u124, u125, u126, u127, u128, u129, u130, u131, u132, u133, u134, u135, u136, u137, u138, u139, u140, u141, u142, u143, u144, u145, u146, u147, u148, u149, u150, u151, u152, u153, u154, u155, u156, u157, u158, u159, u160, u161, u162, u163, u164, u165, u166, u167, u168, u169, u170, u171, u172, u173, u174, u175, u176, u177, u178, u179, u180, u181, u182, u183, u184, u185, u186, u187, u188, u189, u190, u191, u192, u193, u194, u195, u196, u197, u198, u199, u200, u201, u202, u203, u204, u205, u206, u207, u208, u209, u210, u211, undef, undef, undef, undef, undef, undef, undef, undef, undef, undef, undef, undef, undef, undef, undef, undef, undef, undef, undef, undef, undef, undef, undef, undef, undef, undef, undef, undef, undef, undef, undef, undef, undef, undef, undef, undef, undef, undef, undef, undef, undef, undef, undef, undef, undef, undef, undef, undef, undef, undef, undef, undef, undef, undef, undef, undef, undef, undef, undef, undef, undef, undef, undef, undef, undef, undef, undef, undef, undef, undef, undef, undef, undef, undef, undef, undef, undef, undef, undef, undef, undef, undef, undef, undef, undef, undef, undef, undef, undef, undef, undef, undef, undef, undef, undef, undef, undef, undef], defers := [] } X := by
        intro X g20 A20 c20 u22 u95 u96 u97 u98 u99 u100 u101 u102 u103 u104 u105 u106 u107 u108 u109 u110 u111 u112 u113 u114 u115 u116 u117 u118 u119 u120 u121 u122 u123 u124 u125 u126 u127 u128 u129 u130 u131 u132 u133 u134 u135 u136 u137 u138 u139 u140 u141 u142 u143 u144 u145 u146 u147 u148 u149 u150 u151 u152 u153 u154 u155 u156 u157 u158 u159 u160 u161 u162 u163 u164 u165 u166 u167 u168 u169 u170 u171 u172 u173 u174 u175 u176 u177 u178 u179 u180 u181 u182 u183 u184 u185 u186 u187 u188 u189 u190 u191 u192 u193 u194 u195 u196 u197 u198 u199 u200 u201 u202 u203 u204 u205 u206 u207 u208 u209 u210 u211 hr20 hv2 hbx
        have R20 := Lib.hid hr20
        have HV2 := Lib.hid hv2
        have HBX := Lib.hid hbx
        clear hr20 hv2 hbx HO18
        refine HK18.out _ _ ?_
        clear HK18
        dsimp only
        have hne := HNE.out
        have hn0 : 0 ≤ ((ah : Int) + (mo : Int)) * ((ds : Int) + (mo : Int)) := by omega
        go_wp2_with fail
        have LT_R20 : _ < X.heap.size := row_lt R20.out
        have SZ : X.heap.size ≤ X.drew.heap.size := Nat.le_refl _
        have hb := ud' (brefl X)
        replace R20 := Lib.hid ((hb.block _ (row_lt R20.out)).trans R20.out)
        replace HV2 := Lib.hid (HV2.out.keep hb)
        replace HBX := Lib.hid (HBX.out.trans (hb.mono HBX.out.size))
        clear hb
        refine Tin.reg_begin (X.heap.size) 50 (by rfl) (by kernel_rfl) ?_
        have HBS : q0.heap.size ≤ X.heap.size := HBX.out.size
        have kW : ∀ p : Bel (X.heap.size) X.drew, p.w'.cell? ⟨bp, op + j * 3, none⟩ = some (.int .i64 (wd : Nat)) := fun p => rng_keep (HBX.out.trans (p.h.mono HBS)) hbp HRG.out 0 _ rfl
        have kH : ∀ p : Bel (X.heap.size) X.drew, p.w'.cell? ⟨bp, op + j * 3 + 1, none⟩ = some (.int .i64 (ht : Nat)) := fun p => rng_keep (HBX.out.trans (p.h.mono HBS)) hbp HRG.out 1 _ rfl
        have kV : ∀ p : Bel (X.heap.size) X.drew, p.w'.cell? ⟨bp, op + j * 3 + 2, none⟩ = some (.slice Ac M cc) := fun p => rng_keep (HBX.out.trans (p.h.mono HBS)) hbp HRG.out 2 _ rfl
        generalize X.drew = y0 at *
        have k0 : ∀ p : Bel (X.heap.size) y0, p.w'.cell? ⟨g20, 0, none⟩ = some (.int .i64 (wd : Nat)) := fun p => row_cell ((p.h.block _ LT_R20).trans R20.out) 0 rfl
        have k1 : ∀ p : Bel (X.heap.size) y0, p.w'.cell? ⟨g20, 1, none⟩ = some (.int .i64 (ht : Nat)) := fun p => row_cell ((p.h.block _ LT_R20).trans R20.out) 1 rfl
        have k2 : ∀ p : Bel (X.heap.size) y0, p.w'.cell? ⟨g20, 2, none⟩ = some (.slice A20 M c20) := fun p => row_cell ((p.h.block _ LT_R20).trans R20.out) 2 rfl
        refine Tin.reg_quiets [0, 1, 2, 3, 4, 5, 6, 7, 8, 9, 10, 11, 12, 13, 14, 15, 16, 17, 18, 19, 20, 21, 22, 23, 24, 25, 26, 27, 28, 29, 30, 31, 32, 33, 34, 35, 36, 37, 38, 39, 40, 41, 42, 43, 44, 45, 46, 47, 48, 49] _ 0 rfl (by simp only [Tin.pick, List.map_cons, List.map_nil, Array.getD_eq_getD_getElem?, List.getElem?_toArray, List.getElem?_cons_zero, List.getElem?_cons_succ, Option.getD_some]; rfl) (by kernel_rfl) (by kernel_rfl) ?_
        repeat (first | go_big_quiet_step (fail))
        refine wpQuiet_nil ?_
        clear k0 k1 k2
        clear kW kH kV
        refine Tin.reg_done (by kernel_rfl) ?_
        clear hne hn0
        go_wp2_with fail
        go_loopw [22] (fun s22 wr => ∃ (m : Nat), m ≤ M ∧ s22 = .int .i64 (m : Int) ∧ Below y0.heap.size y0 wr) (fun s22 _ => M - (intOf s22).toNat)
        case atStart => exact ⟨0, by omega, rfl, Below.refl _ _⟩
        case round =>
          obtain ⟨m, hm, rfl, hbm⟩ := hrel
          have HBM := Lib.hid hbm
          clear hbm
          have R20m := Lib.hid ((HBM.out.block _ (row_lt R20.out)).trans R20.out)
          have kk2 := row_cell (v := .slice A20 M c20) R20m.out 2 rfl
          by_cases hmM : m < M
          case neg =>
            obtain rfl : m = M := by omega
            go_wp2_with fail
            go_roundw
            case rel => exact ⟨j + 1, by omega, rfl, HBX.out.trans (HBM.out.mono HBX.out.size)⟩
            case measure => simp only [intOf]; omega
          have m1 : (m : Int) < (M : Int) := by omega
          obtain ⟨b, off, rfl, hlt, hc⟩ := HV2.out.at_ (by rw [HM.out]; omega)
          obtain ⟨b', off', rfl, hlt', hc'⟩ := HSL.out.at_ (by rw [HM.out]; omega)
          go_wp2_with fail
          clear kk2
          have HBE := Lib.hid (ud' HBM.out)
          have q1 : ∀ p : Bel y0.heap.size wr.drew, p.w'.cell? ⟨g20, 2, none⟩ = some (.slice (some ⟨b, off, none⟩) M c20) := fun p => row_cell (((HBE.out.trans p.h).block _ (row_lt R20.out)).trans R20.out) 2 rfl
          have q2 : ∀ p : Bel y0.heap.size wr.drew, p.w'.cell? ⟨b, off + m, none⟩ = some (.int .i64 (nth v m)) := fun p => ((HBE.out.trans p.h).cell (p := ⟨b, off + m, none⟩) hlt).trans (hc m (by rw [HM.out]; exact hmM))
          have q3 : ∀ p : Bel y0.heap.size wr.drew, p.w'.cell? ⟨bp, op + j * 3 + 2, none⟩ = some (.slice (some ⟨b', off', none⟩) M cc) := fun p => rng_keep (HBX.out.trans ((HBE.out.trans p.h).mono HBX.out.size)) hbp HRG.out 2 _ rfl
          have q4 : ∀ p : Bel y0.heap.size wr.drew, p.w'.cell? ⟨b', off' + m, none⟩ = some (.int .i64 (nth v m)) := fun p => ((HBX.out.trans ((HBE.out.trans p.h).mono HBX.out.size)).cell (p := ⟨b', off' + m, none⟩) hlt').trans (hc' m (by rw [HM.out]; exact hmM))
          clear hc hc'
          generalize nth v m = xv at *
          refine Tin.reg_begin y0.heap.size 14 (by rfl) (by kernel_rfl) ?_
          refine Tin.reg_quiets [0, 1, 2, 3, 4, 5, 6, 7, 8, 9, 10, 11, 12, 13] _ 0 rfl (by simp only [Tin.pick, List.map_cons, List.map_nil, Array.getD_eq_getD_getElem?, List.getElem?_toArray, List.getElem?_cons_zero, List.getElem?_cons_succ, Option.getD_some]; rfl) (by kernel_rfl) (by kernel_rfl) ?_
          repeat (first | go_big_quiet_step (fail))
          refine wpQuiet_nil ?_
          clear q1 q2 q3 q4
          refine Tin.reg_done (by kernel_rfl) ?_
          go_wp2_with fail
          exact ⟨⟨m + 1, by omega, rfl, HBE.out⟩, by simp only [intOf]; omega⟩
      have SS := Lib.hid (brefl x5)
      have SS_le_HBJ := HBJ.out.size
      have SZ : x5.heap.size ≤ x5.drew.heap.size := Nat.le_refl _
      have hb := ud' (brefl x5)
      replace HO18 := Lib.hid (HO18.out.keep hb)
      replace HBJ := Lib.hid (HBJ.out.trans (hb.mono HBJ.out.size))
      replace SS := Lib.hid (SS.out.trans (hb.mono SS.out.size))
      clear hb
      refine Tin.reg_begin (x5.heap.size) 21 (by rfl) (by kernel_rfl) ?_
      have HBS : q0.heap.size ≤ x5.heap.size := HBJ.out.size
      have kW : ∀ p : Bel (x5.heap.size) x5.drew, p.w'.cell? ⟨bp, op + j * 3, none⟩ = some (.int .i64 (wd : Nat)) := fun p => rng_keep (HBJ.out.trans (p.h.mono HBS)) hbp HRG.out 0 _ rfl
      have kH : ∀ p : Bel (x5.heap.size) x5.drew, p.w'.cell? ⟨bp, op + j * 3 + 1, none⟩ = some (.int .i64 (ht : Nat)) := fun p => rng_keep (HBJ.out.trans (p.h.mono HBS)) hbp HRG.out 1 _ rfl
      generalize x5.drew = v1 at *
      refine Tin.reg_quiets [0, 1, 2, 3, 4, 5, 6, 7, 8, 9, 10, 11, 12, 13] _ 7 rfl (by simp only [Tin.pick, List.map_cons, List.map_nil, Array.getD_eq_getD_getElem?, List.getElem?_toArray, List.getElem?_cons_zero, List.getElem?_cons_succ, Option.getD_some]; rfl) (by kernel_rfl) (by kernel_rfl) ?_
      repeat (first | go_big_quiet_step (fail))
      refine wpQuiet_nil ?_
      clear kW kH
      have HSZ1 : x5.heap.size ≤ v1.heap.size := SZ
      refine Tin.reg_two 14 18 _ _ rfl rfl (by kernel_rfl) ?_ ?_
      · try simp only [List.getElem_toArray, List.getElem_cons_succ, List.getElem_cons_zero]
        go_wp2_with fail
        try rw [ES1.out]
        refine (join_yes (blF (blkV (wd : Nat) (ht : Nat) v (ah + mo)) NN) (wd) (ht) (ah + mo) NN A18 c18 _ HO18.out.sl'.2.1 (blF_len _ _) (by omega) (by omega) (by omega) (by omega) (by omega) (by rw [← HNN.out]; exact Nat.mul_mod_right _ _) (by rw [← HNN.out, Nat.mul_div_cancel_left _ (by omega)]; omega)).mono ?_
        rintro e x6 ⟨A20, c20, rfl, hx6_0, hv⟩
        rw [HPQ.out]
        dsimp only
        go_wp2_with fail
        refine ⟨x5.heap.size, hv.mono SZ, Nat.le_refl _, ?_⟩
        replace HO18 := Lib.hid (HO18.out.keep hv)
        replace HBJ := Lib.hid (HBJ.out.trans (hv.mono HBJ.out.size))
        replace SS := Lib.hid (SS.out.trans (hv.mono SS.out.size))
        have HO20 := Lib.hid hx6_0
        replace SZ := Nat.le_trans SZ hv.size
        clear hx6_0 hv
        rw [join_back HMV.out (show wd ≤ 8 * (ah + mo) by omega) (show ht ≤ 8 * (NN / (ah + mo)) by rw [← HNN.out, Nat.mul_div_cancel_left _ (by omega)]; omega)] at HO20
        rw [HPQ.out] at HO20
        refine Tin.reg_quiets [15, 16, 17] _ 3 rfl (by simp only [Tin.pick, List.map_cons, List.map_nil, Array.getD_eq_getD_getElem?, List.getElem?_toArray, List.getElem?_cons_zero, List.getElem?_cons_succ, Option.getD_some]; rfl) (by kernel_rfl) (by kernel_rfl) ?_
        repeat (first | go_big_quiet_step (fail) | ((refine wpq_value (plA (wd : Nat) (ht : Nat) A20 M c20) rfl (fun W hC => by unfold execOp; rfl) ?_); simp only [Act.put, List.setIfInBounds_toArray, List.set_cons_succ, List.set_cons_zero]) | ((refine wpq_value (.int .i64 0) rfl (fun W hC => by unfold execOp; rfl) ?_); simp only [Act.put, List.setIfInBounds_toArray, List.set_cons_succ, List.set_cons_zero]))
        refine wpQuiet_nil ?_
        refine Tin.reg_one 18 _ rfl (by kernel_rfl) ?_
        try simp only [List.getElem_toArray, List.getElem_cons_succ, List.getElem_cons_zero]
        go_wp2_with fail
        refine ⟨x5.heap.size, (ba (brefl x6) (.cells (plrow 0 0 none 0 0) 24)).mono SZ, Nat.le_refl _, ?_⟩
        refine Tin.reg_one 19 _ rfl (by kernel_rfl) ?_
        try simp only [List.getElem_toArray, List.getElem_cons_succ, List.getElem_cons_zero]
        go_wp2_with fail
        have hv := ba (brefl x6) (.cells (plrow (wd : Nat) (ht : Nat) A20 M c20) 24)
        refine ⟨x5.heap.size, ⟨rfl, rfl, rfl, by simp, fun i hi => (heap_alloc_old x6 _ (Nat.lt_of_lt_of_le hi SZ)).trans (heap_alloc_old x6 _ (Nat.lt_of_lt_of_le hi SZ)).symm⟩, Nat.le_refl _, ?_⟩
        refine Tin.reg_quiets [20] _ 0 rfl (by simp only [Tin.pick, List.map_cons, List.map_nil, Array.getD_eq_getD_getElem?, List.getElem?_toArray, List.getElem?_cons_zero, List.getElem?_cons_succ, Option.getD_some]; rfl) (by kernel_rfl) (by kernel_rfl) ?_
        repeat (first | go_big_quiet_step (fail))
        refine wpQuiet_nil ?_
        refine Tin.reg_done (by kernel_rfl) ?_
        exact tail18 _ _ A20 c20 _ _ _ _ _ _ _ _ _ _ _ _ _ _ _ _ _ _ _ _ _ _ _ _ _ _ _ _ _ _ _ _ _ _ _ _ _ _ _ _ _ _ _ _ _ _ _ _ _ _ _ _ _ _ _ _ _ _ _ _ _ _ _ _ _ _ _ _ _ _ _ _ _ _ _ _ _ _ _ _ _ _ _ _ _ _ _ _ _ _ _ _ _ _ _ _ _ _ _ _ _ _ _ _ _ _ _ _ _ _ _ _ _ _ _ _ _ _ (heap_alloc_new x6 (.cells (plrow (wd : Nat) (ht : Nat) A20 M c20) 24)) (HO20.out.keep hv).sl'.2 (HBJ.out.trans (hv.mono HBJ.out.size))
      · try simp only [List.getElem_toArray, List.getElem_cons_succ, List.getElem_cons_zero]
        go_wp2_with fail
        have hv := ba (brefl v1) (.cells (plrow 0 0 none 0 0) 24)
        have r20 := heap_alloc_new v1 (.cells (plrow 0 0 none 0 0) 24)
        refine ⟨x5.heap.size, hv.mono SZ, Nat.le_refl _, ?_⟩
        replace HO18 := Lib.hid (HO18.out.keep hv)
        replace HBJ := Lib.hid (HBJ.out.trans (hv.mono HBJ.out.size))
        replace SS := Lib.hid (SS.out.trans (hv.mono SS.out.size))
        replace SZ := Nat.le_trans SZ hv.size
        have R20 := Lib.hid r20
        have R20 := Lib.hid r20
        clear r20 hv
        generalize (v1.alloc (.cells (plrow 0 0 none 0 0) 24)) = x6 at *
        have HR20x := Lib.hid (row_lt R20.out)
        refine Tin.reg_one 14 _ rfl (by kernel_rfl) ?_
        try simp only [List.getElem_toArray, List.getElem_cons_succ, List.getElem_cons_zero]
        go_wp2_with fail
        try rw [ES1.out]
        refine (join_yes (blF (blkV (wd : Nat) (ht : Nat) v (ah + mo)) NN) (wd) (ht) (ah + mo) NN A18 c18 _ HO18.out.sl'.2.1 (blF_len _ _) (by omega) (by omega) (by omega) (by omega) (by omega) (by rw [← HNN.out]; exact Nat.mul_mod_right _ _) (by rw [← HNN.out, Nat.mul_div_cancel_left _ (by omega)]; omega)).mono ?_
        rintro e x7 ⟨A20, c20, rfl, hx7_0, hv⟩
        rw [HPQ.out]
        dsimp only
        go_wp2_with fail
        refine ⟨x5.heap.size, hv.mono SZ, Nat.le_refl _, ?_⟩
        replace HO18 := Lib.hid (HO18.out.keep hv)
        replace R20 := Lib.hid ((hv.block _ (row_lt R20.out)).trans R20.out)
        replace HBJ := Lib.hid (HBJ.out.trans (hv.mono HBJ.out.size))
        replace SS := Lib.hid (SS.out.trans (hv.mono SS.out.size))
        have HO20 := Lib.hid hx7_0
        replace SZ := Nat.le_trans SZ hv.size
        clear hx7_0 hv
        rw [join_back HMV.out (show wd ≤ 8 * (ah + mo) by omega) (show ht ≤ 8 * (NN / (ah + mo)) by rw [← HNN.out, Nat.mul_div_cancel_left _ (by omega)]; omega)] at HO20
        rw [HPQ.out] at HO20
        refine Tin.reg_quiets [15, 16, 17] _ 2 rfl (by simp only [Tin.pick, List.map_cons, List.map_nil, Array.getD_eq_getD_getElem?, List.getElem?_toArray, List.getElem?_cons_zero, List.getElem?_cons_succ, Option.getD_some]; rfl) (by kernel_rfl) (by kernel_rfl) ?_
        repeat (first | go_big_quiet_step (fail) | ((refine wpq_value (plA (wd : Nat) (ht : Nat) A20 M c20) rfl (fun W hC => by unfold execOp; rfl) ?_); simp only [Act.put, List.setIfInBounds_toArray, List.set_cons_succ, List.set_cons_zero]) | ((refine wpq_value (.int .i64 0) rfl (fun W hC => by unfold execOp; rfl) ?_); simp only [Act.put, List.setIfInBounds_toArray, List.set_cons_succ, List.set_cons_zero]))
        refine wpQuiet_nil ?_
        refine Tin.reg_one 19 _ rfl (by kernel_rfl) ?_
        try simp only [List.getElem_toArray, List.getElem_cons_succ, List.getElem_cons_zero]
        go_wp2_with ((with_reducible refine wpl_store_row rtP ?_ (.tmp 20) (.tmp 139) ?_ (v1.heap.size) ?_ (plrow (wd : Nat) (ht : Nat) A20 M c20) ?_ (pl_one _ _ _ _ _) 24 ?_ (plrow 0 0 none 0 0) ?_ R20.out ?_); rfl; rfl; rfl; rfl; rfl; rfl; intro x8 hr20 hg20 hs20; (try simp only [Act.put, List.setIfInBounds_toArray, List.set_cons_succ, List.set_cons_zero]))
        have hq20 : x5.heap.size ≤ v1.heap.size := HSZ1
        refine ⟨x5.heap.size, (Below.refl _ _).grown hg20 SZ (fun k hk => by cases hk; exact hq20), Nat.le_refl _, ?_⟩
        refine Tin.reg_quiets [20] _ 0 rfl (by simp only [Tin.pick, List.map_cons, List.map_nil, Array.getD_eq_getD_getElem?, List.getElem?_toArray, List.getElem?_cons_zero, List.getElem?_cons_succ, Option.getD_some]; rfl) (by kernel_rfl) (by kernel_rfl) ?_
        repeat (first | go_big_quiet_step (fail))
        refine wpQuiet_nil ?_
        refine Tin.reg_done (by kernel_rfl) ?_
        exact tail18 _ _ A20 c20 _ _ _ _ _ _ _ _ _ _ _ _ _ _ _ _ _ _ _ _ _ _ _ _ _ _ _ _ _ _ _ _ _ _ _ _ _ _ _ _ _ _ _ _ _ _ _ _ _ _ _ _ _ _ _ _ _ _ _ _ _ _ _ _ _ _ _ _ _ _ _ _ _ _ _ _ _ _ _ _ _ _ _ _ _ _ _ _ _ _ _ _ _ _ _ _ _ _ _ _ _ _ _ _ _ _ _ _ _ _ _ _ _ _ _ _ _ _ hr20 ((HO20.out.kept hg20 (ne_own (fun q hq => by have h1 := (World.ownsRow.lt HO20.out q hq).1; have h2 := HR20x.out; omega))).sl'.2) (HBJ.out.grown hg20 HBJ.out.size (fun k hk => by cases hk; exact Nat.le_trans HBS hq20))
    have hp0 : plO l wd ht h s j = ⟨(ptN wd h : Nat), (ptN ht s : Nat), grid (dnV (wd : Int) (ht : Int) (grid (pcV l wd j) wd ht) h s) (ptN wd h) (ptN ht s)⟩ := by unfold plO; rw [if_neg hj0]
    have HPj2 := HPj.out
    rw [hp0] at hrg hsl HPj2
    dsimp only at hrg hsl HPj2
    generalize grid (dnV (wd : Int) (ht : Int) (grid (pcV l wd j) wd ht) h s) (ptN wd h) (ptN ht s) = v at *
    have hmv := HPj2
    have jz : ((j : Int) == 0) = false := by rw [beq_eq_false_iff_ne]; omega
    clear hj0 hp0 HPj HPj2
    obtain ⟨M, hM⟩ : ∃ M, v.length = M := ⟨_, rfl⟩
    have hPQ : ptN wd h * ptN ht s = M := by have := mayP_n hmv; rw [← Int.natCast_mul] at this; omega
    rw [hM] at hrg
    have hMb : M ≤ 4096 * 4096 := by rw [← hPQ]; exact Nat.mul_le_mul (by omega) (by omega)
    have HM := Lib.hid hM
    have HPQ := Lib.hid hPQ
    have HSL := Lib.hid hsl
    have HRG := Lib.hid hrg
    have HMV := Lib.hid hmv
    clear hM hPQ hsl hrg hmv
    have HR1 := Lib.hid (rng_keep HBJ.out hbp HRG.out)
    have es1 : (a : Int) + (mo : Int) = ((a + mo : Nat) : Int) := (Int.natCast_add _ _).symm
    have es2 : (d : Int) + (mo : Int) = ((d + mo : Nat) : Int) := (Int.natCast_add _ _).symm
    have ES1 := Lib.hid es1
    have ES2 := Lib.hid es2
    clear es1 es2
    go_wp2_with ((with_reducible refine wpl_loadv rtP ?_ (.tmp 112) ?_ bp (op + j * 3) ?_ [.int .i64 (ptN wd h : Nat), .int .i64 (ptN ht s : Nat), .slice Ac M cc] ?_ HR1.out ?_); rfl; rfl; rfl; rfl; simp only [Act.put, List.setIfInBounds_toArray, List.set_cons_succ, List.set_cons_zero])
    rw [ES1.out, ES2.out]
    have hby := blocks_yes (ptN wd h : Nat) (ptN ht s : Nat) (a + mo) (d + mo) Ac cc v _ (HSL.out.keep HBJ.out) (by rw [HM.out]; omega) HMV.out (by omega) (by omega) (by omega) (by omega)
    rw [HM.out] at hby
    have HBYS := Lib.hid hby
    clear hby
    refine (HBYS.out).mono ?_
    rintro e x5 ⟨A18, c18, rfl, hx5_0, hb⟩
    replace HBJ := Lib.hid (HBJ.out.trans (hb.mono HBJ.out.size))
    have HO18 := Lib.hid hx5_0
    clear hx5_0 hb
    clear HBYS HR1
    obtain ⟨NN, hNN⟩ : ∃ NN, ((a + mo) * (d + mo)) = NN := ⟨_, rfl⟩
    rw [hNN] at HO18 ⊢
    have HNN := Lib.hid hNN
    have hNb : NN ≤ 300 * 300 := by rw [← hNN]; exact Nat.mul_le_mul (by omega) (by omega)
    have HNE := Lib.hid (show ((a : Int) + (mo : Int)) * ((d : Int) + (mo : Int)) = (NN : Int) by rw [← hNN, Int.natCast_mul, Int.natCast_add, Int.natCast_add])
    clear hNN
    go_wp2_with fail
    rename_i K18 hK18
    have HK18 := Lib.hid hK18
    clear hK18
    have tail18 : ∀ (X : World) (g20 : Nat) (A20 : Option Addr) (c20 : Nat) (u22 u95 u96 u97 u98 u99 u100 u101 u102 u103 u104 u105 u106 u107 u108 u109 u110 u111 u112 u113 u114 u115 u116 u117 u118 u119 u120 u121 u122 u123 u124 u125 u126 u127 u128 u129 u130 u131 u132 u133 u134 u135 u136 u137 u138 u139 u140 u141 u142 u143 u144 u145 u146 u147 u148 u149 u150 u151 u152 u153 u154 u155 u156 u157 u158 u159 u160 u161 u162 u163 u164 u165 u166 u167 u168 u169 u170 u171 u172 u173 u174 u175 u176 u177 u178 u179 u180 u181 u182 u183 u184 u185 u186 u187 u188 u189 u190 u191 u192 u193 u194 u195 u196 u197 u198 u199 u200 u201 u202 u203 u204 u205 u206 u207 u208 u209 u210 u211 : Value), X.heap[g20]? = some (.cells (plrow (ptN wd h : Nat) (ptN ht s : Nat) A20 M c20) 24 (0, 0)) → Sl .i64 X A20 v → Below q0.heap.size q0 X → K18 { tmps := #[Value.agg #[Value.int IntKind.i64 (wd : Int), Value.int IntKind.i64 (ht : Int), Value.slice A l.length c], Value.int IntKind.i64 k, Value.int IntKind.i64 (mo : Int), Value.pointer (some { block := w.heap.size, off := 0 }), undef, undef, u6, Value.slice (some { block := bp, off := op }) 3 c7, Value.int IntKind.i64 0, Value.int IntKind.i64 (h : Int), Value.int IntKind.i64 (s : Int), Value.bool true, Value.int IntKind.i64 (a : Int), Value.int IntKind.i64 (d : Int), Value.int IntKind.i64 0, .int .i64 (j : Int), .int .i64 (a : Int), .int .i64 (d : Int), .slice A18 NN c18, .int .i64 0, .pointer (some ⟨g20, 0, none⟩), .int .i64 0, u22, undef, undef, undef, undef, undef, undef, undef, undef, Value.pointer (some { block := w.heap.size, off := 2 }), Value.slice A l.length c, Value.int IntKind.i64 (l.length : Int), Value.bool (decide (2000 < (l.length : Int))), Value.bool (decide (2000 < (l.length : Int))), Value.agg #[Value.int IntKind.i64 (wd : Int), Value.int IntKind.i64 (ht : Int), Value.slice A l.length c], Value.bool true, Value.bool false, Value.bool (decide (2000 < (l.length : Int))), undef, Value.int IntKind.i64 more, Value.int IntKind.i64 (mo : Int), Value.tuple #[Value.slice (some { block := bp, off := op }) 3 c7, Value.int IntKind.i64 0], Value.agg (rsrow ((wd : Int)) ((ht : Int)) A l.length c), Value.int IntKind.i64 k, Value.tuple #[Value.slice (some { block := bp, off := op }) 3 c7, Value.int IntKind.i64 0], Value.slice (some { block := bp, off := op }) 3 c7, Value.int IntKind.i64 0, Value.tuple #[Value.int IntKind.i64 (h : Int), Value.int IntKind.i64 (s : Int), Value.bool true], Value.int IntKind.i64 k, Value.tuple #[Value.int IntKind.i64 (h : Int), Value.int IntKind.i64 (s : Int), Value.bool true], Value.int IntKind.i64 (h : Int), Value.int IntKind.i64 (s : Int), Value.bool true, Value.tuple #[Value.int IntKind.i64 (a : Int), Value.int IntKind.i64 (d : Int), Value.int IntKind.i64 0], Value.pointer (some { block := w.heap.size, off := 0 }), Value.int IntKind.i64 (wd : Int), Value.pointer (some { block := w.heap.size, off := 1 }), Value.int IntKind.i64 (ht : Int), Value.int IntKind.i64 k, Value.tuple #[Value.int IntKind.i64 (a : Int), Value.int IntKind.i64 (d : Int), Value.int IntKind.i64 0], Value.int IntKind.i64 (a : Int), Value.int IntKind.i64 (d : Int), Value.int IntKind.i64 0, Value.bool true, Value.bool false, undef, undef, undef, undef, undef, undef, undef, undef, undef, Value.int IntKind.i64 0, Value.bool false, Value.bool false, Value.int IntKind.i64 0, Value.bool false, Value.bool false, Value.bool false, Value.slice (some { block := bp, off := op }) 3 c7, Value.int IntKind.i64 3, Value.bool false, Value.bool false, Value.bool false, Value.int IntKind.i64 (h : Int), Value.bool (decide ((h : Int) < 1)), Value.bool (decide ((h : Int) < 1)), Value.bool (decide ((h : Int) < 1)), Value.int IntKind.i64 (s : Int), Value.bool (decide ((s : Int) < 1)), Value.bool (decide ((h : Int) < 1) || decide ((s : Int) < 1)), u95, u96, u97, u98, u99, u100, u101, u102, u103, u104, u105, u106, u107, u108, u109, u110, u111, u112, u113, u114, u115, u116, u117, u118, u119, u120, u121, u122, u123, u124, u125, u126, u127, u128, u129, u130, u131, u132, u133, u134, u135, u136, u137, u138, u139, u140, u141, u142, u143, u144, u145, u146, u147, u148, u149, u150, u151, u152, u153, u154, u155, u156, u157, u158, u159, u160, u161, u162, u163, u164, u165, u166, u167, u168, u169, u170, u171, u172, u173, u174, u175, u176, u177, u178, u179, u180, u181, u182, u183, u184, u185, u186, u187, u188, u189, u190, u191, u192, u193, u194, u195, u196, u197, u198, u199, u200, u201, u202, u203, u204, u205, u206, u207, u208, u209, u210, u211, undef, undef, undef, undef, undef, undef, undef, undef, undef, undef, undef, undef, undef, undef, undef, undef, undef, undef, undef, undef, undef, undef, undef, undef, undef, undef, undef, undef, undef, undef, undef, undef, undef, undef, undef, undef, undef, undef, undef, undef, undef, undef, undef, undef, undef, undef, undef, undef, undef, undef, undef, undef, undef, undef, undef, undef, undef, undef, undef, undef, undef, undef, undef, undef, undef, undef, undef, undef, undef, undef, undef, undef, undef, undef, undef, undef, undef, undef, undef, undef, undef, undef, undef, undef, undef, undef, undef, undef, undef, undef, undef, undef, undef, undef, undef, undef, undef, undef], defers := [] } X := by
      intro X g20 A20 c20 u22 u95 u96 u97 u98 u99 u100 u101 u102 u103 u104 u105 u106 u107 u108 u109 u110 u111 u112 u113 u114 u115 u116 u117 u118 u119 u120 u121 u122 u123 u124 u125 u126 u127 u128 u129 u130 u131 u132 u133 u134 u135 u136 u137 u138 u139 u140 u141 u142 u143 u144 u145 u146 u147 u148 u149 u150 u151 u152 u153 u154 u155 u156 u157 u158 u159 u160 u161 u162 u163 u164 u165 u166 u167 u168 u169 u170 u171 u172 u173 u174 u175 u176 u177 u178 u179 u180 u181 u182 u183 u184 u185 u186 u187 u188 u189 u190 u191 u192 u193 u194 u195 u196 u197 u198 u199 u200 u201 u202 u203 u204 u205 u206 u207 u208 u209 u210 u211 hr20 hv2 hbx
      have R20 := Lib.hid hr20
      have HV2 := Lib.hid hv2
      have HBX := Lib.hid hbx
      clear hr20 hv2 hbx HO18
      refine HK18.out _ _ ?_
      clear HK18
      dsimp only
      have hne := HNE.out
      have hn0 : 0 ≤ ((a : Int) + (mo : Int)) * ((d : Int) + (mo : Int)) := by omega
      go_wp2_with fail
      have LT_R20 : _ < X.heap.size := row_lt R20.out
      have SZ : X.heap.size ≤ X.drew.heap.size := Nat.le_refl _
      have hb := ud' (brefl X)
      replace R20 := Lib.hid ((hb.block _ (row_lt R20.out)).trans R20.out)
      replace HV2 := Lib.hid (HV2.out.keep hb)
      replace HBX := Lib.hid (HBX.out.trans (hb.mono HBX.out.size))
      clear hb
      refine Tin.reg_begin (X.heap.size) 50 (by rfl) (by kernel_rfl) ?_
      have HBS : q0.heap.size ≤ X.heap.size := HBX.out.size
      have kW : ∀ p : Bel (X.heap.size) X.drew, p.w'.cell? ⟨bp, op + j * 3, none⟩ = some (.int .i64 (ptN wd h : Nat)) := fun p => rng_keep (HBX.out.trans (p.h.mono HBS)) hbp HRG.out 0 _ rfl
      have kH : ∀ p : Bel (X.heap.size) X.drew, p.w'.cell? ⟨bp, op + j * 3 + 1, none⟩ = some (.int .i64 (ptN ht s : Nat)) := fun p => rng_keep (HBX.out.trans (p.h.mono HBS)) hbp HRG.out 1 _ rfl
      have kV : ∀ p : Bel (X.heap.size) X.drew, p.w'.cell? ⟨bp, op + j * 3 + 2, none⟩ = some (.slice Ac M cc) := fun p => rng_keep (HBX.out.trans (p.h.mono HBS)) hbp HRG.out 2 _ rfl
      generalize X.drew = y0 at *
      have k0 : ∀ p : Bel (X.heap.size) y0, p.w'.cell? ⟨g20, 0, none⟩ = some (.int .i64 (ptN wd h : Nat)) := fun p => row_cell ((p.h.block _ LT_R20).trans R20.out) 0 rfl
      have k1 : ∀ p : Bel (X.heap.size) y0, p.w'.cell? ⟨g20, 1, none⟩ = some (.int .i64 (ptN ht s : Nat)) := fun p => row_cell ((p.h.block _ LT_R20).trans R20.out) 1 rfl
      have k2 : ∀ p : Bel (X.heap.size) y0, p.w'.cell? ⟨g20, 2, none⟩ = some (.slice A20 M c20) := fun p => row_cell ((p.h.block _ LT_R20).trans R20.out) 2 rfl
      refine Tin.reg_quiets [0, 1, 2, 3, 4, 5, 6, 7, 8, 9, 10, 11, 12, 13, 14, 15, 16, 17, 18, 19, 20, 21, 22, 23, 24, 25, 26, 27, 28, 29, 30, 31, 32, 33, 34, 35, 36, 37, 38, 39, 40, 41, 42, 43, 44, 45, 46, 47, 48, 49] _ 0 rfl (by simp only [Tin.pick, List.map_cons, List.map_nil, Array.getD_eq_getD_getElem?, List.getElem?_toArray, List.getElem?_cons_zero, List.getElem?_cons_succ, Option.getD_some]; rfl) (by kernel_rfl) (by kernel_rfl) ?_
      repeat (first | go_big_quiet_step (fail))
      refine wpQuiet_nil ?_
      clear k0 k1 k2
      clear kW kH kV
      refine Tin.reg_done (by kernel_rfl) ?_
      clear hne hn0
      go_wp2_with fail
      go_loopw [22] (fun s22 wr => ∃ (m : Nat), m ≤ M ∧ s22 = .int .i64 (m : Int) ∧ Below y0.heap.size y0 wr) (fun s22 _ => M - (intOf s22).toNat)
      case atStart => exact ⟨0, by omega, rfl, Below.refl _ _⟩
      case round =>
        obtain ⟨m, hm, rfl, hbm⟩ := hrel
        have HBM := Lib.hid hbm
        clear hbm
        have R20m := Lib.hid ((HBM.out.block _ (row_lt R20.out)).trans R20.out)
        have kk2 := row_cell (v := .slice A20 M c20) R20m.out 2 rfl
        by_cases hmM : m < M
        case neg =>
          obtain rfl : m = M := by omega
          go_wp2_with fail
          go_roundw
          case rel => exact ⟨j + 1, by omega, rfl, HBX.out.trans (HBM.out.mono HBX.out.size)⟩
          case measure => simp only [intOf]; omega
        have m1 : (m : Int) < (M : Int) := by omega
        obtain ⟨b, off, rfl, hlt, hc⟩ := HV2.out.at_ (by rw [HM.out]; omega)
        obtain ⟨b', off', rfl, hlt', hc'⟩ := HSL.out.at_ (by rw [HM.out]; omega)
        go_wp2_with fail
        clear kk2
        have HBE := Lib.hid (ud' HBM.out)
        have q1 : ∀ p : Bel y0.heap.size wr.drew, p.w'.cell? ⟨g20, 2, none⟩ = some (.slice (some ⟨b, off, none⟩) M c20) := fun p => row_cell (((HBE.out.trans p.h).block _ (row_lt R20.out)).trans R20.out) 2 rfl
        have q2 : ∀ p : Bel y0.heap.size wr.drew, p.w'.cell? ⟨b, off + m, none⟩ = some (.int .i64 (nth v m)) := fun p => ((HBE.out.trans p.h).cell (p := ⟨b, off + m, none⟩) hlt).trans (hc m (by rw [HM.out]; exact hmM))
        have q3 : ∀ p : Bel y0.heap.size wr.drew, p.w'.cell? ⟨bp, op + j * 3 + 2, none⟩ = some (.slice (some ⟨b', off', none⟩) M cc) := fun p => rng_keep (HBX.out.trans ((HBE.out.trans p.h).mono HBX.out.size)) hbp HRG.out 2 _ rfl
        have q4 : ∀ p : Bel y0.heap.size wr.drew, p.w'.cell? ⟨b', off' + m, none⟩ = some (.int .i64 (nth v m)) := fun p => ((HBX.out.trans ((HBE.out.trans p.h).mono HBX.out.size)).cell (p := ⟨b', off' + m, none⟩) hlt').trans (hc' m (by rw [HM.out]; exact hmM))
        clear hc hc'
        generalize nth v m = xv at *
        refine Tin.reg_begin y0.heap.size 14 (by rfl) (by kernel_rfl) ?_
        refine Tin.reg_quiets [0, 1, 2, 3, 4, 5, 6, 7, 8, 9, 10, 11, 12, 13] _ 0 rfl (by simp only [Tin.pick, List.map_cons, List.map_nil, Array.getD_eq_getD_getElem?, List.getElem?_toArray, List.getElem?_cons_zero, List.getElem?_cons_succ, Option.getD_some]; rfl) (by kernel_rfl) (by kernel_rfl) ?_
        repeat (first | go_big_quiet_step (fail))
        refine wpQuiet_nil ?_
        clear q1 q2 q3 q4
        refine Tin.reg_done (by kernel_rfl) ?_
        go_wp2_with fail
        exact ⟨⟨m + 1, by omega, rfl, HBE.out⟩, by simp only [intOf]; omega⟩
    have SS := Lib.hid (brefl x5)
    have SS_le_HBJ := HBJ.out.size
    have SZ : x5.heap.size ≤ x5.drew.heap.size := Nat.le_refl _
    have hb := ud' (brefl x5)
    replace HO18 := Lib.hid (HO18.out.keep hb)
    replace HBJ := Lib.hid (HBJ.out.trans (hb.mono HBJ.out.size))
    replace SS := Lib.hid (SS.out.trans (hb.mono SS.out.size))
    clear hb
    refine Tin.reg_begin (x5.heap.size) 21 (by rfl) (by kernel_rfl) ?_
    have HBS : q0.heap.size ≤ x5.heap.size := HBJ.out.size
    have kW : ∀ p : Bel (x5.heap.size) x5.drew, p.w'.cell? ⟨bp, op + j * 3, none⟩ = some (.int .i64 (ptN wd h : Nat)) := fun p => rng_keep (HBJ.out.trans (p.h.mono HBS)) hbp HRG.out 0 _ rfl
    have kH : ∀ p : Bel (x5.heap.size) x5.drew, p.w'.cell? ⟨bp, op + j * 3 + 1, none⟩ = some (.int .i64 (ptN ht s : Nat)) := fun p => rng_keep (HBJ.out.trans (p.h.mono HBS)) hbp HRG.out 1 _ rfl
    generalize x5.drew = v1 at *
    refine Tin.reg_quiets [0, 1, 2, 3, 4, 5, 6, 7, 8, 9, 10, 11, 12, 13] _ 7 rfl (by simp only [Tin.pick, List.map_cons, List.map_nil, Array.getD_eq_getD_getElem?, List.getElem?_toArray, List.getElem?_cons_zero, List.getElem?_cons_succ, Option.getD_some]; rfl) (by kernel_rfl) (by kernel_rfl) ?_
    repeat (first | go_big_quiet_step (fail))
    refine wpQuiet_nil ?_
    clear kW kH
    have HSZ1 : x5.heap.size ≤ v1.heap.size := SZ
    refine Tin.reg_two 14 18 _ _ rfl rfl (by kernel_rfl) ?_ ?_
    · try simp only [List.getElem_toArray, List.getElem_cons_succ, List.getElem_cons_zero]
      go_wp2_with fail
      try rw [ES1.out]
      refine (join_yes (blF (blkV (ptN wd h : Nat) (ptN ht s : Nat) v (a + mo)) NN) (ptN wd h) (ptN ht s) (a + mo) NN A18 c18 _ HO18.out.sl'.2.1 (blF_len _ _) (by omega) (by omega) (by omega) (by omega) (by omega) (by rw [← HNN.out]; exact Nat.mul_mod_right _ _) (by rw [← HNN.out, Nat.mul_div_cancel_left _ (by omega)]; omega)).mono ?_
      rintro e x6 ⟨A20, c20, rfl, hx6_0, hv⟩
      rw [HPQ.out]
      dsimp only
      go_wp2_with fail
      refine ⟨x5.heap.size, hv.mono SZ, Nat.le_refl _, ?_⟩
      replace HO18 := Lib.hid (HO18.out.keep hv)
      replace HBJ := Lib.hid (HBJ.out.trans (hv.mono HBJ.out.size))
      replace SS := Lib.hid (SS.out.trans (hv.mono SS.out.size))
      have HO20 := Lib.hid hx6_0
      replace SZ := Nat.le_trans SZ hv.size
      clear hx6_0 hv
      rw [join_back HMV.out (show ptN wd h ≤ 8 * (a + mo) by omega) (show ptN ht s ≤ 8 * (NN / (a + mo)) by rw [← HNN.out, Nat.mul_div_cancel_left _ (by omega)]; omega)] at HO20
      rw [HPQ.out] at HO20
      refine Tin.reg_quiets [15, 16, 17] _ 3 rfl (by simp only [Tin.pick, List.map_cons, List.map_nil, Array.getD_eq_getD_getElem?, List.getElem?_toArray, List.getElem?_cons_zero, List.getElem?_cons_succ, Option.getD_some]; rfl) (by kernel_rfl) (by kernel_rfl) ?_
      repeat (first | go_big_quiet_step (fail) | ((refine wpq_value (plA (ptN wd h : Nat) (ptN ht s : Nat) A20 M c20) rfl (fun W hC => by unfold execOp; rfl) ?_); simp only [Act.put, List.setIfInBounds_toArray, List.set_cons_succ, List.set_cons_zero]) | ((refine wpq_value (.int .i64 0) rfl (fun W hC => by unfold execOp; rfl) ?_); simp only [Act.put, List.setIfInBounds_toArray, List.set_cons_succ, List.set_cons_zero]))
      refine wpQuiet_nil ?_
      refine Tin.reg_one 18 _ rfl (by kernel_rfl) ?_
      try simp only [List.getElem_toArray, List.getElem_cons_succ, List.getElem_cons_zero]
      go_wp2_with fail
      refine ⟨x5.heap.size, (ba (brefl x6) (.cells (plrow 0 0 none 0 0) 24)).mono SZ, Nat.le_refl _, ?_⟩
      refine Tin.reg_one 19 _ rfl (by kernel_rfl) ?_
      try simp only [List.getElem_toArray, List.getElem_cons_succ, List.getElem_cons_zero]
      go_wp2_with fail
      have hv := ba (brefl x6) (.cells (plrow (ptN wd h : Nat) (ptN ht s : Nat) A20 M c20) 24)
      refine ⟨x5.heap.size, ⟨rfl, rfl, rfl, by simp, fun i hi => (heap_alloc_old x6 _ (Nat.lt_of_lt_of_le hi SZ)).trans (heap_alloc_old x6 _ (Nat.lt_of_lt_of_le hi SZ)).symm⟩, Nat.le_refl _, ?_⟩
      refine Tin.reg_quiets [20] _ 0 rfl (by simp only [Tin.pick, List.map_cons, List.map_nil, Array.getD_eq_getD_getElem?, List.getElem?_toArray, List.getElem?_cons_zero, List.getElem?_cons_succ, Option.getD_some]; rfl) (by kernel_rfl) (by kernel_rfl) ?_
      repeat (first | go_big_quiet_step (fail))
      refine wpQuiet_nil ?_
      refine Tin.reg_done (by kernel_rfl) ?_
      exact tail18 _ _ A20 c20 _ _ _ _ _ _ _ _ _ _ _ _ _ _ _ _ _ _ _ _ _ _ _ _ _ _ _ _ _ _ _ _ _ _ _ _ _ _ _ _ _ _ _ _ _ _ _ _ _ _ _ _ _ _ _ _ _ _ _ _ _ _ _ _ _ _ _ _ _ _ _ _ _ _ _ _ _ _ _ _ _ _ _ _ _ _ _ _ _ _ _ _ _ _ _ _ _ _ _ _ _ _ _ _ _ _ _ _ _ _ _ _ _ _ _ _ _ _ (heap_alloc_new x6 (.cells (plrow (ptN wd h : Nat) (ptN ht s : Nat) A20 M c20) 24)) (HO20.out.keep hv).sl'.2 (HBJ.out.trans (hv.mono HBJ.out.size))
    · try simp only [List.getElem_toArray, List.getElem_cons_succ, List.getElem_cons_zero]
      go_wp2_with fail
      have hv := ba (brefl v1) (.cells (plrow 0 0 none 0 0) 24)
      have r20 := heap_alloc_new v1 (.cells (plrow 0 0 none 0 0) 24)
      refine ⟨x5.heap.size, hv.mono SZ, Nat.le_refl _, ?_⟩
      replace HO18 := Lib.hid (HO18.out.keep hv)
      replace HBJ := Lib.hid (HBJ.out.trans (hv.mono HBJ.out.size))
      replace SS := Lib.hid (SS.out.trans (hv.mono SS.out.size))
      replace SZ := Nat.le_trans SZ hv.size
      have R20 := Lib.hid r20
      have R20 := Lib.hid r20
      clear r20 hv
      generalize (v1.alloc (.cells (plrow 0 0 none 0 0) 24)) = x6 at *
      have HR20x := Lib.hid (row_lt R20.out)
      refine Tin.reg_one 14 _ rfl (by kernel_rfl) ?_
      try simp only [List.getElem_toArray, List.getElem_cons_succ, List.getElem_cons_zero]
      go_wp2_with fail
      try rw [ES1.out]
      refine (join_yes (blF (blkV (ptN wd h : Nat) (ptN ht s : Nat) v (a + mo)) NN) (ptN wd h) (ptN ht s) (a + mo) NN A18 c18 _ HO18.out.sl'.2.1 (blF_len _ _) (by omega) (by omega) (by omega) (by omega) (by omega) (by rw [← HNN.out]; exact Nat.mul_mod_right _ _) (by rw [← HNN.out, Nat.mul_div_cancel_left _ (by omega)]; omega)).mono ?_
      rintro e x7 ⟨A20, c20, rfl, hx7_0, hv⟩
      rw [HPQ.out]
      dsimp only
      go_wp2_with fail
      refine ⟨x5.heap.size, hv.mono SZ, Nat.le_refl _, ?_⟩
      replace HO18 := Lib.hid (HO18.out.keep hv)
      replace R20 := Lib.hid ((hv.block _ (row_lt R20.out)).trans R20.out)
      replace HBJ := Lib.hid (HBJ.out.trans (hv.mono HBJ.out.size))
      replace SS := Lib.hid (SS.out.trans (hv.mono SS.out.size))
      have HO20 := Lib.hid hx7_0
      replace SZ := Nat.le_trans SZ hv.size
      clear hx7_0 hv
      rw [join_back HMV.out (show ptN wd h ≤ 8 * (a + mo) by omega) (show ptN ht s ≤ 8 * (NN / (a + mo)) by rw [← HNN.out, Nat.mul_div_cancel_left _ (by omega)]; omega)] at HO20
      rw [HPQ.out] at HO20
      refine Tin.reg_quiets [15, 16, 17] _ 2 rfl (by simp only [Tin.pick, List.map_cons, List.map_nil, Array.getD_eq_getD_getElem?, List.getElem?_toArray, List.getElem?_cons_zero, List.getElem?_cons_succ, Option.getD_some]; rfl) (by kernel_rfl) (by kernel_rfl) ?_
      repeat (first | go_big_quiet_step (fail) | ((refine wpq_value (plA (ptN wd h : Nat) (ptN ht s : Nat) A20 M c20) rfl (fun W hC => by unfold execOp; rfl) ?_); simp only [Act.put, List.setIfInBounds_toArray, List.set_cons_succ, List.set_cons_zero]) | ((refine wpq_value (.int .i64 0) rfl (fun W hC => by unfold execOp; rfl) ?_); simp only [Act.put, List.setIfInBounds_toArray, List.set_cons_succ, List.set_cons_zero]))
      refine wpQuiet_nil ?_
      refine Tin.reg_one 19 _ rfl (by kernel_rfl) ?_
      try simp only [List.getElem_toArray, List.getElem_cons_succ, List.getElem_cons_zero]
      go_wp2_with ((with_reducible refine wpl_store_row rtP ?_ (.tmp 20) (.tmp 139) ?_ (v1.heap.size) ?_ (plrow (ptN wd h : Nat) (ptN ht s : Nat) A20 M c20) ?_ (pl_one _ _ _ _ _) 24 ?_ (plrow 0 0 none 0 0) ?_ R20.out ?_); rfl; rfl; rfl; rfl; rfl; rfl; intro x8 hr20 hg20 hs20; (try simp only [Act.put, List.setIfInBounds_toArray, List.set_cons_succ, List.set_cons_zero]))
      have hq20 : x5.heap.size ≤ v1.heap.size := HSZ1
      refine ⟨x5.heap.size, (Below.refl _ _).grown hg20 SZ (fun k hk => by cases hk; exact hq20), Nat.le_refl _, ?_⟩
      refine Tin.reg_quiets [20] _ 0 rfl (by simp only [Tin.pick, List.map_cons, List.map_nil, Array.getD_eq_getD_getElem?, List.getElem?_toArray, List.getElem?_cons_zero, List.getElem?_cons_succ, Option.getD_some]; rfl) (by kernel_rfl) (by kernel_rfl) ?_
      repeat (first | go_big_quiet_step (fail))
      refine wpQuiet_nil ?_
      refine Tin.reg_done (by kernel_rfl) ?_
      exact tail18 _ _ A20 c20 _ _ _ _ _ _ _ _ _ _ _ _ _ _ _ _ _ _ _ _ _ _ _ _ _ _ _ _ _ _ _ _ _ _ _ _ _ _ _ _ _ _ _ _ _ _ _ _ _ _ _ _ _ _ _ _ _ _ _ _ _ _ _ _ _ _ _ _ _ _ _ _ _ _ _ _ _ _ _ _ _ _ _ _ _ _ _ _ _ _ _ _ _ _ _ _ _ _ _ _ _ _ _ _ _ _ _ _ _ _ _ _ _ _ _ _ _ _ hr20 ((HO20.out.kept hg20 (ne_own (fun q hq => by have h1 := (World.ownsRow.lt HO20.out q hq).1; have h2 := HR20x.out; omega))).sl'.2) (HBJ.out.grown hg20 HBJ.out.size (fun k hk => by cases hk; exact Nat.le_trans HBS hq20))
end Go.Proofs.Ytajobboldjgidaa
