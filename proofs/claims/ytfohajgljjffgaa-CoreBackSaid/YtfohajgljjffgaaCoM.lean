/- CoreBack. -/
import Derived.Test.YtfohajgljjffgaaCoL
namespace Go.Proofs.Ytfohajgljjffgaa
open Go.RowKit
open Go.Tin
set_option linter.unusedVariables false
set_option linter.unusedSimpArgs false


def aL : List Sg → Nat
  | [] => 0
  | s :: L => 4 + s.d.length + aL L
theorem aL_app (L M : List Sg) : aL (L ++ M) = aL L + aL M := by
  induction L with
  | nil => simp [aL]
  | cons s L ih => simp only [List.cons_append, aL, ih]; omega
theorem aL_take (L : List Sg) (i : Nat) : aL (L.take i) ≤ aL L := by
  conv => rhs; rw [← List.take_append_drop i L]
  rw [aL_app]; omega
theorem app_seg {s : Sg} (ha : isApp s = true) (hr : rightB s = true) : s.s = [] ∧ (segB s).length = 4 + s.d.length := by
  unfold isApp appB at ha
  simp at ha
  unfold rightB at hr
  simp at hr
  have h0 : s.s = [] := by
    rcases hr.2.2 with h | ⟨h, _⟩
    · exact h
    · omega
  refine ⟨h0, ?_⟩
  have hal : aloB s.m = false := by
    unfold aloB
    simp
    omega
  unfold segB
  rw [if_neg (by rw [hal]; decide), h0]
  simp
  omega
theorem wr_apps {M : List Sg} (h : ∀ s ∈ M, isApp s = true ∧ rightB s = true) : (wrL M).length = aL M := by
  induction M with
  | nil => rfl
  | cons s M ih =>
    have h1 := app_seg (h s (by simp)).1 (h s (by simp)).2
    simp only [wrL, aL, List.length_append, h1.2, ih fun x hx => h x (List.mem_cons_of_mem _ hx)]
theorem puts {l : List Int} {M : List Sg} (hby : Byts l) (h : pOK l M = true) :
    isB l = true ∧ imgE (pB l M) = 0 ∧ stL (pB l M) = l ∧ apL (pB l M) = M ∧ isB (pB l M) = decide (M.length = 0) ∧ (∀ s ∈ M, s.s = []) ∧ (pB l M).length = l.length + aL M := by
  have hb := h
  unfold pOK at hb
  rw [Bool.and_eq_true, Bool.and_eq_true] at hb
  obtain ⟨hb1, hb2, hb3⟩ := hb
  have hi := hb1
  unfold isB at hi
  rw [Bool.and_eq_true] at hi
  have h0 : imgE l = 0 := by simpa using hi.1
  have hna : (imgL l).any isApp = false := by simpa using hi.2
  have hma : M.any notApp = false := by simpa using hb2
  have hMa : ∀ s ∈ M, isApp s = true := fun s hs => by
    have := any_no hma s hs
    rw [na_iff] at this
    simpa using this
  obtain ⟨hm, hw, ho, hs⟩ := img_ok hby h0
  obtain ⟨L, hL⟩ : ∃ L, imgL l = L := ⟨_, rfl⟩
  have hpg : putG l M = L.take 1 ++ (M ++ L.drop 1) := by unfold putG; rw [hL]
  rw [hpg] at hb3
  rw [hL] at hm hw hs hna
  have hX : pB l M = wrL (L.take 1 ++ (M ++ L.drop 1)) := by rw [(p_yes h).1, hpg]
  have hsos : (L.take 1 ++ (M ++ L.drop 1)).any sosB = true := by
    obtain ⟨x, hx, h1⟩ := List.any_eq_true.1 hs
    refine List.any_eq_true.2 ⟨x, ?_, h1⟩
    rw [← List.take_append_drop 1 L] at hx
    rcases List.mem_append.1 hx with hx | hx
    · exact List.mem_append.2 (.inl hx)
    · exact List.mem_append.2 (.inr (List.mem_append.2 (.inr hx)))
  obtain ⟨i1, i2⟩ := img_wr hb3 hsos
  have hla : ∀ s ∈ L, isApp s = false := any_no hna
  have ht : ∀ s ∈ L.take 1, isApp s = false := fun s hs => hla s (List.mem_of_mem_take hs)
  have hd : ∀ s ∈ L.drop 1, isApp s = false := fun s hs => hla s (List.mem_of_mem_drop hs)
  have hf1 : (L.take 1 ++ (M ++ L.drop 1)).filter notApp = L := by
    rw [List.filter_append, List.filter_append, filter_all (fun s hs => by rw [na_iff, ht s hs]; rfl), filter_none (L := M) (fun s hs => by rw [na_iff, hMa s hs]; rfl), filter_all (fun s hs => by rw [na_iff, hd s hs]; rfl), List.nil_append, List.take_append_drop]
  have hf2 : (L.take 1 ++ (M ++ L.drop 1)).filter isApp = M := by
    rw [List.filter_append, List.filter_append, filter_none ht, filter_all hMa, filter_none hd, List.nil_append, List.append_nil]
  have hright : ∀ s ∈ M, rightB s = true := fun s hs => by
    refine app_right hb3 s ?_
    rw [hf2]; exact hs
  have hap : apL (pB l M) = M := by unfold apL; rw [hX, i2, hf2]
  refine ⟨hb1, by rw [hX]; exact i1, ?_, hap, ?_, fun s hs => (app_seg (hMa s hs) (hright s hs)).1, ?_⟩
  · unfold stL
    rw [hX, if_pos i1, i2, hf1, hw]
  · unfold isB
    rw [hX, i1, i2]
    cases hM : M with
    | nil =>
      simp only [List.nil_append, List.take_append_drop, hna]
      rfl
    | cons s M' =>
      have : ((L.take 1 ++ (s :: M' ++ L.drop 1)).any isApp) = true := List.any_eq_true.2 ⟨s, by simp, hMa s (by rw [hM]; simp)⟩
      rw [this]
      simp
  · rw [hX, wrL_app, wrL_app, List.length_append, List.length_append, wr_apps fun s hs => ⟨hMa s hs, hright s hs⟩]
    have e1 : (wrL L).length = (wrL (L.take 1)).length + (wrL (L.drop 1)).length := by
      conv => lhs; rw [← List.take_append_drop 1 L]
      rw [wrL_app, List.length_append]
    rw [hw] at e1
    omega
set_option maxRecDepth 100000 in
set_option maxHeartbeats 16000000 in
theorem cback_any (A : Option Addr) (len cap : Nat) (l : List Int) (Aa : Option Addr) (lena capa : Nat) (w : World) (hr : IsRow .u8 w A len cap l) (ft : Fits w (.slice 3 segSh) [.slice Aa lena capa]) (sz : Sized w (.slice 3 segSh) [.slice Aa lena capa]) :
    Calls Try.prog 5 #[.slice A len cap, .slice Aa lena capa] w fun e w' => e = .returned (.bool true) ∧ Below w.heap.size w w' := by
  obtain ⟨hs, hlen, hlc, hcm, hwf⟩ := Sl.of_row hr
  have hby := byts_wf hwf
  generalize l.take len = l at *
  subst hlen
  clear hwf hr
  obtain ⟨M, xs, rfl, h1, h2, hmc, hcma⟩ := segs_of_fits ft sz
  clear ft sz
  unfold maxLen at hcm
  have HV := Lib.hid (vast_any Aa capa M xs w h1 (sgv_n h2) (by omega))
  have H1 := Lib.hid h1
  have H2 := Lib.hid h2
  have HBY := Lib.hid hby
  have HS := Lib.hid hs
  clear h1 h2 hby hs
  by_cases h3 : 3000 < l.length
  · have i3 : (3000 : Int) < (l.length : Int) := by omega
    go_enter Try.func5, Try.ntmps5
    go_wp2_with fail
    refine (awake_any _).mono ?_
    rintro e w9 ⟨rfl, hb9⟩
    go_wp2_with fail
    go_ret
    exact ⟨rfl, hb9⟩
  have hl : l.length ≤ 3000 := by omega
  have i3 : (l.length : Int) ≤ 3000 := by omega
  clear h3
  go_enter Try.func5, Try.ntmps5
  go_wp2_with fail
  refine HV.out.mono ?_
  rintro e w' ⟨rfl, rfl⟩
  cases hv : vastB M with
  | true =>
    clear hv
    go_wp2_with fail
    refine (awake_any _).mono ?_
    rintro e w9 ⟨rfl, hb9⟩
    go_wp2_with fail
    go_ret
    exact ⟨rfl, hb9⟩
  | false =>
  have hvn := vast_no hv
  have hM : M.length ≤ 100000 := by omega
  have HMS := Lib.hid (show SegS w Aa M from ⟨xs, H1.out, sgv_s H2.out hvn.2.2⟩)
  have HBM := Lib.hid (sgv_s H2.out hvn.2.2).bys
  have HWM := Lib.hid (fun hm => putG_len HBY.out (show l.length ≤ 1000000 by omega) hv hm)
  have HWL := Lib.hid (fun hm => Nat.le_trans (HWM.out hm) (show l.length + 3160 ≤ 900000 by omega))
  clear hv hvn H1 H2 HV
  go_wp2_with fail
  refine (cput_any A l cap Aa capa M w HS.out hlc (by omega) HBY.out HMS.out hM hmc HWL.out).mono ?_
  rintro e v1 ⟨A1, c1, rfl, ho1, hy1, hb1⟩
  have HO1 := Lib.hid ho1
  have HYX := Lib.hid hy1
  have HB1 := Lib.hid hb1
  clear ho1 hy1 hb1 HWL
  cases hp : pOK l M with
  | false =>
    obtain ⟨hp1, hp2⟩ := p_no hp
    rw [hp2, hp1]
    clear hp hp1 hp2 HO1 HYX HWM
    go_wp2_with fail
    refine (awake_any _).mono ?_
    rintro e w9 ⟨rfl, hb9⟩
    go_wp2_with fail
    go_ret
    exact ⟨rfl, HB1.out.trans (hb9.mono HB1.out.size)⟩
  | true =>
  obtain ⟨hp1, hp2⟩ := p_yes hp
  obtain ⟨q1, q2, q3, q4, q5, q6, q7⟩ := puts HBY.out hp
  have hxl : (pB l M).length ≤ l.length + 3160 := by
    rw [hp1]
    refine HWM.out ?_
    unfold pOK at hp
    rw [Bool.and_eq_true, Bool.and_eq_true] at hp
    exact hp.2.2
  rw [hp2]
  clear hp hp1 hp2 HWM
  obtain ⟨X, hX⟩ : ∃ X, pB l M = X := ⟨_, rfl⟩
  rw [hX] at q2 q3 q4 q5 q7 hxl HO1 HYX ⊢
  clear hX
  have Q1 := Lib.hid q1
  have Q2 := Lib.hid q2
  have Q3 := Lib.hid q3
  have Q4 := Lib.hid q4
  have Q5 := Lib.hid q5
  have Q6 := Lib.hid q6
  have Q7 := Lib.hid q7
  clear q1 q2 q3 q4 q5 q6 q7
  have hc1 : X.length ≤ c1 := by obtain ⟨_, _, he, _, h1, _⟩ := HO1.out.sl; injection he with _ _ h2; omega
  go_wp2_with fail
  refine (strip_any A1 X c1 v1 HO1.out.sl'.2 hc1 (by omega) HYX.out).mono ?_
  rintro e v2 ⟨A2, c2, rfl, ho2, _, hb2⟩
  rw [Q3.out] at ho2 ⊢
  rw [Q2.out]
  have HO2 := Lib.hid ho2
  have HB2 := Lib.hid (HB1.out.trans (hb2.mono HB1.out.size))
  replace HO1 := Lib.hid (HO1.out.keep hb2)
  clear ho2 hb2
  go_wp2_with fail
  refine (capps_any A1 X c1 v2 HO1.out.sl'.2 hc1 (by omega) HYX.out).mono ?_
  rintro e v3 ⟨A3, c3, ys, rfl, ho3, hs3, hb3⟩
  rw [Q4.out] at ho3 hs3 ⊢
  rw [Q2.out]
  have HS3 := Lib.hid (SegS.own ho3 hs3 HBM.out)
  have HB3 := Lib.hid (HB2.out.trans (hb3.mono HB2.out.size))
  replace HO1 := Lib.hid (HO1.out.keep hb3)
  replace HO2 := Lib.hid (HO2.out.keep hb3)
  clear ho3 hs3 hb3
  have k1 := Lib.hid (str_run Try.underlying22 Try.underlying5 Try.underlying9 HO2.out.sl'.2 l.length c2 rfl)
  have k2 := Lib.hid (str_run Try.underlying22 Try.underlying5 Try.underlying9 (HS.out.keep HB3.out) l.length cap rfl)
  generalize strOf l = S1 at *
  go_wp2_with fail
  rw [k1.out]
  simp only [Result.andThen]
  rw [Oper.upon_value]
  go_wp2_with fail
  rw [k2.out]
  simp only [Result.andThen]
  rw [Oper.upon_value]
  clear k1 k2
  go_wp2_with fail
  refine (is_any A l cap v3 (HS.out.keep HB3.out) hlc (by omega) HBY.out).mono ?_
  rintro e v4 ⟨rfl, hb4⟩
  rw [Q1.out]
  have HB4 := Lib.hid (HB3.out.trans (hb4.mono HB3.out.size))
  replace HO1 := Lib.hid (HO1.out.keep hb4)
  replace HS3 := Lib.hid (HS3.out.keep hb4)
  clear hb4
  go_wp2_with fail
  refine (is_any A1 X c1 v4 HO1.out.sl'.2 hc1 (by omega) HYX.out).mono ?_
  rintro e v5 ⟨rfl, hb5⟩
  rw [Q5.out]
  have HB5 := Lib.hid (HB4.out.trans (hb5.mono HB4.out.size))
  replace HS3 := Lib.hid (HS3.out.keep hb5)
  have HMS5 := Lib.hid (HMS.out.keep HB5.out)
  clear hb5 HO1 HO2 HMS HYX HBM HB4 HB3 HB2 HB1
  have HP0 : (decide (M.length = 0) = true ∧ ((M.length : Int) == 0) = true) ∨ (decide (M.length = 0) = false ∧ ((M.length : Int) == 0) = false) := by
    rcases Nat.eq_zero_or_pos M.length with h | h
    · exact .inl ⟨decide_eq_true h, by rw [h]; rfl⟩
    · exact .inr ⟨decide_eq_false (by omega), by rw [beq_eq_false_iff_ne]; omega⟩
  obtain ⟨N, hN⟩ : ∃ N, M.length = N := ⟨_, rfl⟩
  rw [hN] at HP0 hM ⊢
  have HN := Lib.hid hN
  clear hN
  obtain ⟨xn, hxn⟩ : ∃ xn, X.length = xn := ⟨_, rfl⟩
  rw [hxn] at hxl ⊢
  have HXN := Lib.hid (hxn.symm.trans Q7.out)
  clear hxn
  rcases HP0 with ⟨hd, he⟩ | ⟨hd, he⟩
  · rw [hd]
    clear hd
    go_wp2_with fail
    clear he
    go_loopw [11, 12] (fun s11 s12 wr => ∃ i n : Nat, i ≤ N ∧ n ≤ xn ∧ n = l.length + aL (M.take i) ∧ s12 = .int .i64 (i : Int) ∧ s11 = .int .i64 (n : Int) ∧ Below v5.heap.size v5 wr) (fun _ s12 _ => N - (intOf s12).toNat)
    case atStart => exact ⟨0, l.length, by omega, by have := HXN.out; omega, by simp [aL], rfl, rfl, Below.refl _ _⟩
    case round =>
      obtain ⟨i, n, hi, hnx, hn, rfl, rfl, hb⟩ := hrel
      have HNN := Lib.hid hn
      have HB := Lib.hid hb
      clear hn hb
      by_cases hil : i < N
      case neg =>
        obtain rfl : i = N := by omega
        obtain rfl : n = xn := by
          have := HNN.out
          rw [List.take_of_length_le (Nat.le_of_eq HN.out)] at this
          rw [this, HXN.out]
        clear HNN HXN
        go_wp2_with fail
        refine (awake_any _).mono ?_
        rintro e w9 ⟨rfl, hb9⟩
        go_wp2_with fail
        go_ret
        exact ⟨rfl, HB5.out.trans ((HB.out.trans (hb9.mono HB.out.size)).mono HB5.out.size)⟩
      have i1 : (i : Int) < (N : Int) := by omega
      obtain ⟨b, off, rfl, hlt, hc⟩ := (HS3.out.keep HB.out).at_ (by rw [HN.out]; omega)
      obtain ⟨m1, d1, s1, B1, e1, B2, e2, hx, h0, h1, h2, _, hp1, hp2⟩ := hc i (by rw [HN.out]; exact hil)
      obtain ⟨b', off', rfl, hlt', hc'⟩ := (HMS5.out.keep HB.out).at_ (by rw [HN.out]; omega)
      obtain ⟨m2, d2, s2, C1, f1, C2, f2, hy, g0, g1, g2, _, hq1, hq2⟩ := hc' i (by rw [HN.out]; exact hil)
      obtain ⟨rfl, rfl, rfl⟩ : m1 = m2 ∧ d1 = d2 ∧ s1 = s2 := by
        rw [hx] at hy
        injection hy with hy
        injection hy with a1 a2 a3
        exact ⟨a1, a2, a3⟩
      have hs0 : s1 = [] := Q6.out ⟨m1, d1, s1⟩ (List.mem_of_getElem? hx)
      have n1 : ((s1.length : Int) != 0) = false := by rw [hs0]; rfl
      clear hs0
      have hst : aL (M.take (i + 1)) = aL (M.take i) + (4 + d1.length) := by rw [take_nextG hx, aL_app]; simp [aL]
      have hle : n + (4 + d1.length) ≤ xn := by
        have h1 := aL_take M (i + 1)
        have h2 := HNN.out
        have h3 := HXN.out
        omega
      have HST := Lib.hid hst
      clear hst
      obtain ⟨_, HD1, _, HY1, _⟩ := hp1.sl
      obtain ⟨_, HD2, _, HY2, _⟩ := hq1.sl
      clear hp1 hp2 hq1 hq2 HY1 HY2 hx hy hc hc'
      have k0 : ∀ p : Bel wr.heap.size wr.drew, p.w'.cell? ⟨b, off + i * 3, none⟩ = some (.int .i64 m1) := fun p => (p.h.cell (p := ⟨b, off + i * 3, none⟩) hlt).trans h0
      have k1 : ∀ p : Bel wr.heap.size wr.drew, p.w'.cell? ⟨b, off + i * 3 + 1, none⟩ = some (.slice B1 d1.length e1) := fun p => (p.h.cell (p := ⟨b, off + i * 3 + 1, none⟩) hlt).trans h1
      have k2 : ∀ p : Bel wr.heap.size wr.drew, p.w'.cell? ⟨b, off + i * 3 + 2, none⟩ = some (.slice B2 s1.length e2) := fun p => (p.h.cell (p := ⟨b, off + i * 3 + 2, none⟩) hlt).trans h2
      have k3 : ∀ p : Bel wr.heap.size wr.drew, p.w'.cell? ⟨b', off' + i * 3, none⟩ = some (.int .i64 m1) := fun p => (p.h.cell (p := ⟨b', off' + i * 3, none⟩) hlt').trans g0
      have k4 : ∀ p : Bel wr.heap.size wr.drew, p.w'.cell? ⟨b', off' + i * 3 + 1, none⟩ = some (.slice C1 d1.length f1) := fun p => (p.h.cell (p := ⟨b', off' + i * 3 + 1, none⟩) hlt').trans g1
      have k5 : wr.drew.cell? ⟨b', off' + i * 3 + 1, none⟩ = some (.slice C1 d1.length f1) := g1
      clear h0 h1 h2 g0 g1 g2
      have KHD1 := Lib.hid (fun (W : World) (h : ∃ p : Bel wr.heap.size wr.drew, W = p.w') => (show Sl .u8 wr.drew _ _ from HD1).keep (show Below wr.drew.heap.size wr.drew W from inBel_iff.1 h))
      have KHD2 := Lib.hid (fun (W : World) (h : ∃ p : Bel wr.heap.size wr.drew, W = p.w') => (show Sl .u8 wr.drew _ _ from HD2).keep (show Below wr.drew.heap.size wr.drew W from inBel_iff.1 h))
      have HB2 := Lib.hid (show Below v5.heap.size v5 wr.drew from ud' HB.out)
      clear HD1 HD2
      go_wp2_with fail
      refine Tin.reg_begin wr.heap.size 35 (by rfl) (by kernel_rfl) ?_
      refine Tin.reg_quiets [0, 1, 2, 3, 4, 5, 6, 7, 8, 9, 10, 11, 12, 13, 14, 15, 16, 17, 18, 19, 20, 21, 22, 23, 24, 25, 26, 27, 28, 29, 30, 31, 32, 33, 34] _ 0 rfl (by simp only [Tin.pick, List.map_cons, List.map_nil, Array.getD_eq_getD_getElem?, List.getElem?_toArray, List.getElem?_cons_zero, List.getElem?_cons_succ, Option.getD_some]; rfl) (by kernel_rfl) (by kernel_rfl) ?_
      repeat (first | ((with_reducible refine wpq_str (P := Try.prog) Try.underlying22 Try.underlying5 Try.underlying9 ?_ (.tmp 102) ?_ B1 d1 d1.length e1 ?_ ?_ KHD1.out ?_); rfl; rfl; rfl; rfl; simp only [Act.put, List.setIfInBounds_toArray, List.set_cons_succ, List.set_cons_zero]) | ((with_reducible refine wpq_str (P := Try.prog) Try.underlying22 Try.underlying5 Try.underlying9 ?_ (.tmp 108) ?_ C1 d1 d1.length f1 ?_ ?_ KHD2.out ?_); rfl; rfl; rfl; rfl; simp only [Act.put, List.setIfInBounds_toArray, List.set_cons_succ, List.set_cons_zero]) | go_big_quiet_step (fail))
      refine wpQuiet_nil ?_
      refine Tin.reg_done (by kernel_rfl) ?_
      go_wp2_with fail
      exact ⟨⟨i + 1, n + (4 + d1.length), by omega, hle, by have := HNN.out; have := HST.out; omega, by first | rfl | (congr 1), by first | rfl | (refine congrArg (Value.int .i64) ?_; omega), HB2.out⟩, by simp only [intOf]; omega⟩
  · rw [hd]
    clear hd
    go_wp2_with fail
    clear he
    go_loopw [11, 12] (fun s11 s12 wr => ∃ i n : Nat, i ≤ N ∧ n ≤ xn ∧ n = l.length + aL (M.take i) ∧ s12 = .int .i64 (i : Int) ∧ s11 = .int .i64 (n : Int) ∧ Below v5.heap.size v5 wr) (fun _ s12 _ => N - (intOf s12).toNat)
    case atStart => exact ⟨0, l.length, by omega, by have := HXN.out; omega, by simp [aL], rfl, rfl, Below.refl _ _⟩
    case round =>
      obtain ⟨i, n, hi, hnx, hn, rfl, rfl, hb⟩ := hrel
      have HNN := Lib.hid hn
      have HB := Lib.hid hb
      clear hn hb
      by_cases hil : i < N
      case neg =>
        obtain rfl : i = N := by omega
        obtain rfl : n = xn := by
          have := HNN.out
          rw [List.take_of_length_le (Nat.le_of_eq HN.out)] at this
          rw [this, HXN.out]
        clear HNN HXN
        go_wp2_with fail
        refine (awake_any _).mono ?_
        rintro e w9 ⟨rfl, hb9⟩
        go_wp2_with fail
        go_ret
        exact ⟨rfl, HB5.out.trans ((HB.out.trans (hb9.mono HB.out.size)).mono HB5.out.size)⟩
      have i1 : (i : Int) < (N : Int) := by omega
      obtain ⟨b, off, rfl, hlt, hc⟩ := (HS3.out.keep HB.out).at_ (by rw [HN.out]; omega)
      obtain ⟨m1, d1, s1, B1, e1, B2, e2, hx, h0, h1, h2, _, hp1, hp2⟩ := hc i (by rw [HN.out]; exact hil)
      obtain ⟨b', off', rfl, hlt', hc'⟩ := (HMS5.out.keep HB.out).at_ (by rw [HN.out]; omega)
      obtain ⟨m2, d2, s2, C1, f1, C2, f2, hy, g0, g1, g2, _, hq1, hq2⟩ := hc' i (by rw [HN.out]; exact hil)
      obtain ⟨rfl, rfl, rfl⟩ : m1 = m2 ∧ d1 = d2 ∧ s1 = s2 := by
        rw [hx] at hy
        injection hy with hy
        injection hy with a1 a2 a3
        exact ⟨a1, a2, a3⟩
      have hs0 : s1 = [] := Q6.out ⟨m1, d1, s1⟩ (List.mem_of_getElem? hx)
      have n1 : ((s1.length : Int) != 0) = false := by rw [hs0]; rfl
      clear hs0
      have hst : aL (M.take (i + 1)) = aL (M.take i) + (4 + d1.length) := by rw [take_nextG hx, aL_app]; simp [aL]
      have hle : n + (4 + d1.length) ≤ xn := by
        have h1 := aL_take M (i + 1)
        have h2 := HNN.out
        have h3 := HXN.out
        omega
      have HST := Lib.hid hst
      clear hst
      obtain ⟨_, HD1, _, HY1, _⟩ := hp1.sl
      obtain ⟨_, HD2, _, HY2, _⟩ := hq1.sl
      clear hp1 hp2 hq1 hq2 HY1 HY2 hx hy hc hc'
      have k0 : ∀ p : Bel wr.heap.size wr.drew, p.w'.cell? ⟨b, off + i * 3, none⟩ = some (.int .i64 m1) := fun p => (p.h.cell (p := ⟨b, off + i * 3, none⟩) hlt).trans h0
      have k1 : ∀ p : Bel wr.heap.size wr.drew, p.w'.cell? ⟨b, off + i * 3 + 1, none⟩ = some (.slice B1 d1.length e1) := fun p => (p.h.cell (p := ⟨b, off + i * 3 + 1, none⟩) hlt).trans h1
      have k2 : ∀ p : Bel wr.heap.size wr.drew, p.w'.cell? ⟨b, off + i * 3 + 2, none⟩ = some (.slice B2 s1.length e2) := fun p => (p.h.cell (p := ⟨b, off + i * 3 + 2, none⟩) hlt).trans h2
      have k3 : ∀ p : Bel wr.heap.size wr.drew, p.w'.cell? ⟨b', off' + i * 3, none⟩ = some (.int .i64 m1) := fun p => (p.h.cell (p := ⟨b', off' + i * 3, none⟩) hlt').trans g0
      have k4 : ∀ p : Bel wr.heap.size wr.drew, p.w'.cell? ⟨b', off' + i * 3 + 1, none⟩ = some (.slice C1 d1.length f1) := fun p => (p.h.cell (p := ⟨b', off' + i * 3 + 1, none⟩) hlt').trans g1
      have k5 : wr.drew.cell? ⟨b', off' + i * 3 + 1, none⟩ = some (.slice C1 d1.length f1) := g1
      clear h0 h1 h2 g0 g1 g2
      have KHD1 := Lib.hid (fun (W : World) (h : ∃ p : Bel wr.heap.size wr.drew, W = p.w') => (show Sl .u8 wr.drew _ _ from HD1).keep (show Below wr.drew.heap.size wr.drew W from inBel_iff.1 h))
      have KHD2 := Lib.hid (fun (W : World) (h : ∃ p : Bel wr.heap.size wr.drew, W = p.w') => (show Sl .u8 wr.drew _ _ from HD2).keep (show Below wr.drew.heap.size wr.drew W from inBel_iff.1 h))
      have HB2 := Lib.hid (show Below v5.heap.size v5 wr.drew from ud' HB.out)
      clear HD1 HD2
      go_wp2_with fail
      refine Tin.reg_begin wr.heap.size 35 (by rfl) (by kernel_rfl) ?_
      refine Tin.reg_quiets [0, 1, 2, 3, 4, 5, 6, 7, 8, 9, 10, 11, 12, 13, 14, 15, 16, 17, 18, 19, 20, 21, 22, 23, 24, 25, 26, 27, 28, 29, 30, 31, 32, 33, 34] _ 0 rfl (by simp only [Tin.pick, List.map_cons, List.map_nil, Array.getD_eq_getD_getElem?, List.getElem?_toArray, List.getElem?_cons_zero, List.getElem?_cons_succ, Option.getD_some]; rfl) (by kernel_rfl) (by kernel_rfl) ?_
      repeat (first | ((with_reducible refine wpq_str (P := Try.prog) Try.underlying22 Try.underlying5 Try.underlying9 ?_ (.tmp 102) ?_ B1 d1 d1.length e1 ?_ ?_ KHD1.out ?_); rfl; rfl; rfl; rfl; simp only [Act.put, List.setIfInBounds_toArray, List.set_cons_succ, List.set_cons_zero]) | ((with_reducible refine wpq_str (P := Try.prog) Try.underlying22 Try.underlying5 Try.underlying9 ?_ (.tmp 108) ?_ C1 d1 d1.length f1 ?_ ?_ KHD2.out ?_); rfl; rfl; rfl; rfl; simp only [Act.put, List.setIfInBounds_toArray, List.set_cons_succ, List.set_cons_zero]) | go_big_quiet_step (fail))
      refine wpQuiet_nil ?_
      refine Tin.reg_done (by kernel_rfl) ?_
      go_wp2_with fail
      exact ⟨⟨i + 1, n + (4 + d1.length), by omega, hle, by have := HNN.out; have := HST.out; omega, by first | rfl | (congr 1), by first | rfl | (refine congrArg (Value.int .i64) ?_; omega), HB2.out⟩, by simp only [intOf]; omega⟩
end Go.Proofs.Ytfohajgljjffgaa
