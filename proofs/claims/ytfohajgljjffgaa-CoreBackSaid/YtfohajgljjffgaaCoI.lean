/- CorePuts: the walk. -/
import Derived.Test.YtfohajgljjffgaaCoH
namespace Go.Proofs.Ytfohajgljjffgaa
open Go.RowKit
open Go.Tin
set_option linter.unusedVariables false
set_option linter.unusedSimpArgs false


theorem may_d {L : List Sg} (hm : mayB L = true) : ∀ s ∈ L, s.d.length ≤ 65533 := by
  obtain ⟨x, M, y, rfl, hx, hy, hM⟩ := may_iff.1 hm
  have hbare : ∀ (z : Sg) (m : Int), bareB z m = true → z.d.length ≤ 65533 := fun z m h => by
    unfold bareB at h; simp at h; rw [h.2.1]; simp
  intro s hs
  rcases List.mem_cons.1 hs with rfl | hs
  · exact hbare _ _ hx
  · rcases List.mem_append.1 hs with hs | hs
    · have := hM s hs
      unfold rightB at this; simp at this; exact this.2.1
    · rw [List.mem_singleton.1 hs]; exact hbare _ _ hy
theorem wrL_len2 : ∀ (L : List Sg), (∀ s ∈ L, s.d.length ≤ 65533) → (wrL L).length ≤ 4 * L.length + vS L
  | [], _ => by simp [wrL, vS]
  | s :: L, h => by
    have ih := wrL_len2 L fun x hx => h x (List.mem_cons_of_mem _ hx)
    have h1 := segB_len s
    have h2 := h s (List.mem_cons_self ..)
    have h3 : vN s = s.d.length + s.s.length := by unfold vN; rw [if_pos (.inl h2)]
    simp only [wrL, vS, List.length_append, List.length_cons]
    omega
theorem putG_len {l : List Int} (hby : Byts l) (hl : l.length ≤ 1000000) {M : List Sg} (hv : vastB M = false) (hm : mayB (putG l M) = true) : (wrL (putG l M)).length ≤ l.length + 3160 := by
  have h1 := wrL_len2 M fun s hs => may_d hm s (by unfold putG; exact List.mem_append.2 (.inr (List.mem_append.2 (.inl hs))))
  have h2 := vast_no hv
  have h3 : (wrL (imgL l)).length ≤ l.length := by
    rcases (img_by hby hl).2.2 with h | h
    · rw [(img_ok hby h).2.1]; exact Nat.le_refl _
    · rw [h.2]; simp [wrL]
  have h4 : (wrL (imgL l)).length = (wrL ((imgL l).take 1)).length + (wrL ((imgL l).drop 1)).length := by
    conv => lhs; rw [← List.take_append_drop 1 (imgL l)]
    rw [wrL_app, List.length_append]
  unfold putG
  rw [wrL_app, wrL_app, List.length_append, List.length_append]
  omega
set_option maxRecDepth 100000 in
set_option maxHeartbeats 16000000 in
theorem cputs_any (A : Option Addr) (len cap : Nat) (l : List Int) (Aa : Option Addr) (lena capa : Nat) (w : World) (hr : IsRow .u8 w A len cap l) (ft : Fits w (.slice 3 segSh) [.slice Aa lena capa]) (sz : Sized w (.slice 3 segSh) [.slice Aa lena capa]) :
    Calls Try.prog 4 #[.slice A len cap, .slice Aa lena capa] w fun e w' => e = .returned (.bool true) ∧ Below w.heap.size w w' := by
  obtain ⟨hs, hlen, hlc, hcm, hwf⟩ := Sl.of_row hr
  have hby := byts_wf hwf
  generalize l.take len = l at *
  subst hlen
  clear hwf hr
  obtain ⟨M, xs, rfl, h1, h2, hmc, hcma⟩ := segs_of_fits ft sz
  clear ft sz
  unfold maxLen at hcm
  have HV := Lib.hid (vast_any Aa capa M xs w h1 (sgv_n h2) (by omega))
  have H1 := Lib.hid h1
  have H2 := Lib.hid h2
  have HBY := Lib.hid hby
  have HS := Lib.hid hs
  clear h1 h2 hby hs
  by_cases h3 : 3000 < l.length
  · have i3 : (3000 : Int) < (l.length : Int) := by omega
    go_enter Try.func4, Try.ntmps4
    go_wp2_with fail
    refine (awake_any _).mono ?_
    rintro e w9 ⟨rfl, hb9⟩
    go_wp2_with fail
    go_ret
    exact ⟨rfl, hb9⟩
  have hl : l.length ≤ 3000 := by omega
  have i3 : (l.length : Int) ≤ 3000 := by omega
  clear h3
  go_enter Try.func4, Try.ntmps4
  go_wp2_with fail
  refine HV.out.mono ?_
  rintro e w' ⟨rfl, rfl⟩
  cases hv : vastB M with
  | true =>
    clear hv
    go_wp2_with fail
    refine (awake_any _).mono ?_
    rintro e w9 ⟨rfl, hb9⟩
    go_wp2_with fail
    go_ret
    exact ⟨rfl, hb9⟩
  | false =>
  have hvn := vast_no hv
  have hM : M.length ≤ 100000 := by omega
  have HMS := Lib.hid (show SegS w Aa M from ⟨xs, H1.out, sgv_s H2.out hvn.2.2⟩)
  have HBM := Lib.hid (sgv_s H2.out hvn.2.2).bys
  have HWL := Lib.hid (fun hm => Nat.le_trans (putG_len HBY.out (by omega) hv hm) (show l.length + 3160 ≤ 900000 by omega))
  clear hv hvn H1 H2 HV
  have HE0 := Lib.hid (Own.new0 (k := .u8) (e := 5) w)
  have HBA := Lib.hid (ba (brefl w) (.cells #[] 5))
  have HSA := Lib.hid (HS.out.keep HBA.out)
  go_wp2_with (at_builtin; refine Tin.wpl_app bt5 _ rfl (.tmp 19) (.tmp 20) rfl w.heap.size _ [] rfl HE0.out A l.length cap l rfl HSA.out rfl (by simp; omega) (by simp; omega) (by simp) ?_; intro x1 v1 ho hg hw; rw [List.nil_append] at ho; obtain ⟨A1, c1, rfl⟩ := own_form ho; have HO := Lib.hid ho; have HB1 := Lib.hid (HE0.out.grown HBA.out (by simp) hg); clear ho hg hw)
  clear HE0 HBA HSA
  have hc1 : l.length ≤ c1 := by obtain ⟨_, _, he, _, h1, _⟩ := HO.out.sl; injection he with _ _ h2; omega
  refine (own_any Aa capa M v1 (HMS.out.keep HB1.out) (by omega)).mono ?_
  rintro e v2 ⟨A2, c2, ys, rfl, ho2, hs2, hb2⟩
  have HS2 := Lib.hid (SegS.own ho2 hs2 HBM.out)
  have hc2 : M.length ≤ c2 := ho2.sl'.2.2.1
  have HB2 := Lib.hid (HB1.out.trans (hb2.mono HB1.out.size))
  replace HO := Lib.hid (HO.out.keep hb2)
  clear ho2 hs2 hb2
  go_wp2_with fail
  refine (cput_any A1 l c1 A2 c2 M v2 HO.out.sl'.2 hc1 (by omega) HBY.out HS2.out hM hc2 HWL.out).mono ?_
  rintro e v3 ⟨A3, c3, rfl, ho3, hy3, hb3⟩
  have HO3 := Lib.hid ho3
  have HB3 := Lib.hid (HB2.out.trans (hb3.mono HB2.out.size))
  replace HO := Lib.hid (HO.out.keep hb3)
  replace HS2 := Lib.hid (HS2.out.keep hb3)
  clear ho3 hy3 hb3
  have HPE := Lib.hid (show (pOK l M = true ∧ pE l M = 0) ∨ (pOK l M = false ∧ pE l M = 1) by
    cases h : pOK l M with
    | true => exact .inl ⟨rfl, (p_yes h).2⟩
    | false => exact .inr ⟨rfl, (p_no h).2⟩)
  go_wp2_with fail
  refine (rput_any A l cap Aa capa M v3 (HS.out.keep HB3.out) hlc (by omega) HBY.out (HMS.out.keep HB3.out) hM HWL.out).mono ?_
  rintro e v4 ⟨A4, c4, rfl, ho4, hy4, hb4⟩
  have HB4 := Lib.hid (HB3.out.trans (hb4.mono HB3.out.size))
  have k1 := Lib.hid (str_run Try.underlying22 Try.underlying5 Try.underlying9 (HO3.out.keep hb4).sl'.2 (pB l M).length c3 rfl)
  have k2 := Lib.hid (str_run Try.underlying22 Try.underlying5 Try.underlying9 ho4.sl'.2 (pB l M).length c4 rfl)
  have k3 := Lib.hid (str_run Try.underlying22 Try.underlying5 Try.underlying9 (HO.out.keep hb4).sl'.2 l.length c1 rfl)
  have k4 := Lib.hid (str_run Try.underlying22 Try.underlying5 Try.underlying9 (HS.out.keep HB4.out) l.length cap rfl)
  replace HS2 := Lib.hid (HS2.out.keep hb4)
  have HMS4 := Lib.hid (HMS.out.keep HB4.out)
  clear ho4 hy4 hb4 HWL
  generalize strOf (pB l M) = S1 at *
  generalize strOf l = S2 at *
  generalize (pB l M).length = pn at *
  rcases HPE.out with ⟨hp1, hp2⟩ | ⟨hp1, hp2⟩
  · rw [hp1, hp2]
    clear hp1 hp2 HPE
    go_wp2_with fail
    rw [k1.out]
    simp only [Result.andThen]
    rw [Oper.upon_value]
    go_wp2_with fail
    rw [k2.out]
    simp only [Result.andThen]
    rw [Oper.upon_value]
    go_wp2_with fail
    rw [k3.out]
    simp only [Result.andThen]
    rw [Oper.upon_value]
    go_wp2_with fail
    rw [k4.out]
    simp only [Result.andThen]
    rw [Oper.upon_value]
    go_wp2_with fail
    refine (same_any A2 Aa c2 capa M M v4 HS2.out HMS4.out (by omega) (by omega)).mono ?_
    rintro e v5 ⟨rfl, hb5⟩
    rw [eqG_refl]
    have HB5 := Lib.hid (HB4.out.trans (hb5.mono HB4.out.size))
    go_wp2_with fail
    refine (awake_any _).mono ?_
    rintro e w9 ⟨rfl, hb9⟩
    go_wp2_with fail
    go_ret
    exact ⟨rfl, HB5.out.trans (hb9.mono HB5.out.size)⟩
  · rw [hp1, hp2]
    clear hp1 hp2 HPE
    go_wp2_with fail
    rw [k1.out]
    simp only [Result.andThen]
    rw [Oper.upon_value]
    go_wp2_with fail
    rw [k2.out]
    simp only [Result.andThen]
    rw [Oper.upon_value]
    go_wp2_with fail
    rw [k3.out]
    simp only [Result.andThen]
    rw [Oper.upon_value]
    go_wp2_with fail
    rw [k4.out]
    simp only [Result.andThen]
    rw [Oper.upon_value]
    go_wp2_with fail
    refine (same_any A2 Aa c2 capa M M v4 HS2.out HMS4.out (by omega) (by omega)).mono ?_
    rintro e v5 ⟨rfl, hb5⟩
    rw [eqG_refl]
    have HB5 := Lib.hid (HB4.out.trans (hb5.mono HB4.out.size))
    go_wp2_with fail
    refine (awake_any _).mono ?_
    rintro e w9 ⟨rfl, hb9⟩
    go_wp2_with fail
    go_ret
    exact ⟨rfl, HB5.out.trans (hb9.mono HB5.out.size)⟩
end Go.Proofs.Ytfohajgljjffgaa
