/- The reference's Is; Put and its reference. -/
import Derived.Test.YtfohajgljjffgaaCoE
namespace Go.Proofs.Ytfohajgljjffgaa
open Go.RowKit
open Go.Tin
set_option linter.unusedVariables false
set_option linter.unusedSimpArgs false


theorem some_is (L : List Sg) : decide ((L.filter (someF true)).length = 0) = !(L.any isApp) := by
  cases h : L.any isApp with
  | false =>
    rw [show (!false) = true from rfl, decide_eq_true_eq, List.length_eq_zero_iff, List.filter_eq_nil_iff]
    intro x hx hs
    have : L.any isApp = true := List.any_eq_true.2 ⟨x, hx, by unfold someF at hs; unfold isApp; simpa using hs⟩
    rw [h] at this; cases this
  | true =>
    obtain ⟨x, hx, hs⟩ := List.any_eq_true.1 h
    rw [show (!true) = false from rfl, decide_eq_false_iff_not]
    have := List.length_pos_of_mem (List.mem_filter.2 ⟨hx, show someF true x = true by unfold someF; unfold isApp at hs; rw [hs]; rfl⟩)
    omega
theorem some_no (L : List Sg) : decide (0 < (L.filter (someF false)).length) = L.any notApp := by
  cases h : L.any notApp with
  | false =>
    rw [decide_eq_false_iff_not]
    intro hpos
    obtain ⟨x, hx⟩ := List.exists_mem_of_length_pos hpos
    obtain ⟨hx1, hx2⟩ := List.mem_filter.1 hx
    have : L.any notApp = true := List.any_eq_true.2 ⟨x, hx1, by unfold someF at hx2; unfold notApp; simpa using hx2⟩
    rw [h] at this; cases this
  | true =>
    obtain ⟨x, hx, hs⟩ := List.any_eq_true.1 h
    rw [decide_eq_true_eq]
    exact List.length_pos_of_mem (List.mem_filter.2 ⟨hx, show someF false x = true by unfold someF; unfold notApp at hs; simpa using hs⟩)
theorem ris_any (A : Option Addr) (l : List Int) (cap : Nat) (w : World) (hs : Sl .u8 w A l) (hcap : l.length ≤ cap) (hl : l.length ≤ 1000000) (hby : Byts l) :
    Calls Try.prog 14 #[.slice A l.length cap] w fun e w' => e = .returned (.bool (isB l)) ∧ Below w.heap.size w w' := by
  have HI := Lib.hid (rimage_any A l cap w hs hcap hl hby)
  have HBY := Lib.hid (img_by hby hl)
  have HE := Lib.hid (show isB l = (imgE l == 0 && !((imgL l).any isApp)) from rfl)
  clear hs hby
  go_enter Try.func14, Try.ntmps14
  go_wp2_with fail
  refine HI.out.mono ?_
  rintro e w1 ⟨A1, c1, xs, rfl, ho, hsv, hb⟩
  have HS := Lib.hid (SegS.own ho hsv HBY.out.1)
  have hL := Nat.le_trans HBY.out.2.1 hl
  clear ho hsv
  by_cases h0 : imgE l = 0
  · have e0 : (imgE l == 0) = true := by rw [h0]; rfl
    have HSI := Lib.hid (some_is (imgL l))
    clear h0
    generalize imgL l = L at *
    generalize imgE l = E at *
    go_wp2_with fail
    refine (some_any A1 c1 L true w1 HS.out hL).mono ?_
    rintro e w2 ⟨A2, c2, ys, rfl, _, _, hb2⟩
    obtain ⟨k, hk⟩ : ∃ k, (L.filter (someF true)).length = k := ⟨_, rfl⟩
    rw [hk] at HSI ⊢
    clear hk
    by_cases hk0 : k = 0
    · subst hk0
      go_wp2_with fail
      go_ret
      exact ⟨ret_bool (by rw [HE.out, e0, ← HSI.out]; rfl), hb.trans (hb2.mono hb.size)⟩
    · have n0 : ((k : Int) == 0) = false := by rw [beq_eq_false_iff_ne]; omega
      rw [decide_eq_false hk0] at HSI
      clear hk0
      go_wp2_with fail
      go_ret
      exact ⟨ret_bool (by rw [HE.out, e0, ← HSI.out]; rfl), hb.trans (hb2.mono hb.size)⟩
  · have e0 : (imgE l == 0) = false := by simpa using h0
    clear h0
    generalize imgL l = L at *
    generalize imgE l = E at *
    go_wp2_with fail
    go_ret
    exact ⟨ret_bool (by rw [HE.out, e0]; rfl), hb⟩
def putG (l : List Int) (apps : List Sg) : List Sg := (imgL l).take 1 ++ (apps ++ (imgL l).drop 1)
def pOK (l : List Int) (apps : List Sg) : Bool := isB l && (!(apps.any notApp) && mayB (putG l apps))
def pB (l : List Int) (apps : List Sg) : List Int := if pOK l apps = true then wrL (putG l apps) else []
def pE (l : List Int) (apps : List Sg) : Int := if pOK l apps = true then 0 else 1
theorem p_no {l : List Int} {apps : List Sg} (h : pOK l apps = false) : pB l apps = [] ∧ pE l apps = 1 := by
  unfold pB pE; rw [h]; exact ⟨rfl, rfl⟩
theorem p_yes {l : List Int} {apps : List Sg} (h : pOK l apps = true) : pB l apps = wrL (putG l apps) ∧ pE l apps = 0 := by
  unfold pB pE; rw [h]; exact ⟨rfl, rfl⟩
def PutP (w : World) (l : List Int) (apps : List Sg) (e : Ending) (w' : World) : Prop := ∃ A c, e = .returned (.tuple #[.slice A (pB l apps).length c, .int .i64 (pE l apps)]) ∧ Own .u8 5 w' w.heap.size (.slice A (pB l apps).length c) (pB l apps) ∧ Byts (pB l apps) ∧ Below w.heap.size w w'
theorem PutP.no {w w' : World} {l : List Int} {apps : List Sg} (h : pOK l apps = false) (hb : Below w.heap.size w w') : PutP w l apps (.returned (.tuple #[.slice none 0 0, .int .i64 1])) w' := by
  obtain ⟨h1, h2⟩ := p_no h
  refine ⟨none, 0, by rw [h1, h2]; rfl, ?_, ?_, hb⟩
  · rw [h1]; exact Own.nil_ _ _ _ _
  · rw [h1]; exact fun x hx => (by cases hx)
theorem PutP.yes {w w' : World} {l : List Int} {apps : List Sg} {A : Option Addr} {c : Nat} (h : pOK l apps = true) (ho : Own .u8 5 w' w.heap.size (.slice A (wrL (putG l apps)).length c) (wrL (putG l apps))) (hy : Byts (wrL (putG l apps))) (hb : Below w.heap.size w w') : PutP w l apps (.returned (.tuple #[.slice A (wrL (putG l apps)).length c, .int .i64 0])) w' := by
  obtain ⟨h1, h2⟩ := p_yes h
  rw [← h1] at ho hy ⊢
  exact ⟨A, c, by rw [h2], ho, hy, hb⟩
set_option maxRecDepth 100000 in
set_option maxHeartbeats 8000000 in
theorem cput_any (A : Option Addr) (l : List Int) (cap : Nat) (Aa : Option Addr) (capa : Nat) (M : List Sg) (w : World) (hs : Sl .u8 w A l) (hcap : l.length ≤ cap) (hl : l.length ≤ 100000) (hby : Byts l) (hm : SegS w Aa M) (hM : M.length ≤ 100000) (hmc : M.length ≤ capa) (hwl : mayB (putG l M) = true → (wrL (putG l M)).length ≤ 900000) :
    Calls Try.prog 20 #[.slice A l.length cap, .slice Aa M.length capa] w fun e w' => PutP w l M e w' := by
  have HI := Lib.hid (image_any A l cap w hs hcap (by omega) hby)
  have HBY := Lib.hid (img_by hby (show l.length ≤ 1000000 by omega))
  have HOK := Lib.hid (fun h => img_ok hby h)
  have HMS := Lib.hid hm
  have HWL := Lib.hid hwl
  have HP := Lib.hid (show pOK l M = ((imgE l == 0 && !((imgL l).any isApp)) && (!(M.any notApp) && mayB (putG l M))) from rfl)
  have HG := Lib.hid (show putG l M = (imgL l).take 1 ++ (M ++ (imgL l).drop 1) from rfl)
  clear hs hby hm hwl
  go_enter Try.func20, Try.ntmps20
  go_wp2_with fail
  refine HI.out.mono ?_
  rintro e w1 ⟨A1, c1, xs, rfl, ho, hsv, hb⟩
  have HS := Lib.hid (SegS.own ho hsv HBY.out.1)
  have hL : (imgL l).length ≤ 100000 := by have := HBY.out.2.1; omega
  have hc1 : (imgL l).length ≤ c1 := ho.sl'.2.2.1
  have HB := Lib.hid hb
  clear ho hsv hb HI
  by_cases h0 : imgE l = 0
  case neg =>
    have n0 : (imgE l != 0) = true := by rw [bne_iff_ne]; exact h0
    have HNO := Lib.hid (show pOK l M = false by rw [HP.out, show (imgE l == 0) = false by simpa using h0]; rfl)
    clear h0 HP HG HOK HBY
    generalize imgL l = L at *
    generalize imgE l = E at *
    go_wp2_with fail
    go_ret2
    exact PutP.no HNO.out HB.out
  have n0 : (imgE l != 0) = false := by rw [h0]; rfl
  have h2L : 2 ≤ (imgL l).length := by
    have h := (HOK.out h0).1
    unfold mayB at h
    rw [Bool.and_eq_true] at h
    exact of_decide_eq_true h.1
  rw [show (imgE l == 0) = true by rw [h0]; rfl] at HP
  clear h0 HOK HBY
  generalize imgL l = L at *
  generalize imgE l = E at *
  go_wp2_with fail
  refine (contains_any 26 (hcf 26 Try.f26 _ Try.func26 (by kernel_rfl) rfl) isApp _ _ L w1 HS.out (by omega) appq).mono ?_
  rintro e w2 ⟨rfl, hb2⟩
  have HB2 := Lib.hid (HB.out.trans (hb2.mono HB.out.size))
  replace HS := Lib.hid (HS.out.keep hb2)
  clear hb2
  cases ha : L.any isApp with
  | true =>
    have HNO := Lib.hid (show pOK l M = false by rw [HP.out, ha]; rfl)
    clear ha HP HG
    go_wp2_with fail
    go_ret2
    exact PutP.no HNO.out HB2.out
  | false =>
  rw [ha] at HP
  clear ha
  go_wp2_with fail
  refine (contains_any 27 (hcf 27 Try.f27 _ Try.func27 (by kernel_rfl) rfl) notApp _ _ M w2 (HMS.out.keep HB2.out) (by omega) otherq).mono ?_
  rintro e w3 ⟨rfl, hb3⟩
  have HB3 := Lib.hid (HB2.out.trans (hb3.mono HB2.out.size))
  replace HS := Lib.hid (HS.out.keep hb3)
  clear hb3
  cases ha : M.any notApp with
  | true =>
    have HNO := Lib.hid (show pOK l M = false by rw [HP.out, ha]; rfl)
    clear ha HP HG
    go_wp2_with fail
    go_ret2
    exact PutP.no HNO.out HB3.out
  | false =>
  have HP2 := Lib.hid (show pOK l M = mayB (putG l M) by rw [HP.out, ha]; simp)
  clear ha HP
  have HSD := Lib.hid (HS.out.keep (ud' (brefl w3)))
  have HBD := Lib.hid (ud' HB3.out)
  have HMD := Lib.hid (HMS.out.keep HBD.out)
  have j1 : (1 : Int) ≤ (c1 : Int) := by omega
  go_wp2_with fail
  have HB3S : w3.heap.size ≤ w3.drew.heap.size := Nat.le_refl _
  refine Tin.reg_begin w3.heap.size 12 (by rfl) (by kernel_rfl) ?_
  generalize w3.drew = v3 at *
  refine Tin.reg_quiets [0, 1, 2, 3, 4] _ 7 rfl (by simp only [Tin.pick, List.map_cons, List.map_nil, Array.getD_eq_getD_getElem?, List.getElem?_toArray, List.getElem?_cons_zero, List.getElem?_cons_succ, Option.getD_some]; rfl) (by kernel_rfl) (by kernel_rfl) ?_
  repeat (first | ((with_reducible refine Tin.wpq_cutn (P := Try.prog) (e := 36) (s := 3) Try.underlying27 sz3 ?_ (.tmp 26) (.const (.int .i64 1)) ?_ A1 L.length c1 1 1 ?_ ?_ ?_ ?_ ?_); rfl; rfl; rfl; rfl; rfl; omega; simp only [Act.put, List.setIfInBounds_toArray, List.set_cons_succ, List.set_cons_zero]) | go_big_quiet_step (fail))
  refine wpQuiet_nil ?_
  refine Tin.reg_one 5 _ rfl (by kernel_rfl) ?_
  try simp only [List.getElem_toArray, List.getElem_cons_succ, List.getElem_cons_zero]
  have h1 : (L.take 1).length = 1 := by rw [List.length_take]; omega
  have h2 : (L.drop 1).length = L.length - 1 := List.length_drop ..
  have hab := ba (brefl v3) (.cells #[.slice A1 1 c1, .slice Aa M.length capa, .slice (cutA A1 c1 1 3) (L.length - 1) (c1 - 1)] 27)
  have hpg : PtG v3 [.slice A1 (L.take 1).length c1, .slice Aa M.length capa, .slice (cutA A1 c1 1 3) (L.drop 1).length (c1 - 1)] [L.take 1, M, L.drop 1] := .cons (HSD.out.take 1) (.cons HMD.out (.cons (HSD.out.cutA hc1 1) .nil))
  rw [h1, h2] at hpg
  have HPG := Lib.hid (hpg.keep hab)
  have HSN := Lib.hid (SlV.new_ v3 27 #[.slice A1 1 c1, .slice Aa M.length capa, .slice (cutA A1 c1 1 3) (L.length - 1) (c1 - 1)])
  have HFL := Lib.hid (show [L.take 1, M, L.drop 1].flatten = putG l M by rw [HG.out]; simp)
  have HBA := Lib.hid hab
  have HFN := Lib.hid (show (putG l M).length ≤ 1000000 by rw [HG.out]; simp only [List.length_append, h1, h2]; omega)
  clear hpg hab h1 h2
  go_wp2_with fail
  refine ⟨w3.heap.size, HBA.out.mono HB3S, Nat.le_refl _, ?_⟩
  have HC := Lib.hid (concatg_any v3.heap.size 3 _ _ _ HSN.out HPG.out (by simp) (by rw [HFL.out]; exact HFN.out))
  have HBX := Lib.hid (HBD.out.trans (HBA.out.mono HBD.out.size))
  generalize (v3.alloc (.cells #[.slice A1 1 c1, .slice Aa M.length capa, .slice (cutA A1 c1 1 3) (L.length - 1) (c1 - 1)] 27)) = v4 at *
  rw [HFL.out] at HC
  refine Tin.reg_one 6 _ rfl (by kernel_rfl) ?_
  try simp only [List.getElem_toArray, List.getElem_cons_succ, List.getElem_cons_zero]
  go_wp2_with fail
  refine HC.out.mono ?_
  rintro e v5 ⟨A5, c5, ys, rfl, ho5, hs5, hb5⟩
  go_wp2_with fail
  have HB5S : w3.heap.size ≤ v4.heap.size := Nat.le_trans HB3S HBA.out.size
  refine ⟨w3.heap.size, hb5.mono HB5S, Nat.le_refl _, ?_⟩
  have HS5 := Lib.hid (show SegS v5 A5 (putG l M) from ⟨ys, ho5.sl'.2.1, hs5⟩)
  have hc5 : (putG l M).length ≤ c5 := ho5.sl'.2.2.1
  have HB5 := Lib.hid (HBX.out.trans (hb5.mono HBX.out.size))
  have HB6S : w3.heap.size ≤ v5.heap.size := Nat.le_trans HB5S hb5.size
  clear ho5 hs5 hb5 HC HG
  refine Tin.reg_one 7 _ rfl (by kernel_rfl) ?_
  try simp only [List.getElem_toArray, List.getElem_cons_succ, List.getElem_cons_zero]
  go_wp2_with fail
  refine (write_any A5 c5 (putG l M) v5 HS5.out HFN.out hc5 HWL.out).mono ?_
  rintro e v6 (⟨hm, rfl, hb6⟩ | ⟨hm, A6, c6, rfl, ho6, hby6, hb6⟩)
  · have HNO := Lib.hid (show pOK l M = false by rw [HP2.out, hm])
    have HB6 := Lib.hid (HB5.out.trans (hb6.mono HB5.out.size))
    clear hm
    go_wp2_with fail
    refine ⟨w3.heap.size, hb6.mono HB6S, Nat.le_refl _, ?_⟩
    refine Tin.reg_quiets [8, 9, 10, 11] _ 0 rfl (by simp only [Tin.pick, List.map_cons, List.map_nil, Array.getD_eq_getD_getElem?, List.getElem?_toArray, List.getElem?_cons_zero, List.getElem?_cons_succ, Option.getD_some]; rfl) (by kernel_rfl) (by kernel_rfl) ?_
    repeat (first | go_big_quiet_step (fail))
    refine wpQuiet_nil ?_
    refine Tin.reg_done (by kernel_rfl) ?_
    go_wp2_with fail
    go_ret2
    exact PutP.no HNO.out HB6.out
  · have HYES := Lib.hid (show pOK l M = true by rw [HP2.out, hm])
    have HB6 := Lib.hid (HB5.out.trans (hb6.mono HB5.out.size))
    clear hm
    go_wp2_with fail
    refine ⟨w3.heap.size, hb6.mono HB6S, Nat.le_refl _, ?_⟩
    refine Tin.reg_quiets [8, 9, 10, 11] _ 0 rfl (by simp only [Tin.pick, List.map_cons, List.map_nil, Array.getD_eq_getD_getElem?, List.getElem?_toArray, List.getElem?_cons_zero, List.getElem?_cons_succ, Option.getD_some]; rfl) (by kernel_rfl) (by kernel_rfl) ?_
    repeat (first | go_big_quiet_step (fail))
    refine wpQuiet_nil ?_
    refine Tin.reg_done (by kernel_rfl) ?_
    go_wp2_with fail
    go_ret2
    exact PutP.yes HYES.out (ho6.mono HB5.out.size) hby6 HB6.out
end Go.Proofs.Ytfohajgljjffgaa
