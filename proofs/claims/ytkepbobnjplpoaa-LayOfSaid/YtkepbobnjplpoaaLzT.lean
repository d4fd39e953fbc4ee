/- LayOf: the walk. -/
import Derived.Test.YtkepbobnjplpoaaLzS
namespace Go.Proofs.Ytkepbobnjplpoaa
open Go.RowKit
open Go.Tin
set_option linter.unusedVariables false
set_option linter.unusedSimpArgs false


set_option maxRecDepth 100000 in
set_option maxHeartbeats 16000000 in
theorem oflaw_any (cs0 : Array Value) (w : World) (sz0 : cs0.size = 2) (ft0 : TiffOk w cs0) :
    Calls Try.prog 3 #[.agg cs0] w fun e w' => e = .returned (.bool true) ∧ Below w.heap.size w w' := by
  obtain ⟨o, Ad, cd, f, rfl, hf, hN⟩ := ft0
  have hb0 := ba (brefl w) (.cells (trow o Ad f.len cd) 24)
  have R1 := Lib.hid (heap_alloc_new w (.cells (trow o Ad f.len cd) 24))
  have HB := Lib.hid hb0
  have HF := Lib.hid (FoK.keep hf hb0)
  have HU := Lib.hid (fun (W : World) (h : FoK W Ad f) => huge_any o Ad cd f W h hN)
  clear hb0 hf sz0
  generalize hsub : f.len = NS at *
  have HSUB := Lib.hid hsub
  clear hsub
  go_enter Try.func3, Try.ntmps3
  go_wp2_with ((with_reducible refine wpl_load_row rtTf ?_ (.tmp 1) ?_ (w.heap.size) ?_ 24 (trow o Ad NS cd) ?_ R1.out ?_); rfl; rfl; rfl; rfl; simp only [Act.put, List.setIfInBounds_toArray, List.set_cons_succ, List.set_cons_zero])
  generalize w.alloc (.cells (trow o Ad NS cd) 24) = w1 at *
  refine (HU.out _ HF.out).mono ?_
  clear HU
  cases hh : hugeF f with
  | true =>
    clear hh
    rintro e w2 ⟨rfl, hb⟩
    replace R1 := Lib.hid ((hb.block _ (row_lt R1.out)).trans R1.out)
    replace HF := Lib.hid (HF.out.keep hb)
    replace HB := Lib.hid (HB.out.trans (hb.mono HB.out.size))
    clear hb
    go_wp2_with fail
    refine (awake_any _).mono ?_
    rintro e v1 ⟨rfl, hb⟩
    replace R1 := Lib.hid ((hb.block _ (row_lt R1.out)).trans R1.out)
    replace HF := Lib.hid (HF.out.keep hb)
    replace HB := Lib.hid (HB.out.trans (hb.mono HB.out.size))
    clear hb
    go_wp2_with fail
    go_ret
    exact ⟨rfl, HB.out⟩
  | false =>
  obtain ⟨hsm, hcnt, hlen⟩ := hugeF_no hh
  have HSM := Lib.hid hsm
  clear hh hsm
  rintro e w2 ⟨rfl, hb⟩
  replace R1 := Lib.hid ((hb.block _ (row_lt R1.out)).trans R1.out)
  replace HF := Lib.hid (HF.out.keep hb)
  replace HB := Lib.hid (HB.out.trans (hb.mono HB.out.size))
  clear hb
  have HOW := Lib.hid (fun (W : World) (h : FoK W Ad f) => owntree_any o Ad cd f W h HSM.out (by omega) (by rw [HSUB.out]; exact hN))
  have HLO := Lib.hid (fun (A : Option Addr) (c : Nat) (W : World) (h : FoK W A f) => lof_any o A c f W h HSM.out (by omega))
  have HRO := Lib.hid (fun (A : Option Addr) (c : Nat) (W : World) (h : FoK W A f) => rof_any o A c f W h HSM.out (by omega))
  have HLL := Lib.hid (fun (A : Option Addr) (c : Nat) (W : World) (h : FoK W A f) => llong_any o A c f W h HSM.out (by omega))
  have HRL := Lib.hid (fun (A : Option Addr) (c : Nat) (W : World) (h : FoK W A f) => rtlong_any o A c f W h HSM.out (by omega))
  have HSA := Lib.hid (fun (A : Option Addr) (c : Nat) (W : World) (h : FoK W A f) (h2 : FoK W Ad f) => tree_same o A Ad c cd f W h h2 HSM.out (by omega))
  have hll := (layF_bd0 HSM.out (by omega)).2.2
  have hlb : (ofF f).length ≤ 70000 := by unfold ofF; split; exact hll; simp
  rw [HSUB.out] at HOW HLO HRO HLL HRL HSA
  clear hll
  go_wp2_with ((with_reducible refine wpl_load_row rtTf ?_ (.tmp 1) ?_ (w.heap.size) ?_ 24 (trow o Ad NS cd) ?_ R1.out ?_); rfl; rfl; rfl; rfl; simp only [Act.put, List.setIfInBounds_toArray, List.set_cons_succ, List.set_cons_zero])
  refine (HOW.out _ HF.out).mono ?_
  clear HOW
  rintro e w3 ⟨A1, c1, rfl, hx, hb⟩
  have HO := Lib.hid (show FoK w3 A1 f from hx.mono (fun b h _ => h))
  replace R1 := Lib.hid ((hb.block _ (row_lt R1.out)).trans R1.out)
  replace HF := Lib.hid (HF.out.keep hb)
  replace HB := Lib.hid (HB.out.trans (hb.mono HB.out.size))
  clear hb hx
  have hba := ba (brefl w3) (.cells #[.int .i64 o, .slice A1 NS c1] 24)
  have R3 := Lib.hid (heap_alloc_new w3 (.cells #[.int .i64 o, .slice A1 NS c1] 24))
  replace R1 := Lib.hid ((hba.block _ (row_lt R1.out)).trans R1.out)
  replace HF := Lib.hid (HF.out.keep hba)
  replace HO := Lib.hid (HO.out.keep hba)
  replace HB := Lib.hid (HB.out.trans (hba.mono HB.out.size))
  clear hba
  go_wp2_with (first | ((with_reducible refine wpl_load_row rtTf ?_ (.tmp 1) ?_ (w.heap.size) ?_ 24 (trow o Ad NS cd) ?_ R1.out ?_); rfl; rfl; rfl; rfl; simp only [Act.put, List.setIfInBounds_toArray, List.set_cons_succ, List.set_cons_zero]) | ((with_reducible refine wpl_load_row rtTf ?_ (.tmp 3) ?_ (w3.heap.size) ?_ 24 (#[.int .i64 o, .slice A1 NS c1]) ?_ R3.out ?_); rfl; rfl; rfl; rfl; simp only [Act.put, List.setIfInBounds_toArray, List.set_cons_succ, List.set_cons_zero]))
  generalize w3.alloc (.cells #[.int .i64 o, .slice A1 NS c1] 24) = w4 at *
  generalize w3.heap.size = g3 at *
  refine (HLO.out A1 c1 _ HO.out).mono ?_
  rintro e w5 ⟨A4, c4, rfl, ho, hb⟩
  have hs := ho.sl'.2.1
  replace R1 := Lib.hid ((hb.block _ (row_lt R1.out)).trans R1.out)
  replace HF := Lib.hid (HF.out.keep hb)
  replace HO := Lib.hid (HO.out.keep hb)
  replace R3 := Lib.hid ((hb.block _ (row_lt R3.out)).trans R3.out)
  replace HB := Lib.hid (HB.out.trans (hb.mono HB.out.size))
  have HS4 := Lib.hid hs
  clear hb ho hs
  go_wp2_with (first | ((with_reducible refine wpl_load_row rtTf ?_ (.tmp 1) ?_ (w.heap.size) ?_ 24 (trow o Ad NS cd) ?_ R1.out ?_); rfl; rfl; rfl; rfl; simp only [Act.put, List.setIfInBounds_toArray, List.set_cons_succ, List.set_cons_zero]) | ((with_reducible refine wpl_load_row rtTf ?_ (.tmp 3) ?_ (g3) ?_ 24 (#[.int .i64 o, .slice A1 NS c1]) ?_ R3.out ?_); rfl; rfl; rfl; rfl; simp only [Act.put, List.setIfInBounds_toArray, List.set_cons_succ, List.set_cons_zero]))
  refine (HRO.out Ad cd _ HF.out).mono ?_
  rintro e w6 ⟨A6, c6, rfl, ho, hb⟩
  have hs := ho.sl'.2.1
  replace R1 := Lib.hid ((hb.block _ (row_lt R1.out)).trans R1.out)
  replace HF := Lib.hid (HF.out.keep hb)
  replace HO := Lib.hid (HO.out.keep hb)
  replace R3 := Lib.hid ((hb.block _ (row_lt R3.out)).trans R3.out)
  replace HS4 := Lib.hid (HS4.out.keep hb)
  replace HB := Lib.hid (HB.out.trans (hb.mono HB.out.size))
  have HS6 := Lib.hid hs
  clear hb ho hs
  generalize okF f = ok at *
  go_wp2_with fail
  have LT_R1 : _ < w6.heap.size := row_lt R1.out
  have LT_R3 : _ < w6.heap.size := row_lt R3.out
  have SZ : w6.heap.size ≤ w6.drew.heap.size := Nat.le_refl _
  have hb := ud' (brefl w6)
  replace R1 := Lib.hid ((hb.block _ (row_lt R1.out)).trans R1.out)
  replace HF := Lib.hid (HF.out.keep hb)
  replace HO := Lib.hid (HO.out.keep hb)
  replace R3 := Lib.hid ((hb.block _ (row_lt R3.out)).trans R3.out)
  replace HS4 := Lib.hid (HS4.out.keep hb)
  replace HS6 := Lib.hid (HS6.out.keep hb)
  replace HB := Lib.hid (HB.out.trans (hb.mono HB.out.size))
  clear hb
  refine Tin.reg_begin (w6.heap.size) 24 (by rfl) (by kernel_rfl) ?_
  generalize w6.drew = u0 at *
  refine Tin.reg_quiets [0, 1] _ 22 rfl (by simp only [Tin.pick, List.map_cons, List.map_nil, Array.getD_eq_getD_getElem?, List.getElem?_toArray, List.getElem?_cons_zero, List.getElem?_cons_succ, Option.getD_some]; rfl) (by kernel_rfl) (by kernel_rfl) ?_
  repeat (first | go_big_quiet_step (fail))
  refine wpQuiet_nil ?_
  refine Tin.reg_one 2 _ rfl (by kernel_rfl) ?_
  try simp only [List.getElem_toArray, List.getElem_cons_succ, List.getElem_cons_zero]
  go_wp2_with fail
  refine (spots_same A4 A6 c4 c6 (ofF f) _ HS4.out HS6.out (by omega)).mono ?_
  rintro e z1 ⟨rfl, hv⟩
  go_wp2_with fail
  refine ⟨w6.heap.size, hv.mono SZ, Nat.le_refl _, ?_⟩
  replace R1 := Lib.hid ((hv.block _ (row_lt R1.out)).trans R1.out)
  replace HF := Lib.hid (HF.out.keep hv)
  replace HO := Lib.hid (HO.out.keep hv)
  replace R3 := Lib.hid ((hv.block _ (row_lt R3.out)).trans R3.out)
  replace HS4 := Lib.hid (HS4.out.keep hv)
  replace HS6 := Lib.hid (HS6.out.keep hv)
  replace HB := Lib.hid (HB.out.trans (hv.mono HB.out.size))
  replace SZ := Nat.le_trans SZ hv.size
  clear hv
  refine Tin.reg_quiets [3, 4, 5, 6, 7, 8, 9, 11] _ 13 rfl (by simp only [Tin.pick, List.map_cons, List.map_nil, Array.getD_eq_getD_getElem?, List.getElem?_toArray, List.getElem?_cons_zero, List.getElem?_cons_succ, Option.getD_some]; rfl) (by kernel_rfl) (by kernel_rfl) ?_
  repeat (first | ((with_reducible refine wpq_load_row rtTf ?_ (.tmp 3) ?_ (g3) ?_ 24 (#[.int .i64 o, .slice A1 NS c1]) ?_ (fun W h => by obtain ⟨p, rfl⟩ := h; exact (p.h.block _ LT_R3).trans R3.out) ?_); rfl; rfl; rfl; rfl; simp only [Act.put, List.setIfInBounds_toArray, List.set_cons_succ, List.set_cons_zero]) | ((with_reducible refine wpq_load_row rtTf ?_ (.tmp 1) ?_ (w.heap.size) ?_ 24 (trow o Ad NS cd) ?_ (fun W h => by obtain ⟨p, rfl⟩ := h; exact (p.h.block _ LT_R1).trans R1.out) ?_); rfl; rfl; rfl; rfl; simp only [Act.put, List.setIfInBounds_toArray, List.set_cons_succ, List.set_cons_zero]) | go_big_quiet_step (fail))
  refine wpQuiet_nil ?_
  refine Tin.reg_one 10 _ rfl (by kernel_rfl) ?_
  try simp only [List.getElem_toArray, List.getElem_cons_succ, List.getElem_cons_zero]
  go_wp2_with fail
  refine (HLL.out A1 c1 _ HO.out).mono ?_
  rintro e z2 ⟨rfl, hv⟩
  go_wp2_with fail
  refine ⟨w6.heap.size, hv.mono SZ, Nat.le_refl _, ?_⟩
  replace R1 := Lib.hid ((hv.block _ (row_lt R1.out)).trans R1.out)
  replace HF := Lib.hid (HF.out.keep hv)
  replace HO := Lib.hid (HO.out.keep hv)
  replace R3 := Lib.hid ((hv.block _ (row_lt R3.out)).trans R3.out)
  replace HS4 := Lib.hid (HS4.out.keep hv)
  replace HS6 := Lib.hid (HS6.out.keep hv)
  replace HB := Lib.hid (HB.out.trans (hv.mono HB.out.size))
  replace SZ := Nat.le_trans SZ hv.size
  clear hv
  refine Tin.reg_one 12 _ rfl (by kernel_rfl) ?_
  try simp only [List.getElem_toArray, List.getElem_cons_succ, List.getElem_cons_zero]
  go_wp2_with fail
  refine (HRL.out Ad cd _ HF.out).mono ?_
  rintro e z3 ⟨rfl, hv⟩
  go_wp2_with fail
  refine ⟨w6.heap.size, hv.mono SZ, Nat.le_refl _, ?_⟩
  replace R1 := Lib.hid ((hv.block _ (row_lt R1.out)).trans R1.out)
  replace HF := Lib.hid (HF.out.keep hv)
  replace HO := Lib.hid (HO.out.keep hv)
  replace R3 := Lib.hid ((hv.block _ (row_lt R3.out)).trans R3.out)
  replace HS4 := Lib.hid (HS4.out.keep hv)
  replace HS6 := Lib.hid (HS6.out.keep hv)
  replace HB := Lib.hid (HB.out.trans (hv.mono HB.out.size))
  replace SZ := Nat.le_trans SZ hv.size
  clear hv
  generalize longF f = lg at *
  have e9 : (lg == lg) = true := by rw [beq_iff_eq]
  refine Tin.reg_quiets [13, 14, 15, 16, 17] _ 6 rfl (by simp only [Tin.pick, List.map_cons, List.map_nil, Array.getD_eq_getD_getElem?, List.getElem?_toArray, List.getElem?_cons_zero, List.getElem?_cons_succ, Option.getD_some]; rfl) (by kernel_rfl) (by kernel_rfl) ?_
  repeat (first | ((with_reducible refine wpq_load_row rtTf ?_ (.tmp 3) ?_ (g3) ?_ 24 (#[.int .i64 o, .slice A1 NS c1]) ?_ (fun W h => by obtain ⟨p, rfl⟩ := h; exact (p.h.block _ LT_R3).trans R3.out) ?_); rfl; rfl; rfl; rfl; simp only [Act.put, List.setIfInBounds_toArray, List.set_cons_succ, List.set_cons_zero]) | ((with_reducible refine wpq_load_row rtTf ?_ (.tmp 1) ?_ (w.heap.size) ?_ 24 (trow o Ad NS cd) ?_ (fun W h => by obtain ⟨p, rfl⟩ := h; exact (p.h.block _ LT_R1).trans R1.out) ?_); rfl; rfl; rfl; rfl; simp only [Act.put, List.setIfInBounds_toArray, List.set_cons_succ, List.set_cons_zero]) | go_big_quiet_step (fail))
  refine wpQuiet_nil ?_
  clear e9
  refine Tin.reg_one 18 _ rfl (by kernel_rfl) ?_
  try simp only [List.getElem_toArray, List.getElem_cons_succ, List.getElem_cons_zero]
  go_wp2_with fail
  refine (HSA.out A1 c1 _ HO.out HF.out).mono ?_
  rintro e z4 ⟨rfl, hv⟩
  go_wp2_with fail
  refine ⟨w6.heap.size, hv.mono SZ, Nat.le_refl _, ?_⟩
  replace R1 := Lib.hid ((hv.block _ (row_lt R1.out)).trans R1.out)
  replace HF := Lib.hid (HF.out.keep hv)
  replace HO := Lib.hid (HO.out.keep hv)
  replace R3 := Lib.hid ((hv.block _ (row_lt R3.out)).trans R3.out)
  replace HS4 := Lib.hid (HS4.out.keep hv)
  replace HS6 := Lib.hid (HS6.out.keep hv)
  replace HB := Lib.hid (HB.out.trans (hv.mono HB.out.size))
  replace SZ := Nat.le_trans SZ hv.size
  clear hv
  refine Tin.reg_quiets [19, 20] _ 3 rfl (by simp only [Tin.pick, List.map_cons, List.map_nil, Array.getD_eq_getD_getElem?, List.getElem?_toArray, List.getElem?_cons_zero, List.getElem?_cons_succ, Option.getD_some]; rfl) (by kernel_rfl) (by kernel_rfl) ?_
  repeat (first | go_big_quiet_step (fail))
  refine wpQuiet_nil ?_
  refine Tin.reg_one 21 _ rfl (by kernel_rfl) ?_
  try simp only [List.getElem_toArray, List.getElem_cons_succ, List.getElem_cons_zero]
  go_wp2_with fail
  refine (awake_any _).mono ?_
  rintro e z5 ⟨rfl, hv⟩
  go_wp2_with fail
  refine ⟨w6.heap.size, hv.mono SZ, Nat.le_refl _, ?_⟩
  replace R1 := Lib.hid ((hv.block _ (row_lt R1.out)).trans R1.out)
  replace HF := Lib.hid (HF.out.keep hv)
  replace HO := Lib.hid (HO.out.keep hv)
  replace R3 := Lib.hid ((hv.block _ (row_lt R3.out)).trans R3.out)
  replace HS4 := Lib.hid (HS4.out.keep hv)
  replace HS6 := Lib.hid (HS6.out.keep hv)
  replace HB := Lib.hid (HB.out.trans (hv.mono HB.out.size))
  replace SZ := Nat.le_trans SZ hv.size
  clear hv
  refine Tin.reg_quiets [22, 23] _ 0 rfl (by simp only [Tin.pick, List.map_cons, List.map_nil, Array.getD_eq_getD_getElem?, List.getElem?_toArray, List.getElem?_cons_zero, List.getElem?_cons_succ, Option.getD_some]; rfl) (by kernel_rfl) (by kernel_rfl) ?_
  repeat (first | go_big_quiet_step (fail))
  refine wpQuiet_nil ?_
  refine Tin.reg_done (by kernel_rfl) ?_
  go_wp2_with fail
  go_ret
  exact ⟨rfl, HB.out⟩
end Go.Proofs.Ytkepbobnjplpoaa
