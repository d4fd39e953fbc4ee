/- Awake: the chapter's examples. -/
import Derived.Test.YtmdcdmgbillehaaTz
import Derived.Lib.SlBytesConst
import Derived.Lib.SmallJoins
namespace Go.Proofs.Ytmdcdmgbillehaa
open Go.RowKit
open Go.Tin
set_option linter.unusedVariables false
set_option linter.unusedSimpArgs false


theorem sl_mark {k : IntKind} (w : World) (t : TypeId) (cs : Array Value) (fr : Nat × Nat) (news : List Int) (h : cs.toList = news.map (Value.int k)) : Sl k (w.alloc (.cells cs t fr)) (some ⟨w.heap.size, 0, none⟩) news := by
  refine .inr ⟨w.heap.size, 0, rfl, by simp, fun i hi => ?_⟩
  rw [World.cell?_alloc_mark, ← Array.getElem?_toList, h]
  simp [List.getD_eq_getElem?_getD, hi]
theorem on_t (n : Int) : on true n = n := rfl
theorem byts_of {l : List Int} (h : l.all (fun x => decide (0 ≤ x) && decide (x < 256)) = true) : Byts l := by
  intro x hx
  have := List.all_eq_true.1 h x hx
  simp at this
  exact this
set_option maxRecDepth 100000 in
set_option maxHeartbeats 8000000 in
theorem awake_any (w : World) : Calls Try.prog 7 #[] w fun e w' => e = .returned (.bool true) ∧ Below w.heap.size w w' := by
  have HB := Lib.hid (brefl w)
  have HV1 := Lib.hid (fun (W : World) (A : Option Addr) (c : Nat) (h : Sl .i64 W A [-1, 2]) => onum_any 8 A [-1, 2] c W h (by decide))
  rw [show ronB 8 [-1, 2] = true by kernel_rfl, show ronL 8 [-1, 2] = [255, 255, 0, 2] by kernel_rfl, on_t, on_t] at HV1
  have HV6 := Lib.hid (fun (W : World) (A : Option Addr) (c : Nat) (h : Sl .i64 W A [258]) => onum_any 3 A [258] c W h (by decide))
  rw [show ronB 3 [258] = true by kernel_rfl, show ronL 3 [258] = [1, 2] by kernel_rfl, on_t, on_t] at HV6
  have HV2 := Lib.hid (fun (W : World) (A : Option Addr) (c : Nat) (h : SlV W A (iv [1, 2])) => orat_any 5 A 1 c [1, 2] W h rfl (by decide))
  rw [show raB 5 1 [1, 2] = true by kernel_rfl, show raL 5 1 [1, 2] = [0, 0, 0, 1, 0, 0, 0, 2] by kernel_rfl, on_t, on_t] at HV2
  have HV3 := Lib.hid (fun (W : World) (A : Option Addr) (c : Nat) (h : SlV W A (iv [-1, 2])) => orat_any 5 A 1 c [-1, 2] W h rfl (by decide))
  rw [show raB 5 1 [-1, 2] = false by kernel_rfl, show raL 5 1 [-1, 2] = [] by kernel_rfl] at HV3
  have HV4 := Lib.hid (fun (W : World) => otext_any { data := #[97, 98] } W (by decide))
  rw [show otB { data := #[97, 98] } = true by kernel_rfl, show otL { data := #[97, 98] } = [97, 98, 0] by kernel_rfl, on_t, on_t] at HV4
  have HV5 := Lib.hid (fun (W : World) => otext_any { data := #[] } W (by decide))
  rw [show otB { data := #[] } = true by kernel_rfl, show otL { data := #[] } = [0] by kernel_rfl, on_t, on_t] at HV5
  have HV7 := Lib.hid (fun (W : World) (A : Option Addr) (c : Nat) (hc : 2 ≤ c) (h : Sl .u8 W A [97, 98]) => vof_any 2 2 A [97, 98] c 2 W h (by decide) hc (byts_of rfl))
  rw [show ofB 2 2 [97, 98] 2 = false by kernel_rfl, show ofL 2 2 [97, 98] 2 = [] by kernel_rfl] at HV7
  have HSZ := Lib.hid (fun n W => size_any n W)
  have HBT := Lib.hid (fun (W : World) (A : Option Addr) (c : Nat) (h : Sl .u8 W A [1, 2]) => byt_any 3 1 A [1, 2] c 1 W h (by decide) (byts_of rfl))
  rw [show byV 3 1 [1, 2] 1 = [2, 1] by kernel_rfl] at HBT
  go_enter Try.func7, Try.ntmps7
  go_wp2_with fail
  have hb := (ba (brefl w) (.cells #[.int .i64 (-1), .int .i64 2] 3))
  have HS1 : Sl .i64 (w.alloc (.cells #[.int .i64 (-1), .int .i64 2] 3)) (some ⟨w.heap.size, 0, none⟩) [-1, 2] := Sl.new_ w _ _ _ rfl
  replace HB := Lib.hid (HB.out.trans (hb.mono HB.out.size))
  clear hb
  generalize (w.alloc (.cells #[.int .i64 (-1), .int .i64 2] 3)) = v1 at *
  replace HS1 := Lib.hid HS1
  refine (HV1.out _ _ _ HS1.out).mono ?_
  rintro e v2 ⟨A1, c1, rfl, hv2_0, hb⟩
  replace HS1 := Lib.hid (HS1.out.keep hb)
  replace HB := Lib.hid (HB.out.trans (hb.mono HB.out.size))
  have HO1 := Lib.hid hv2_0
  clear hv2_0 hb
  clear HS1
  simp only [vrow]
  go_wp2_with fail
  have hb := (ba (ba (brefl v2) (.cells (vrow 8 2 A1 4 c1) 27)) (.cells #[.int .i64 1, .int .i64 2] 55))
  have R1 := (alloc2 v2 (.cells (vrow 8 2 A1 4 c1) 27) (.cells #[.int .i64 1, .int .i64 2] 55)).1
  have HS2 : SlV ((v2.alloc (.cells (vrow 8 2 A1 4 c1) 27)).alloc (.cells #[.int .i64 1, .int .i64 2] 55)) (some ⟨v2.heap.size + 1, 0, none⟩) (iv [1, 2]) := by simpa using SlV.new_ (v2.alloc (.cells (vrow 8 2 A1 4 c1) 27)) 55 #[.int .i64 1, .int .i64 2]
  replace HO1 := Lib.hid (HO1.out.keep hb)
  replace HB := Lib.hid (HB.out.trans (hb.mono HB.out.size))
  clear hb
  generalize ((v2.alloc (.cells (vrow 8 2 A1 4 c1) 27)).alloc (.cells #[.int .i64 1, .int .i64 2] 55)) = v3 at *
  replace R1 := Lib.hid R1
  replace HS2 := Lib.hid HS2
  refine (HV2.out _ _ _ HS2.out).mono ?_
  rintro e v4 ⟨A2, c2, rfl, hv4_0, hb⟩
  replace HO1 := Lib.hid (HO1.out.keep hb)
  replace R1 := Lib.hid ((hb.block _ (row_lt R1.out)).trans R1.out)
  replace HS2 := Lib.hid (HS2.out.keep hb)
  replace HB := Lib.hid (HB.out.trans (hb.mono HB.out.size))
  have HO2 := Lib.hid hv4_0
  clear hv4_0 hb
  clear HS2
  simp only [vrow]
  go_wp2_with fail
  have hb := (ba (ba (brefl v4) (.cells (vrow 5 1 A2 8 c2) 27)) (.cells #[.int .i64 (-1), .int .i64 2] 55))
  have R3 := (alloc2 v4 (.cells (vrow 5 1 A2 8 c2) 27) (.cells #[.int .i64 (-1), .int .i64 2] 55)).1
  have HS3 : SlV ((v4.alloc (.cells (vrow 5 1 A2 8 c2) 27)).alloc (.cells #[.int .i64 (-1), .int .i64 2] 55)) (some ⟨v4.heap.size + 1, 0, none⟩) (iv [-1, 2]) := by simpa using SlV.new_ (v4.alloc (.cells (vrow 5 1 A2 8 c2) 27)) 55 #[.int .i64 (-1), .int .i64 2]
  replace HO1 := Lib.hid (HO1.out.keep hb)
  replace R1 := Lib.hid ((hb.block _ (row_lt R1.out)).trans R1.out)
  replace HO2 := Lib.hid (HO2.out.keep hb)
  replace HB := Lib.hid (HB.out.trans (hb.mono HB.out.size))
  clear hb
  generalize ((v4.alloc (.cells (vrow 5 1 A2 8 c2) 27)).alloc (.cells #[.int .i64 (-1), .int .i64 2] 55)) = v5 at *
  replace R3 := Lib.hid R3
  replace HS3 := Lib.hid HS3
  refine (HV3.out _ _ _ HS3.out).mono ?_
  rintro e v6 ⟨A3, c3, rfl, hv6_0, hb⟩
  replace HO1 := Lib.hid (HO1.out.keep hb)
  replace R1 := Lib.hid ((hb.block _ (row_lt R1.out)).trans R1.out)
  replace HO2 := Lib.hid (HO2.out.keep hb)
  replace R3 := Lib.hid ((hb.block _ (row_lt R3.out)).trans R3.out)
  replace HS3 := Lib.hid (HS3.out.keep hb)
  replace HB := Lib.hid (HB.out.trans (hb.mono HB.out.size))
  have HO3 := Lib.hid hv6_0
  clear hv6_0 hb
  clear HS3 HO3
  simp only [vrow]
  go_wp2_with fail
  have hb := (ba (brefl v6) (.cells (vrow (on false 5) (on false ((1 : Nat) : Int)) A3 0 c3) 27))
  replace HO1 := Lib.hid (HO1.out.keep hb)
  replace R1 := Lib.hid ((hb.block _ (row_lt R1.out)).trans R1.out)
  replace HO2 := Lib.hid (HO2.out.keep hb)
  replace R3 := Lib.hid ((hb.block _ (row_lt R3.out)).trans R3.out)
  replace HB := Lib.hid (HB.out.trans (hb.mono HB.out.size))
  clear hb
  generalize (v6.alloc (.cells (vrow (on false 5) (on false ((1 : Nat) : Int)) A3 0 c3) 27)) = v7 at *
  refine (HV4.out _).mono ?_
  rintro e v8 ⟨A4, c4, rfl, hv8_0, hb⟩
  replace HO1 := Lib.hid (HO1.out.keep hb)
  replace R1 := Lib.hid ((hb.block _ (row_lt R1.out)).trans R1.out)
  replace HO2 := Lib.hid (HO2.out.keep hb)
  replace R3 := Lib.hid ((hb.block _ (row_lt R3.out)).trans R3.out)
  replace HB := Lib.hid (HB.out.trans (hb.mono HB.out.size))
  have HO4 := Lib.hid hv8_0
  clear hv8_0 hb
  simp only [vrow]
  go_wp2_with fail
  have hb := (ba (brefl v8) (.cells (vrow 2 3 A4 3 c4) 27))
  have R7 := (alloc1 v8 (.cells (vrow 2 3 A4 3 c4) 27)).1
  replace HO1 := Lib.hid (HO1.out.keep hb)
  replace R1 := Lib.hid ((hb.block _ (row_lt R1.out)).trans R1.out)
  replace HO2 := Lib.hid (HO2.out.keep hb)
  replace R3 := Lib.hid ((hb.block _ (row_lt R3.out)).trans R3.out)
  replace HO4 := Lib.hid (HO4.out.keep hb)
  replace HB := Lib.hid (HB.out.trans (hb.mono HB.out.size))
  clear hb
  generalize (v8.alloc (.cells (vrow 2 3 A4 3 c4) 27)) = v9 at *
  replace R7 := Lib.hid R7
  refine (HV5.out _).mono ?_
  rintro e v10 ⟨A5, c5, rfl, hv10_0, hb⟩
  replace HO1 := Lib.hid (HO1.out.keep hb)
  replace R1 := Lib.hid ((hb.block _ (row_lt R1.out)).trans R1.out)
  replace HO2 := Lib.hid (HO2.out.keep hb)
  replace R3 := Lib.hid ((hb.block _ (row_lt R3.out)).trans R3.out)
  replace HO4 := Lib.hid (HO4.out.keep hb)
  replace R7 := Lib.hid ((hb.block _ (row_lt R7.out)).trans R7.out)
  replace HB := Lib.hid (HB.out.trans (hb.mono HB.out.size))
  have HO5 := Lib.hid hv10_0
  clear hv10_0 hb
  simp only [vrow]
  go_wp2_with fail
  have hb := (ba (ba (brefl v10) (.cells (vrow 2 1 A5 1 c5) 27)) (.cells #[.int .i64 258] 3))
  have R9 := (alloc2 v10 (.cells (vrow 2 1 A5 1 c5) 27) (.cells #[.int .i64 258] 3)).1
  have HS6 : Sl .i64 ((v10.alloc (.cells (vrow 2 1 A5 1 c5) 27)).alloc (.cells #[.int .i64 258] 3)) (some ⟨v10.heap.size + 1, 0, none⟩) [258] := by simpa using Sl.new_ (k := .i64) (v10.alloc (.cells (vrow 2 1 A5 1 c5) 27)) 3 #[.int .i64 258] [258] rfl
  replace HO1 := Lib.hid (HO1.out.keep hb)
  replace R1 := Lib.hid ((hb.block _ (row_lt R1.out)).trans R1.out)
  replace HO2 := Lib.hid (HO2.out.keep hb)
  replace R3 := Lib.hid ((hb.block _ (row_lt R3.out)).trans R3.out)
  replace HO4 := Lib.hid (HO4.out.keep hb)
  replace R7 := Lib.hid ((hb.block _ (row_lt R7.out)).trans R7.out)
  replace HO5 := Lib.hid (HO5.out.keep hb)
  replace HB := Lib.hid (HB.out.trans (hb.mono HB.out.size))
  clear hb
  generalize ((v10.alloc (.cells (vrow 2 1 A5 1 c5) 27)).alloc (.cells #[.int .i64 258] 3)) = v11 at *
  replace R9 := Lib.hid R9
  replace HS6 := Lib.hid HS6
  refine (HV6.out _ _ _ HS6.out).mono ?_
  rintro e v12 ⟨A6, c6, rfl, hv12_0, hb⟩
  replace HO1 := Lib.hid (HO1.out.keep hb)
  replace R1 := Lib.hid ((hb.block _ (row_lt R1.out)).trans R1.out)
  replace HO2 := Lib.hid (HO2.out.keep hb)
  replace R3 := Lib.hid ((hb.block _ (row_lt R3.out)).trans R3.out)
  replace HO4 := Lib.hid (HO4.out.keep hb)
  replace R7 := Lib.hid ((hb.block _ (row_lt R7.out)).trans R7.out)
  replace HO5 := Lib.hid (HO5.out.keep hb)
  replace R9 := Lib.hid ((hb.block _ (row_lt R9.out)).trans R9.out)
  replace HS6 := Lib.hid (HS6.out.keep hb)
  replace HB := Lib.hid (HB.out.trans (hb.mono HB.out.size))
  have HO6 := Lib.hid hv12_0
  clear hv12_0 hb
  clear HS6
  simp only [vrow]
  go_wp2_with fail
  rw [Joins.run_convert_bytes_const_at (v12.alloc (.cells (vrow 3 1 A6 2 c6) 27)) 25 5 #[.int .u8 97, .int .u8 98] 2 2 _ (by simp) Try.underlying25 Try.underlying5]
  simp only [Result.andThen]
  rw [Oper.upon_value]
  go_wp2_with fail
  have hb := (ba (ba (brefl v12) (.cells (vrow 3 1 A6 2 c6) 27)) (.cells #[.int .u8 97, .int .u8 98] 5 (2, 3)))
  have R11 := (alloc2 v12 (.cells (vrow 3 1 A6 2 c6) 27) (.cells #[.int .u8 97, .int .u8 98] 5 (2, 3))).1
  have HS7 : Sl .u8 ((v12.alloc (.cells (vrow 3 1 A6 2 c6) 27)).alloc (.cells #[.int .u8 97, .int .u8 98] 5 (2, 3))) (some ⟨v12.heap.size + 1, 0, none⟩) [97, 98] := by simpa using sl_mark (k := .u8) (v12.alloc (.cells (vrow 3 1 A6 2 c6) 27)) 5 #[.int .u8 97, .int .u8 98] (2, 3) [97, 98] rfl
  replace HO1 := Lib.hid (HO1.out.keep hb)
  replace R1 := Lib.hid ((hb.block _ (row_lt R1.out)).trans R1.out)
  replace HO2 := Lib.hid (HO2.out.keep hb)
  replace R3 := Lib.hid ((hb.block _ (row_lt R3.out)).trans R3.out)
  replace HO4 := Lib.hid (HO4.out.keep hb)
  replace R7 := Lib.hid ((hb.block _ (row_lt R7.out)).trans R7.out)
  replace HO5 := Lib.hid (HO5.out.keep hb)
  replace R9 := Lib.hid ((hb.block _ (row_lt R9.out)).trans R9.out)
  replace HO6 := Lib.hid (HO6.out.keep hb)
  replace HB := Lib.hid (HB.out.trans (hb.mono HB.out.size))
  clear hb
  generalize ((v12.alloc (.cells (vrow 3 1 A6 2 c6) 27)).alloc (.cells #[.int .u8 97, .int .u8 98] 5 (2, 3))) = v13 at *
  replace R11 := Lib.hid R11
  replace HS7 := Lib.hid HS7
  refine (HV7.out _ _ _ (Nat.le_refl 2) HS7.out).mono ?_
  rintro e v14 ⟨A7, c7, rfl, hv14_0, hb⟩
  replace HO1 := Lib.hid (HO1.out.keep hb)
  replace R1 := Lib.hid ((hb.block _ (row_lt R1.out)).trans R1.out)
  replace HO2 := Lib.hid (HO2.out.keep hb)
  replace R3 := Lib.hid ((hb.block _ (row_lt R3.out)).trans R3.out)
  replace HO4 := Lib.hid (HO4.out.keep hb)
  replace R7 := Lib.hid ((hb.block _ (row_lt R7.out)).trans R7.out)
  replace HO5 := Lib.hid (HO5.out.keep hb)
  replace R9 := Lib.hid ((hb.block _ (row_lt R9.out)).trans R9.out)
  replace HO6 := Lib.hid (HO6.out.keep hb)
  replace R11 := Lib.hid ((hb.block _ (row_lt R11.out)).trans R11.out)
  replace HS7 := Lib.hid (HS7.out.keep hb)
  replace HB := Lib.hid (HB.out.trans (hb.mono HB.out.size))
  have HO7 := Lib.hid hv14_0
  clear hv14_0 hb
  clear HS7 HO7 HV1 HV2 HV3 HV4 HV5 HV6 HV7
  simp only [vrow]
  obtain ⟨g1, hg1⟩ : ∃ g, g = v2.heap.size := ⟨_, rfl⟩
  rw [← hg1] at R1 ⊢
  clear hg1
  obtain ⟨g3, hg3⟩ : ∃ g, g = v4.heap.size := ⟨_, rfl⟩
  rw [← hg3] at R3 ⊢
  clear hg3
  obtain ⟨g7, hg7⟩ : ∃ g, g = v8.heap.size := ⟨_, rfl⟩
  rw [← hg7] at R7 ⊢
  clear hg7
  obtain ⟨g9, hg9⟩ : ∃ g, g = v10.heap.size := ⟨_, rfl⟩
  rw [← hg9] at R9 ⊢
  clear hg9
  obtain ⟨g11, hg11⟩ : ∃ g, g = v12.heap.size := ⟨_, rfl⟩
  rw [← hg11] at R11 ⊢
  clear hg11
  go_wp2_with fail
  have hb := (ba (brefl v14) (.cells (vrow (on false 2) (on false 2) A7 0 c7) 27))
  replace HO1 := Lib.hid (HO1.out.keep hb)
  replace R1 := Lib.hid ((hb.block _ (row_lt R1.out)).trans R1.out)
  replace HO2 := Lib.hid (HO2.out.keep hb)
  replace R3 := Lib.hid ((hb.block _ (row_lt R3.out)).trans R3.out)
  replace HO4 := Lib.hid (HO4.out.keep hb)
  replace R7 := Lib.hid ((hb.block _ (row_lt R7.out)).trans R7.out)
  replace HO5 := Lib.hid (HO5.out.keep hb)
  replace R9 := Lib.hid ((hb.block _ (row_lt R9.out)).trans R9.out)
  replace HO6 := Lib.hid (HO6.out.keep hb)
  replace R11 := Lib.hid ((hb.block _ (row_lt R11.out)).trans R11.out)
  replace HB := Lib.hid (HB.out.trans (hb.mono HB.out.size))
  clear hb
  generalize (v14.alloc (.cells (vrow (on false 2) (on false 2) A7 0 c7) 27)) = v15 at *
  refine (HSZ.out 3 _).mono ?_
  rintro e v16 ⟨rfl, hb⟩
  replace HO1 := Lib.hid (HO1.out.keep hb)
  replace R1 := Lib.hid ((hb.block _ (row_lt R1.out)).trans R1.out)
  replace HO2 := Lib.hid (HO2.out.keep hb)
  replace R3 := Lib.hid ((hb.block _ (row_lt R3.out)).trans R3.out)
  replace HO4 := Lib.hid (HO4.out.keep hb)
  replace R7 := Lib.hid ((hb.block _ (row_lt R7.out)).trans R7.out)
  replace HO5 := Lib.hid (HO5.out.keep hb)
  replace R9 := Lib.hid ((hb.block _ (row_lt R9.out)).trans R9.out)
  replace HO6 := Lib.hid (HO6.out.keep hb)
  replace R11 := Lib.hid ((hb.block _ (row_lt R11.out)).trans R11.out)
  replace HB := Lib.hid (HB.out.trans (hb.mono HB.out.size))
  clear hb
  go_wp2_with fail
  refine (HSZ.out 5 _).mono ?_
  rintro e v17 ⟨rfl, hb⟩
  replace HO1 := Lib.hid (HO1.out.keep hb)
  replace R1 := Lib.hid ((hb.block _ (row_lt R1.out)).trans R1.out)
  replace HO2 := Lib.hid (HO2.out.keep hb)
  replace R3 := Lib.hid ((hb.block _ (row_lt R3.out)).trans R3.out)
  replace HO4 := Lib.hid (HO4.out.keep hb)
  replace R7 := Lib.hid ((hb.block _ (row_lt R7.out)).trans R7.out)
  replace HO5 := Lib.hid (HO5.out.keep hb)
  replace R9 := Lib.hid ((hb.block _ (row_lt R9.out)).trans R9.out)
  replace HO6 := Lib.hid (HO6.out.keep hb)
  replace R11 := Lib.hid ((hb.block _ (row_lt R11.out)).trans R11.out)
  replace HB := Lib.hid (HB.out.trans (hb.mono HB.out.size))
  clear hb
  go_wp2_with fail
  refine (HSZ.out 13 _).mono ?_
  rintro e v18 ⟨rfl, hb⟩
  replace HO1 := Lib.hid (HO1.out.keep hb)
  replace R1 := Lib.hid ((hb.block _ (row_lt R1.out)).trans R1.out)
  replace HO2 := Lib.hid (HO2.out.keep hb)
  replace R3 := Lib.hid ((hb.block _ (row_lt R3.out)).trans R3.out)
  replace HO4 := Lib.hid (HO4.out.keep hb)
  replace R7 := Lib.hid ((hb.block _ (row_lt R7.out)).trans R7.out)
  replace HO5 := Lib.hid (HO5.out.keep hb)
  replace R9 := Lib.hid ((hb.block _ (row_lt R9.out)).trans R9.out)
  replace HO6 := Lib.hid (HO6.out.keep hb)
  replace R11 := Lib.hid ((hb.block _ (row_lt R11.out)).trans R11.out)
  replace HB := Lib.hid (HB.out.trans (hb.mono HB.out.size))
  clear hb
  go_wp2_with ((with_reducible refine wpl_load_row rtV ?_ (.tmp 1) ?_ (g1) ?_ 27 (vrow 8 2 A1 4 c1) ?_ R1.out ?_); rfl; rfl; rfl; rfl; simp only [Act.put, List.setIfInBounds_toArray, List.set_cons_succ, List.set_cons_zero])
  have hb := (ba (brefl v18) (.cells #[.int .u8 255, .int .u8 255, .int .u8 0, .int .u8 2] 5))
  have HD : Sl .u8 (v18.alloc (.cells #[.int .u8 255, .int .u8 255, .int .u8 0, .int .u8 2] 5)) (some ⟨v18.heap.size, 0, none⟩) [255, 255, 0, 2] := Sl.new_ v18 _ _ _ rfl
  replace HO1 := Lib.hid (HO1.out.keep hb)
  replace R1 := Lib.hid ((hb.block _ (row_lt R1.out)).trans R1.out)
  replace HO2 := Lib.hid (HO2.out.keep hb)
  replace R3 := Lib.hid ((hb.block _ (row_lt R3.out)).trans R3.out)
  replace HO4 := Lib.hid (HO4.out.keep hb)
  replace R7 := Lib.hid ((hb.block _ (row_lt R7.out)).trans R7.out)
  replace HO5 := Lib.hid (HO5.out.keep hb)
  replace R9 := Lib.hid ((hb.block _ (row_lt R9.out)).trans R9.out)
  replace HO6 := Lib.hid (HO6.out.keep hb)
  replace R11 := Lib.hid ((hb.block _ (row_lt R11.out)).trans R11.out)
  replace HB := Lib.hid (HB.out.trans (hb.mono HB.out.size))
  clear hb
  generalize (v18.alloc (.cells #[.int .u8 255, .int .u8 255, .int .u8 0, .int .u8 2] 5)) = v19 at *
  replace HD := Lib.hid HD
  refine (has_any 8 2 A1 [255, 255, 0, 2] c1 8 2 (some ⟨v18.heap.size, 0, none⟩) [255, 255, 0, 2] 4 v19 HO1.out.sl'.2 HD.out (by decide) (by decide) (by kernel_rfl)).mono ?_
  rintro e v20 ⟨rfl, hb⟩
  replace HO1 := Lib.hid (HO1.out.keep hb)
  replace R1 := Lib.hid ((hb.block _ (row_lt R1.out)).trans R1.out)
  replace HO2 := Lib.hid (HO2.out.keep hb)
  replace R3 := Lib.hid ((hb.block _ (row_lt R3.out)).trans R3.out)
  replace HO4 := Lib.hid (HO4.out.keep hb)
  replace R7 := Lib.hid ((hb.block _ (row_lt R7.out)).trans R7.out)
  replace HO5 := Lib.hid (HO5.out.keep hb)
  replace R9 := Lib.hid ((hb.block _ (row_lt R9.out)).trans R9.out)
  replace HO6 := Lib.hid (HO6.out.keep hb)
  replace R11 := Lib.hid ((hb.block _ (row_lt R11.out)).trans R11.out)
  replace HD := Lib.hid (HD.out.keep hb)
  replace HB := Lib.hid (HB.out.trans (hb.mono HB.out.size))
  clear hb
  clear HD
  go_wp2_with ((with_reducible refine wpl_load_row rtV ?_ (.tmp 3) ?_ (g3) ?_ 27 (vrow 5 1 A2 8 c2) ?_ R3.out ?_); rfl; rfl; rfl; rfl; simp only [Act.put, List.setIfInBounds_toArray, List.set_cons_succ, List.set_cons_zero])
  have hb := (ba (brefl v20) (.cells #[.int .u8 0, .int .u8 0, .int .u8 0, .int .u8 1, .int .u8 0, .int .u8 0, .int .u8 0, .int .u8 2] 5))
  have HD : Sl .u8 (v20.alloc (.cells #[.int .u8 0, .int .u8 0, .int .u8 0, .int .u8 1, .int .u8 0, .int .u8 0, .int .u8 0, .int .u8 2] 5)) (some ⟨v20.heap.size, 0, none⟩) [0, 0, 0, 1, 0, 0, 0, 2] := Sl.new_ v20 _ _ _ rfl
  replace HO1 := Lib.hid (HO1.out.keep hb)
  replace R1 := Lib.hid ((hb.block _ (row_lt R1.out)).trans R1.out)
  replace HO2 := Lib.hid (HO2.out.keep hb)
  replace R3 := Lib.hid ((hb.block _ (row_lt R3.out)).trans R3.out)
  replace HO4 := Lib.hid (HO4.out.keep hb)
  replace R7 := Lib.hid ((hb.block _ (row_lt R7.out)).trans R7.out)
  replace HO5 := Lib.hid (HO5.out.keep hb)
  replace R9 := Lib.hid ((hb.block _ (row_lt R9.out)).trans R9.out)
  replace HO6 := Lib.hid (HO6.out.keep hb)
  replace R11 := Lib.hid ((hb.block _ (row_lt R11.out)).trans R11.out)
  replace HB := Lib.hid (HB.out.trans (hb.mono HB.out.size))
  clear hb
  generalize (v20.alloc (.cells #[.int .u8 0, .int .u8 0, .int .u8 0, .int .u8 1, .int .u8 0, .int .u8 0, .int .u8 0, .int .u8 2] 5)) = v21 at *
  replace HD := Lib.hid HD
  refine (has_any 5 1 A2 [0, 0, 0, 1, 0, 0, 0, 2] c2 5 1 (some ⟨v20.heap.size, 0, none⟩) [0, 0, 0, 1, 0, 0, 0, 2] 8 v21 HO2.out.sl'.2 HD.out (by decide) (by decide) (by kernel_rfl)).mono ?_
  rintro e v22 ⟨rfl, hb⟩
  replace HO1 := Lib.hid (HO1.out.keep hb)
  replace R1 := Lib.hid ((hb.block _ (row_lt R1.out)).trans R1.out)
  replace HO2 := Lib.hid (HO2.out.keep hb)
  replace R3 := Lib.hid ((hb.block _ (row_lt R3.out)).trans R3.out)
  replace HO4 := Lib.hid (HO4.out.keep hb)
  replace R7 := Lib.hid ((hb.block _ (row_lt R7.out)).trans R7.out)
  replace HO5 := Lib.hid (HO5.out.keep hb)
  replace R9 := Lib.hid ((hb.block _ (row_lt R9.out)).trans R9.out)
  replace HO6 := Lib.hid (HO6.out.keep hb)
  replace R11 := Lib.hid ((hb.block _ (row_lt R11.out)).trans R11.out)
  replace HD := Lib.hid (HD.out.keep hb)
  replace HB := Lib.hid (HB.out.trans (hb.mono HB.out.size))
  clear hb
  clear HD
  go_wp2_with ((with_reducible refine wpl_load_row rtV ?_ (.tmp 7) ?_ (g7) ?_ 27 (vrow 2 3 A4 3 c4) ?_ R7.out ?_); rfl; rfl; rfl; rfl; simp only [Act.put, List.setIfInBounds_toArray, List.set_cons_succ, List.set_cons_zero])
  have hb := (ba (brefl v22) (.cells #[.int .u8 97, .int .u8 98, .int .u8 0] 5))
  have HD : Sl .u8 (v22.alloc (.cells #[.int .u8 97, .int .u8 98, .int .u8 0] 5)) (some ⟨v22.heap.size, 0, none⟩) [97, 98, 0] := Sl.new_ v22 _ _ _ rfl
  replace HO1 := Lib.hid (HO1.out.keep hb)
  replace R1 := Lib.hid ((hb.block _ (row_lt R1.out)).trans R1.out)
  replace HO2 := Lib.hid (HO2.out.keep hb)
  replace R3 := Lib.hid ((hb.block _ (row_lt R3.out)).trans R3.out)
  replace HO4 := Lib.hid (HO4.out.keep hb)
  replace R7 := Lib.hid ((hb.block _ (row_lt R7.out)).trans R7.out)
  replace HO5 := Lib.hid (HO5.out.keep hb)
  replace R9 := Lib.hid ((hb.block _ (row_lt R9.out)).trans R9.out)
  replace HO6 := Lib.hid (HO6.out.keep hb)
  replace R11 := Lib.hid ((hb.block _ (row_lt R11.out)).trans R11.out)
  replace HB := Lib.hid (HB.out.trans (hb.mono HB.out.size))
  clear hb
  generalize (v22.alloc (.cells #[.int .u8 97, .int .u8 98, .int .u8 0] 5)) = v23 at *
  replace HD := Lib.hid HD
  refine (has_any 2 3 A4 [97, 98, 0] c4 2 3 (some ⟨v22.heap.size, 0, none⟩) [97, 98, 0] 3 v23 HO4.out HD.out (by decide) (by decide) (by kernel_rfl)).mono ?_
  rintro e v24 ⟨rfl, hb⟩
  replace HO1 := Lib.hid (HO1.out.keep hb)
  replace R1 := Lib.hid ((hb.block _ (row_lt R1.out)).trans R1.out)
  replace HO2 := Lib.hid (HO2.out.keep hb)
  replace R3 := Lib.hid ((hb.block _ (row_lt R3.out)).trans R3.out)
  replace HO4 := Lib.hid (HO4.out.keep hb)
  replace R7 := Lib.hid ((hb.block _ (row_lt R7.out)).trans R7.out)
  replace HO5 := Lib.hid (HO5.out.keep hb)
  replace R9 := Lib.hid ((hb.block _ (row_lt R9.out)).trans R9.out)
  replace HO6 := Lib.hid (HO6.out.keep hb)
  replace R11 := Lib.hid ((hb.block _ (row_lt R11.out)).trans R11.out)
  replace HD := Lib.hid (HD.out.keep hb)
  replace HB := Lib.hid (HB.out.trans (hb.mono HB.out.size))
  clear hb
  clear HD
  go_wp2_with ((with_reducible refine wpl_load_row rtV ?_ (.tmp 9) ?_ (g9) ?_ 27 (vrow 2 1 A5 1 c5) ?_ R9.out ?_); rfl; rfl; rfl; rfl; simp only [Act.put, List.setIfInBounds_toArray, List.set_cons_succ, List.set_cons_zero])
  have hb := (ba (brefl v24) (.cells #[.int .u8 0] 5))
  have HD : Sl .u8 (v24.alloc (.cells #[.int .u8 0] 5)) (some ⟨v24.heap.size, 0, none⟩) [0] := Sl.new_ v24 _ _ _ rfl
  replace HO1 := Lib.hid (HO1.out.keep hb)
  replace R1 := Lib.hid ((hb.block _ (row_lt R1.out)).trans R1.out)
  replace HO2 := Lib.hid (HO2.out.keep hb)
  replace R3 := Lib.hid ((hb.block _ (row_lt R3.out)).trans R3.out)
  replace HO4 := Lib.hid (HO4.out.keep hb)
  replace R7 := Lib.hid ((hb.block _ (row_lt R7.out)).trans R7.out)
  replace HO5 := Lib.hid (HO5.out.keep hb)
  replace R9 := Lib.hid ((hb.block _ (row_lt R9.out)).trans R9.out)
  replace HO6 := Lib.hid (HO6.out.keep hb)
  replace R11 := Lib.hid ((hb.block _ (row_lt R11.out)).trans R11.out)
  replace HB := Lib.hid (HB.out.trans (hb.mono HB.out.size))
  clear hb
  generalize (v24.alloc (.cells #[.int .u8 0] 5)) = v25 at *
  replace HD := Lib.hid HD
  refine (has_any 2 1 A5 [0] c5 2 1 (some ⟨v24.heap.size, 0, none⟩) [0] 1 v25 HO5.out HD.out (by decide) (by decide) (by kernel_rfl)).mono ?_
  rintro e v26 ⟨rfl, hb⟩
  replace HO1 := Lib.hid (HO1.out.keep hb)
  replace R1 := Lib.hid ((hb.block _ (row_lt R1.out)).trans R1.out)
  replace HO2 := Lib.hid (HO2.out.keep hb)
  replace R3 := Lib.hid ((hb.block _ (row_lt R3.out)).trans R3.out)
  replace HO4 := Lib.hid (HO4.out.keep hb)
  replace R7 := Lib.hid ((hb.block _ (row_lt R7.out)).trans R7.out)
  replace HO5 := Lib.hid (HO5.out.keep hb)
  replace R9 := Lib.hid ((hb.block _ (row_lt R9.out)).trans R9.out)
  replace HO6 := Lib.hid (HO6.out.keep hb)
  replace R11 := Lib.hid ((hb.block _ (row_lt R11.out)).trans R11.out)
  replace HD := Lib.hid (HD.out.keep hb)
  replace HB := Lib.hid (HB.out.trans (hb.mono HB.out.size))
  clear hb
  clear HD
  go_wp2_with ((with_reducible refine wpl_load_row rtV ?_ (.tmp 11) ?_ (g11) ?_ 27 (vrow 3 1 A6 2 c6) ?_ R11.out ?_); rfl; rfl; rfl; rfl; simp only [Act.put, List.setIfInBounds_toArray, List.set_cons_succ, List.set_cons_zero])
  refine (HBT.out _ _ _ HO6.out.sl'.2).mono ?_
  rintro e v27 ⟨A8, c8, rfl, hv27_0, hb⟩
  replace HO1 := Lib.hid (HO1.out.keep hb)
  replace R1 := Lib.hid ((hb.block _ (row_lt R1.out)).trans R1.out)
  replace HO2 := Lib.hid (HO2.out.keep hb)
  replace R3 := Lib.hid ((hb.block _ (row_lt R3.out)).trans R3.out)
  replace HO4 := Lib.hid (HO4.out.keep hb)
  replace R7 := Lib.hid ((hb.block _ (row_lt R7.out)).trans R7.out)
  replace HO5 := Lib.hid (HO5.out.keep hb)
  replace R9 := Lib.hid ((hb.block _ (row_lt R9.out)).trans R9.out)
  replace HO6 := Lib.hid (HO6.out.keep hb)
  replace R11 := Lib.hid ((hb.block _ (row_lt R11.out)).trans R11.out)
  replace HB := Lib.hid (HB.out.trans (hb.mono HB.out.size))
  have HO8 := Lib.hid hv27_0
  clear hv27_0 hb
  go_wp2_with fail
  have hb := (ba (brefl v27) (.cells #[.int .u8 2, .int .u8 1] 5))
  have HD : Sl .u8 (v27.alloc (.cells #[.int .u8 2, .int .u8 1] 5)) (some ⟨v27.heap.size, 0, none⟩) [2, 1] := Sl.new_ v27 _ _ _ rfl
  replace HO1 := Lib.hid (HO1.out.keep hb)
  replace R1 := Lib.hid ((hb.block _ (row_lt R1.out)).trans R1.out)
  replace HO2 := Lib.hid (HO2.out.keep hb)
  replace R3 := Lib.hid ((hb.block _ (row_lt R3.out)).trans R3.out)
  replace HO4 := Lib.hid (HO4.out.keep hb)
  replace R7 := Lib.hid ((hb.block _ (row_lt R7.out)).trans R7.out)
  replace HO5 := Lib.hid (HO5.out.keep hb)
  replace R9 := Lib.hid ((hb.block _ (row_lt R9.out)).trans R9.out)
  replace HO6 := Lib.hid (HO6.out.keep hb)
  replace R11 := Lib.hid ((hb.block _ (row_lt R11.out)).trans R11.out)
  replace HO8 := Lib.hid (HO8.out.keep hb)
  replace HB := Lib.hid (HB.out.trans (hb.mono HB.out.size))
  clear hb
  generalize (v27.alloc (.cells #[.int .u8 2, .int .u8 1] 5)) = v28 at *
  replace HD := Lib.hid HD
  refine (same_any A8 (some ⟨v27.heap.size, 0, none⟩) [2, 1] [2, 1] c8 2 v28 HO8.out.sl'.2 HD.out (by decide) (by decide)).mono ?_
  rintro e v29 ⟨rfl, hb⟩
  replace HO1 := Lib.hid (HO1.out.keep hb)
  replace R1 := Lib.hid ((hb.block _ (row_lt R1.out)).trans R1.out)
  replace HO2 := Lib.hid (HO2.out.keep hb)
  replace R3 := Lib.hid ((hb.block _ (row_lt R3.out)).trans R3.out)
  replace HO4 := Lib.hid (HO4.out.keep hb)
  replace R7 := Lib.hid ((hb.block _ (row_lt R7.out)).trans R7.out)
  replace HO5 := Lib.hid (HO5.out.keep hb)
  replace R9 := Lib.hid ((hb.block _ (row_lt R9.out)).trans R9.out)
  replace HO6 := Lib.hid (HO6.out.keep hb)
  replace R11 := Lib.hid ((hb.block _ (row_lt R11.out)).trans R11.out)
  replace HO8 := Lib.hid (HO8.out.keep hb)
  replace HD := Lib.hid (HD.out.keep hb)
  replace HB := Lib.hid (HB.out.trans (hb.mono HB.out.size))
  clear hb
  go_wp2_with fail
  go_ret
  exact ⟨rfl, HB.out⟩
end Go.Proofs.Ytmdcdmgbillehaa
