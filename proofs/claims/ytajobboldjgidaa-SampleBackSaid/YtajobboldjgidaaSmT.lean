/- A plane brought down; a picture's planes. -/
import Derived.Test.YtajobboldjgidaaSmS
namespace Go.Proofs.Ytajobboldjgidaa
open Go.RowKit
open Go.Tin
set_option linter.unusedVariables false
set_option linter.unusedSimpArgs false


def ptN (n s : Nat) : Nat := (n + s - 1) / s
theorem ptV_N {n s : Nat} (hs : 1 ≤ s) : ptV (n : Int) (s : Int) = ((ptN n s : Nat) : Int) := by
  unfold ptV ptN
  rw [Int.natCast_ediv, show ((n + s - 1 : Nat) : Int) = (n : Int) + (s : Int) - 1 by omega]
theorem ptN_bd {n s : Nat} (hn : 1 ≤ n ∧ n ≤ 4096) (hs : 1 ≤ s ∧ s ≤ 2) : 1 ≤ ptN n s ∧ ptN n s ≤ 4096 := by
  unfold ptN
  have : s = 1 ∨ s = 2 := by omega
  rcases this with rfl | rfl <;> omega
theorem cellP (v : Value) {W : World} {g : Nat} {cs : Array Value} {ty : TypeId} (h : W.heap[g]? = some (.cells cs ty (0, 0))) (i : Nat) (hi : cs[i]? = some v) : W.cell? ⟨g, i, none⟩ = some v := row_cell h i hi
set_option maxRecDepth 100000 in
set_option maxHeartbeats 4000000 in
theorem brought_any (wd ht : Nat) (v : List Int) (h s : Nat) (A : Option Addr) (c : Nat) (w : World) (hs : Sl .i64 w A v) (hm : mayP (wd : Int) (ht : Int) v = true) (hh : 1 ≤ h ∧ h ≤ 2) (hv : 1 ≤ s ∧ s ≤ 2) :
    Calls Try.prog 49 #[plA (wd : Int) (ht : Int) A v.length c, .int .i64 (h : Int), .int .i64 (s : Int)] w fun e w' => ∃ A' c', e = .returned (plA (ptN wd h : Nat) (ptN ht s : Nat) A' (ptN wd h * ptN ht s) c') ∧
      Own .i64 3 w' w.heap.size (.slice A' (ptN wd h * ptN ht s) c') (grid (dnV (wd : Int) (ht : Int) v h s) (ptN wd h) (ptN ht s)) ∧ Below w.heap.size w w' := by
  obtain ⟨r0, r1, r2, r3, hb, hz⟩ := alloc4 w (.cells (plrow (wd : Int) (ht : Int) A v.length c) 71) (.cells #[.int .i64 (h : Int)] 3) (.cells #[.int .i64 (s : Int)] 3) (.cells (plrow 0 0 none 0 0) 24)
  have HS := Lib.hid hs
  have HM := Lib.hid hm
  have R3 := Lib.hid r0
  have R4 := Lib.hid r1
  have R5 := Lib.hid r2
  have R6 := Lib.hid r3
  have HB := Lib.hid hb
  obtain ⟨W0a, W0b⟩ := mayP_W hm
  obtain ⟨H0a, H0b⟩ := mayP_H hm
  have hwp := ptN_bd (n := wd) (s := h) (by omega) hh
  have hhp := ptN_bd (n := ht) (s := s) (by omega) hv
  have PWN := Lib.hid (ptV_N (n := wd) hh.1)
  have PHN := Lib.hid (ptV_N (n := ht) hv.1)
  have HH := Lib.hid hh
  have HV := Lib.hid hv
  obtain ⟨a0, a1⟩ := hh
  obtain ⟨s0, s1⟩ := hv
  clear hs hm r0 r1 r2 r3 hb
  go_enter Try.func49, Try.ntmps49
  go_wp2_with fail
  generalize ((((w.alloc (.cells (plrow (wd : Int) (ht : Int) A v.length c) 71)).alloc (.cells #[.int .i64 (h : Int)] 3)).alloc (.cells #[.int .i64 (s : Int)] 3)).alloc (.cells (plrow 0 0 none 0 0) 24)) = w0 at *
  have LT_R3 : _ < w.heap.size + 3 := (show w.heap.size < w.heap.size + 3 by omega)
  have LT_R4 : _ < w.heap.size + 3 := (show w.heap.size + 1 < w.heap.size + 3 by omega)
  have LT_R5 : _ < w.heap.size + 3 := (show w.heap.size + 2 < w.heap.size + 3 by omega)
  -- R6: no load
  have SZ : w.heap.size + 3 ≤ w0.drew.heap.size := by show w.heap.size + 3 ≤ w0.heap.size; omega
  have hb := ud' (brefl w0)
  replace R3 := Lib.hid ((hb.block _ (row_lt R3.out)).trans R3.out)
  replace R4 := Lib.hid ((hb.block _ (row_lt R4.out)).trans R4.out)
  replace R5 := Lib.hid ((hb.block _ (row_lt R5.out)).trans R5.out)
  replace R6 := Lib.hid ((hb.block _ (row_lt R6.out)).trans R6.out)
  replace HB := Lib.hid (HB.out.trans (hb.mono HB.out.size))
  clear hb
  refine Tin.reg_begin (w.heap.size + 3) 13 (by rfl) (by kernel_rfl) ?_
  have q0 : ∀ p : Bel ((w.heap.size + 3)) w0.drew, p.w'.cell? ⟨w.heap.size, 0, none⟩ = some (.int .i64 (wd : Int)) := fun p => row_cell ((p.h.block _ LT_R3).trans R3.out) 0 rfl
  have q1 : ∀ p : Bel ((w.heap.size + 3)) w0.drew, p.w'.cell? ⟨w.heap.size, 1, none⟩ = some (.int .i64 (ht : Int)) := fun p => row_cell ((p.h.block _ LT_R3).trans R3.out) 1 rfl
  have q2 : ∀ p : Bel ((w.heap.size + 3)) w0.drew, p.w'.cell? ⟨w.heap.size + 1, 0, none⟩ = some (.int .i64 (h : Int)) := fun p => row_cell ((p.h.block _ LT_R4).trans R4.out) 0 rfl
  have q3 : ∀ p : Bel ((w.heap.size + 3)) w0.drew, p.w'.cell? ⟨w.heap.size + 2, 0, none⟩ = some (.int .i64 (s : Int)) := fun p => row_cell ((p.h.block _ LT_R5).trans R5.out) 0 rfl
  refine Tin.reg_quiets [0, 1, 2, 3, 5, 6, 7, 8, 10] _ 4 rfl (by simp only [Tin.pick, List.map_cons, List.map_nil, Array.getD_eq_getD_getElem?, List.getElem?_toArray, List.getElem?_cons_zero, List.getElem?_cons_succ, Option.getD_some]; rfl) (by kernel_rfl) (by kernel_rfl) ?_
  repeat (first | go_big_quiet_step (fail))
  refine wpQuiet_nil ?_
  clear q0 q1 q2 q3
  refine Tin.reg_one 4 _ rfl (by kernel_rfl) ?_
  try simp only [List.getElem_toArray, List.getElem_cons_succ, List.getElem_cons_zero]
  go_wp2_with fail
  refine (parts_any (wd : Int) (h : Int) _ (by omega) (by omega)).mono ?_
  rintro e w' ⟨rfl, rfl⟩
  rw [show ((wd : Int) + (h : Int) - 1) / (h : Int) = ptV (wd : Int) (h : Int) from rfl, PWN.out]
  go_wp2_with fail
  refine ⟨(w.heap.size + 3), Below.refl _ _, Nat.le_refl _, ?_⟩
  refine Tin.reg_one 9 _ rfl (by kernel_rfl) ?_
  try simp only [List.getElem_toArray, List.getElem_cons_succ, List.getElem_cons_zero]
  go_wp2_with fail
  refine (parts_any (ht : Int) (s : Int) _ (by omega) (by omega)).mono ?_
  rintro e w' ⟨rfl, rfl⟩
  rw [show ((ht : Int) + (s : Int) - 1) / (s : Int) = ptV (ht : Int) (s : Int) from rfl, PHN.out]
  go_wp2_with fail
  refine ⟨(w.heap.size + 3), Below.refl _ _, Nat.le_refl _, ?_⟩
  have HB1 := HB
  refine Tin.reg_one 11 _ rfl (by kernel_rfl) ?_
  try simp only [List.getElem_toArray, List.getElem_cons_succ, List.getElem_cons_zero]
  go_wp2_with fail
  refine (made_any (ptN wd h) (ptN ht s) hwp.1 hwp.2 hhp.1 hhp.2 (dnV (wd : Int) (ht : Int) v h s) 63 #[] #[.pointer (some ⟨w.heap.size + 2, 0, none⟩), .pointer (some ⟨w.heap.size + 1, 0, none⟩), .pointer (some ⟨w.heap.size, 0, none⟩)] _ (fun _ _ => by rfl) (fun W x y hbW hx hy => brought1_any (wd : Int) (ht : Int) v h s x y A c (w.heap.size + 2) (w.heap.size + 1) w.heap.size W (cellP (.int .i64 (s : Int)) ((hbW.block _ (row_lt R5.out)).trans R5.out) 0 rfl) (cellP (.int .i64 (h : Int)) ((hbW.block _ (row_lt R4.out)).trans R4.out) 0 rfl) ((hbW.block _ (row_lt R3.out)).trans R3.out) (HS.out.keep (HB.out.trans (hbW.mono HB.out.size))) HM.out HH.out HV.out (by omega) (by omega))).mono ?_
  rintro e x3 ⟨A5, c5, rfl, hx3_0, hv⟩
  go_wp2_with fail
  refine ⟨(w.heap.size + 3), hv.mono SZ, Nat.le_refl _, ?_⟩
  replace R3 := Lib.hid ((hv.block _ (row_lt R3.out)).trans R3.out)
  replace R4 := Lib.hid ((hv.block _ (row_lt R4.out)).trans R4.out)
  replace R5 := Lib.hid ((hv.block _ (row_lt R5.out)).trans R5.out)
  replace R6 := Lib.hid ((hv.block _ (row_lt R6.out)).trans R6.out)
  replace HB := Lib.hid (HB.out.trans (hv.mono HB.out.size))
  have HO5 := Lib.hid hx3_0
  replace SZ := Nat.le_trans SZ hv.size
  clear hx3_0 hv
  refine Tin.reg_one 12 _ rfl (by kernel_rfl) ?_
  try simp only [List.getElem_toArray, List.getElem_cons_succ, List.getElem_cons_zero]
  go_wp2_with ((with_reducible refine wpl_store_row rtP ?_ (.tmp 6) (.tmp 18) ?_ (w.heap.size + 3) ?_ (plrow (ptN wd h : Nat) (ptN ht s : Nat) A5 (ptN wd h * ptN ht s) c5) ?_ (pl_one _ _ _ _ _) 24 ?_ (plrow 0 0 none 0 0) ?_ R6.out ?_); rfl; rfl; rfl; rfl; rfl; rfl; intro x4 hr6 hg6 hs6)
  refine ⟨w.heap.size + 3, (Below.refl _ _).grown hg6 SZ (fun k hk => by cases hk; omega), Nat.le_refl _, ?_⟩
  refine Tin.reg_done (by kernel_rfl) ?_
  go_wp2_with fail
  exact bodyPost_ret (res_row rtP rfl _ _ (w.heap.size + 3) 24 (plrow (ptN wd h : Nat) (ptN ht s : Nat) A5 (ptN wd h * ptN ht s) c5) rfl rfl hr6) rfl ⟨A5, c5, rfl, (HO5.out.kept hg6 (ne_own (fun q hq => by have := (World.ownsRow.lt HO5.out q hq).1; have := HB1.out.size; have h9 : w.heap.size + 4 ≤ w0.drew.heap.size := Nat.le_of_eq hz.symm; omega))).mono (by have h9 : w.heap.size + 4 ≤ w0.drew.heap.size := Nat.le_of_eq hz.symm; omega), HB.out.grown hg6 HB.out.size (fun k hk => by cases hk; omega)⟩
end Go.Proofs.Ytajobboldjgidaa
