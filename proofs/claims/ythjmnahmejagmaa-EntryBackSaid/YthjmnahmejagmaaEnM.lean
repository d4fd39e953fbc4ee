/- The walk of EntryTells. -/
import Derived.Test.YthjmnahmejagmaaEnL
namespace Go.Proofs.Ythjmnahmejagmaa
open Go.RowKit
open Go.Tin
set_option linter.unusedVariables false
set_option linter.unusedSimpArgs false


set_option maxRecDepth 100000 in
set_option maxHeartbeats 8000000 in
theorem tells_any (A : Option Addr) (len cap : Nat) (l : List Int) (a o x0 x1 x2 x3 : Int) (w : World) (hr : IsRow .u8 w A len cap l) (wa : (Lit.int .i64 a).wf = true) (wo : (Lit.int .i64 o).wf = true) (y0 : (Lit.int .i64 x0).wf = true) (y1 : (Lit.int .i64 x1).wf = true) (y2 : (Lit.int .i64 x2).wf = true) (y3 : (Lit.int .i64 x3).wf = true) :
    Calls Try.prog 5 #[.slice A len cap, .int .i64 a, .int .i64 o, .agg #[.int .i64 x0, .int .i64 x1, .int .i64 x2, .int .i64 x3]] w fun e w' => e = .returned (.bool true) ∧ Below w.heap.size w w' := by
  obtain ⟨hs, hlen, hlc, hcm, hwf⟩ := Sl.of_row hr
  have hby := byts_wf hwf
  generalize l.take len = l at *
  subst hlen
  clear hwf hr hlc wa wo y0 y1 y2 y3
  unfold maxLen at hcm
  have HBY := Lib.hid hby
  have HB := Lib.hid (ba (brefl w) (.cells (erow x0 x1 x2 x3) 26))
  have RX := Lib.hid (heap_alloc_new w (.cells (erow x0 x1 x2 x3) 26))
  have HS := Lib.hid (hs.keep HB.out)
  clear hs hby
  by_cases h300 : 300 < l.length
  · have h3 : (300 : Int) < (l.length : Int) := by omega
    go_enter Try.func5, Try.ntmps5
    go_wp2_with fail
    refine (awake_any _).mono ?_
    rintro e w1 ⟨rfl, hb⟩
    go_wp2_with fail
    go_ret
    exact ⟨rfl, HB.out.trans (hb.mono HB.out.size)⟩
  have h3 : (l.length : Int) ≤ 300 := by omega
  go_enter Try.func5, Try.ntmps5
  go_wp2_with fail
  generalize (w.alloc (.cells (erow x0 x1 x2 x3) 26)) = W at *
  refine (own_any A l cap W HS.out (by omega)).mono ?_
  rintro e w1 ⟨A1, c1, rfl, ho1, hb1⟩
  have HO := Lib.hid ho1
  replace RX := Lib.hid ((hb1.block _ (row_lt RX.out)).trans RX.out)
  replace HS := Lib.hid (HS.out.keep hb1)
  replace HB := Lib.hid (HB.out.trans (hb1.mono HB.out.size))
  clear ho1 hb1
  have HRD := Lib.hid (fun W (h : Sl .u8 W A l) => rerd_any A l cap a o W h (by omega) HBY.out)
  go_wp2_with fail
  refine (erd_any A1 l c1 a o w1 HO.out.sl'.2 (by omega) HBY.out).mono ?_
  rintro e w2 ⟨rfl, hb2⟩
  replace RX := Lib.hid ((hb2.block _ (row_lt RX.out)).trans RX.out)
  replace HO := Lib.hid (HO.out.keep hb2)
  replace HS := Lib.hid (HS.out.keep hb2)
  replace HB := Lib.hid (HB.out.trans (hb2.mono HB.out.size))
  clear hb2
  generalize er0 l a o = u0 at *
  generalize er1 l a o = u1 at *
  generalize er2 l a o = u2 at *
  generalize er3 l a o = u3 at *
  generalize erB l a o = Eb at *
  go_wp2_with (first | ((with_reducible refine wpl_store_row rtE ?_ (.tmp 10) (.tmp 29) ?_ (w2.heap.size) ?_ (erow u0 u1 u2 u3) ?_ (erow_one _ _ _ _) 26 ?_ _ ?_ (heap_alloc_new w2 _) ?_); rfl; rfl; rfl; rfl; rfl; rfl; intro w3 hr hg hs; have hb : Below w2.heap.size w2 w3 := (ba (brefl w2) _).grown hg (by simp) (fun k hk => by cases hk; exact Nat.le_refl _); replace RX := Lib.hid ((hb.block _ (row_lt RX.out)).trans RX.out); replace HO := Lib.hid (HO.out.keep hb); replace HS := Lib.hid (HS.out.keep hb); replace HB := Lib.hid (HB.out.trans (hb.mono HB.out.size)); have R10 := Lib.hid hr; clear hr hg hs hb; (try simp only [Act.put])))
  obtain ⟨g10, hg10⟩ : ∃ g, g = w2.heap.size := ⟨_, rfl⟩
  rw [← hg10] at R10 ⊢
  clear hg10
  refine (HRD.out w3 HS.out).mono ?_
  rintro e w4 ⟨rfl, hb4⟩
  replace RX := Lib.hid ((hb4.block _ (row_lt RX.out)).trans RX.out)
  replace R10 := Lib.hid ((hb4.block _ (row_lt R10.out)).trans R10.out)
  replace HO := Lib.hid (HO.out.keep hb4)
  replace HS := Lib.hid (HS.out.keep hb4)
  replace HB := Lib.hid (HB.out.trans (hb4.mono HB.out.size))
  clear hb4
  go_wp2_with (first | ((with_reducible refine wpl_store_row rtE ?_ (.tmp 12) (.tmp 36) ?_ (w4.heap.size) ?_ (erow u0 u1 u2 u3) ?_ (erow_one _ _ _ _) 26 ?_ _ ?_ (heap_alloc_new w4 _) ?_); rfl; rfl; rfl; rfl; rfl; rfl; intro w5 hr hg hs; have hb : Below w4.heap.size w4 w5 := (ba (brefl w4) _).grown hg (by simp) (fun k hk => by cases hk; exact Nat.le_refl _); replace RX := Lib.hid ((hb.block _ (row_lt RX.out)).trans RX.out); replace R10 := Lib.hid ((hb.block _ (row_lt R10.out)).trans R10.out); replace HO := Lib.hid (HO.out.keep hb); replace HS := Lib.hid (HS.out.keep hb); replace HB := Lib.hid (HB.out.trans (hb.mono HB.out.size)); have R12 := Lib.hid hr; clear hr hg hs hb; (try simp only [Act.put])) | ((with_reducible refine wpl_load_row rtE ?_ (.tmp 7) ?_ (w.heap.size) ?_ 26 (erow x0 x1 x2 x3) ?_ RX.out ?_); rfl; rfl; rfl; rfl; simp only [Act.put, List.setIfInBounds_toArray, List.set_cons_succ, List.set_cons_zero]))
  obtain ⟨g12, hg12⟩ : ∃ g, g = w4.heap.size := ⟨_, rfl⟩
  rw [← hg12] at R12 ⊢
  clear hg12
  refine (ewr_any x0 x1 x2 x3 o w5).mono ?_
  rintro e w6 ⟨A6, c6, rfl, ho6, hb6⟩
  have HW1 := Lib.hid ho6
  replace RX := Lib.hid ((hb6.block _ (row_lt RX.out)).trans RX.out)
  replace R10 := Lib.hid ((hb6.block _ (row_lt R10.out)).trans R10.out)
  replace R12 := Lib.hid ((hb6.block _ (row_lt R12.out)).trans R12.out)
  replace HO := Lib.hid (HO.out.keep hb6)
  replace HS := Lib.hid (HS.out.keep hb6)
  replace HB := Lib.hid (HB.out.trans (hb6.mono HB.out.size))
  clear ho6 hb6
  have HRW := Lib.hid (fun W => rewr_any x0 x1 x2 x3 o W)
  have HWL := Lib.hid (show (ewL x0 x1 x2 x3 o).length ≤ 1000 by
    unfold ewL
    split
    · exact Nat.le_trans (preE_le _ _ 4 (Nat.le_refl _)) (by decide)
    · simp)
  generalize ewL x0 x1 x2 x3 o = WL at *
  generalize ewB x0 x1 x2 x3 o = WB at *
  go_wp2_with (first | ((with_reducible refine wpl_load_row rtE ?_ (.tmp 7) ?_ (w.heap.size) ?_ 26 (erow x0 x1 x2 x3) ?_ RX.out ?_); rfl; rfl; rfl; rfl; simp only [Act.put, List.setIfInBounds_toArray, List.set_cons_succ, List.set_cons_zero]))
  refine (HRW.out w6).mono ?_
  rintro e w7 ⟨A7, c7, rfl, ho7, hb7⟩
  have HW2 := Lib.hid ho7
  replace RX := Lib.hid ((hb7.block _ (row_lt RX.out)).trans RX.out)
  replace R10 := Lib.hid ((hb7.block _ (row_lt R10.out)).trans R10.out)
  replace R12 := Lib.hid ((hb7.block _ (row_lt R12.out)).trans R12.out)
  replace HO := Lib.hid (HO.out.keep hb7)
  replace HW1 := Lib.hid (HW1.out.keep hb7)
  replace HS := Lib.hid (HS.out.keep hb7)
  replace HB := Lib.hid (HB.out.trans (hb7.mono HB.out.size))
  clear ho7 hb7 HRW HRD
  go_wp2_with fail
  have eb : (Eb == Eb) = true := by simp
  have wb : (WB == WB) = true := by simp
  have ib : (inE x1 x2 == inE x1 x2) = true := by simp
  have ub : (ouE x1 x2 == ouE x1 x2) = true := by simp
  have lt10 := row_lt R10.out
  have lt12 := row_lt R12.out
  have ltX := row_lt RX.out
  have K10 := Lib.hid (show ∀ W, Below w7.heap.size w7 W → W.heap[g10]? = some (.cells (erow u0 u1 u2 u3) 26 (0, 0)) from fun W h => (h.block _ lt10).trans R10.out)
  have K12 := Lib.hid (show ∀ W, Below w7.heap.size w7 W → W.heap[g12]? = some (.cells (erow u0 u1 u2 u3) 26 (0, 0)) from fun W h => (h.block _ lt12).trans R12.out)
  have KX := Lib.hid (show ∀ W, Below w7.heap.size w7 W → W.heap[w.heap.size]? = some (.cells (erow x0 x1 x2 x3) 26 (0, 0)) from fun W h => (h.block _ ltX).trans RX.out)
  have BL := Lib.hid (ud' (brefl w7))
  have dl : decide (l = l) = true := by simp
  have dw : decide (WL = WL) = true := by simp
  have HX1 := Lib.hid (fun W => inl_any x1 x2 W)
  have HX2 := Lib.hid (fun W => rinl_any x1 x2 W)
  have HX3 := Lib.hid (fun W => out_any x1 x2 W)
  have HX4 := Lib.hid (fun W => rout_any x1 x2 W)
  generalize inE x1 x2 = IB at *
  generalize ouE x1 x2 = OB at *
  refine Tin.reg_begin w7.heap.size 53 (by rfl) (by kernel_rfl) ?_
  refine Tin.reg_quiets [0, 1, 2, 3, 4, 5, 6, 7, 8, 9, 10] _ 42 rfl (by simp only [Tin.pick, List.map_cons, List.map_nil, Array.getD_eq_getD_getElem?, List.getElem?_toArray, List.getElem?_cons_zero, List.getElem?_cons_succ, Option.getD_some]; rfl) (by kernel_rfl) (by kernel_rfl) ?_
  repeat (first | ((with_reducible refine wpq_load_row rtE ?_ (.tmp 10) ?_ (g10) ?_ 26 (erow u0 u1 u2 u3) ?_ (fun W h => by obtain ⟨p, rfl⟩ := h; exact K10.out _ (ud p.h)) ?_); rfl; rfl; rfl; rfl; simp only [Act.put, List.setIfInBounds_toArray, List.set_cons_succ, List.set_cons_zero]) | ((with_reducible refine wpq_load_row rtE ?_ (.tmp 12) ?_ (g12) ?_ 26 (erow u0 u1 u2 u3) ?_ (fun W h => by obtain ⟨p, rfl⟩ := h; exact K12.out _ (ud p.h)) ?_); rfl; rfl; rfl; rfl; simp only [Act.put, List.setIfInBounds_toArray, List.set_cons_succ, List.set_cons_zero]) | ((with_reducible refine wpq_eql entryE ?_ (.tmp 50) (.tmp 51) 26 rfl rfl rfl (entry_r _ _ _ _) ?_); rfl; simp only [Act.put, List.setIfInBounds_toArray, List.set_cons_succ, List.set_cons_zero]) | go_big_quiet_step (fail))
  refine wpQuiet_nil ?_
  refine Tin.reg_one 11 _ rfl (by kernel_rfl) ?_
  try simp only [List.getElem_toArray, List.getElem_cons_succ, List.getElem_cons_zero]
  go_wp2_with fail
  refine (same_any A6 A7 WL WL c6 c7 _ ((HW1.out.keep BL.out).sl'.2) ((HW2.out.keep BL.out).sl'.2) (by have := HWL.out; omega) (by have := HWL.out; omega)).mono ?_
  rintro e v7 ⟨rfl, hv⟩
  go_wp2_with fail
  refine ⟨w7.heap.size, hv.mono BL.out.size, Nat.le_refl _, ?_⟩
  replace BL := Lib.hid (BL.out.trans (hv.mono BL.out.size))
  clear hv
  have kx1 : ∀ p : Bel w7.heap.size v7, p.w'.cell? ⟨w.heap.size, 1, none⟩ = some (.int .i64 x1) := fun p => row_cell (KX.out _ (BL.out.trans p.h)) 1 rfl
  have kx2 : ∀ p : Bel w7.heap.size v7, p.w'.cell? ⟨w.heap.size, 2, none⟩ = some (.int .i64 x2) := fun p => row_cell (KX.out _ (BL.out.trans p.h)) 2 rfl
  refine Tin.reg_quiets [12, 13, 14, 15, 16, 17, 18, 19, 20, 21, 22, 24, 25, 26, 27] _ 26 rfl (by simp only [Tin.pick, List.map_cons, List.map_nil, Array.getD_eq_getD_getElem?, List.getElem?_toArray, List.getElem?_cons_zero, List.getElem?_cons_succ, Option.getD_some]; rfl) (by kernel_rfl) (by kernel_rfl) ?_
  repeat (first | go_big_quiet_step (fail))
  refine wpQuiet_nil ?_
  refine Tin.reg_one 23 _ rfl (by kernel_rfl) ?_
  try simp only [List.getElem_toArray, List.getElem_cons_succ, List.getElem_cons_zero]
  go_wp2_with fail
  refine (HX1.out _).mono ?_
  rintro e v8 ⟨rfl, hv⟩
  go_wp2_with fail
  refine ⟨w7.heap.size, hv.mono BL.out.size, Nat.le_refl _, ?_⟩
  replace BL := Lib.hid (BL.out.trans (hv.mono BL.out.size))
  clear hv
  have kx1 : ∀ p : Bel w7.heap.size v8, p.w'.cell? ⟨w.heap.size, 1, none⟩ = some (.int .i64 x1) := fun p => row_cell (KX.out _ (BL.out.trans p.h)) 1 rfl
  have kx2 : ∀ p : Bel w7.heap.size v8, p.w'.cell? ⟨w.heap.size, 2, none⟩ = some (.int .i64 x2) := fun p => row_cell (KX.out _ (BL.out.trans p.h)) 2 rfl
  refine Tin.reg_one 28 _ rfl (by kernel_rfl) ?_
  try simp only [List.getElem_toArray, List.getElem_cons_succ, List.getElem_cons_zero]
  go_wp2_with fail
  refine (HX2.out _).mono ?_
  rintro e v9 ⟨rfl, rfl⟩
  go_wp2_with fail
  refine ⟨w7.heap.size, Below.refl _ _, Nat.le_refl _, ?_⟩
  refine Tin.reg_quiets [29, 30, 31, 32, 33, 34, 35, 37, 38, 39, 40] _ 13 rfl (by simp only [Tin.pick, List.map_cons, List.map_nil, Array.getD_eq_getD_getElem?, List.getElem?_toArray, List.getElem?_cons_zero, List.getElem?_cons_succ, Option.getD_some]; rfl) (by kernel_rfl) (by kernel_rfl) ?_
  repeat (first | go_big_quiet_step (fail))
  refine wpQuiet_nil ?_
  refine Tin.reg_one 36 _ rfl (by kernel_rfl) ?_
  try simp only [List.getElem_toArray, List.getElem_cons_succ, List.getElem_cons_zero]
  go_wp2_with fail
  refine (HX3.out _).mono ?_
  rintro e v10 ⟨rfl, hv⟩
  go_wp2_with fail
  refine ⟨w7.heap.size, hv.mono BL.out.size, Nat.le_refl _, ?_⟩
  replace BL := Lib.hid (BL.out.trans (hv.mono BL.out.size))
  clear hv
  have kx1 : ∀ p : Bel w7.heap.size v10, p.w'.cell? ⟨w.heap.size, 1, none⟩ = some (.int .i64 x1) := fun p => row_cell (KX.out _ (BL.out.trans p.h)) 1 rfl
  have kx2 : ∀ p : Bel w7.heap.size v10, p.w'.cell? ⟨w.heap.size, 2, none⟩ = some (.int .i64 x2) := fun p => row_cell (KX.out _ (BL.out.trans p.h)) 2 rfl
  refine Tin.reg_one 41 _ rfl (by kernel_rfl) ?_
  try simp only [List.getElem_toArray, List.getElem_cons_succ, List.getElem_cons_zero]
  go_wp2_with fail
  refine (HX4.out _).mono ?_
  rintro e v11 ⟨rfl, rfl⟩
  go_wp2_with fail
  refine ⟨w7.heap.size, Below.refl _ _, Nat.le_refl _, ?_⟩
  refine Tin.reg_quiets [42, 43, 44, 45, 46] _ 6 rfl (by simp only [Tin.pick, List.map_cons, List.map_nil, Array.getD_eq_getD_getElem?, List.getElem?_toArray, List.getElem?_cons_zero, List.getElem?_cons_succ, Option.getD_some]; rfl) (by kernel_rfl) (by kernel_rfl) ?_
  repeat (first | go_big_quiet_step (fail))
  refine wpQuiet_nil ?_
  refine Tin.reg_one 47 _ rfl (by kernel_rfl) ?_
  try simp only [List.getElem_toArray, List.getElem_cons_succ, List.getElem_cons_zero]
  go_wp2_with fail
  refine (same_any A1 A l l c1 cap _ ((HO.out.keep BL.out).sl'.2) (HS.out.keep BL.out) (by omega) (by omega)).mono ?_
  rintro e v12 ⟨rfl, hv⟩
  go_wp2_with fail
  refine ⟨w7.heap.size, hv.mono BL.out.size, Nat.le_refl _, ?_⟩
  replace BL := Lib.hid (BL.out.trans (hv.mono BL.out.size))
  clear hv
  have kx1 : ∀ p : Bel w7.heap.size v12, p.w'.cell? ⟨w.heap.size, 1, none⟩ = some (.int .i64 x1) := fun p => row_cell (KX.out _ (BL.out.trans p.h)) 1 rfl
  have kx2 : ∀ p : Bel w7.heap.size v12, p.w'.cell? ⟨w.heap.size, 2, none⟩ = some (.int .i64 x2) := fun p => row_cell (KX.out _ (BL.out.trans p.h)) 2 rfl
  refine Tin.reg_quiets [48, 49] _ 3 rfl (by simp only [Tin.pick, List.map_cons, List.map_nil, Array.getD_eq_getD_getElem?, List.getElem?_toArray, List.getElem?_cons_zero, List.getElem?_cons_succ, Option.getD_some]; rfl) (by kernel_rfl) (by kernel_rfl) ?_
  repeat (first | go_big_quiet_step (fail))
  refine wpQuiet_nil ?_
  refine Tin.reg_one 50 _ rfl (by kernel_rfl) ?_
  try simp only [List.getElem_toArray, List.getElem_cons_succ, List.getElem_cons_zero]
  go_wp2_with fail
  refine (awake_any _).mono ?_
  rintro e v13 ⟨rfl, hv⟩
  go_wp2_with fail
  refine ⟨w7.heap.size, hv.mono BL.out.size, Nat.le_refl _, ?_⟩
  replace BL := Lib.hid (BL.out.trans (hv.mono BL.out.size))
  clear hv
  have kx1 : ∀ p : Bel w7.heap.size v13, p.w'.cell? ⟨w.heap.size, 1, none⟩ = some (.int .i64 x1) := fun p => row_cell (KX.out _ (BL.out.trans p.h)) 1 rfl
  have kx2 : ∀ p : Bel w7.heap.size v13, p.w'.cell? ⟨w.heap.size, 2, none⟩ = some (.int .i64 x2) := fun p => row_cell (KX.out _ (BL.out.trans p.h)) 2 rfl
  refine Tin.reg_quiets [51, 52] _ 0 rfl (by simp only [Tin.pick, List.map_cons, List.map_nil, Array.getD_eq_getD_getElem?, List.getElem?_toArray, List.getElem?_cons_zero, List.getElem?_cons_succ, Option.getD_some]; rfl) (by kernel_rfl) (by kernel_rfl) ?_
  repeat (first | go_big_quiet_step (fail))
  refine wpQuiet_nil ?_
  refine Tin.reg_done (by kernel_rfl) ?_
  go_wp2_with fail
  go_ret
  exact ⟨rfl, HB.out.trans (BL.out.mono HB.out.size)⟩
end Go.Proofs.Ythjmnahmejagmaa
