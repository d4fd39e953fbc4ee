/- The contract of awake. -/
import Derived.Test.YtmfipjpmfigjaaaH
namespace Go.Proofs.Ytmfipjpmfigjaaa
open Go.RowKit
open Go.Tin
set_option linter.unusedVariables false
set_option linter.unusedSimpArgs false

theorem hundred_len : hundred.length = 64 := full_len _ _

set_option maxRecDepth 100000 in
set_option maxHeartbeats 4000000 in
theorem awake_any (w : World) : Calls Try.prog 9 #[] w fun e w' => e = .returned (.bool true) ∧ Below w.heap.size w w' := by
  have f1 := fun W => forward_any hundred (full_len _ _) W
  rw [aw1, aw4.1] at f1
  have f2 := fun W => inverse_any (bl 800) (bl_len _) W
  rw [aw2, aw4.2.1] at f2
  have f3 := fun W => forward_any (bl 127) (bl_len _) W
  rw [aw4.2.2] at f3
  obtain ⟨v0, v1, v9⟩ := aw3
  generalize hL3 : dctL fwdF (bl 127) = L3 at *
  have hl3 : L3.length = 64 := by rw [← hL3]; exact dctL_len _ _
  have F1 := Lib.hid f1
  have F2 := Lib.hid f2
  have F3 := Lib.hid f3
  have HL3 := Lib.hid hl3
  have V0 := Lib.hid v0
  have V1 := Lib.hid v1
  have V9 := Lib.hid v9
  clear f1 f2 f3 hl3 v0 v1 v9 hL3
  go_enter Try.func9, Try.ntmps9
  go_wp2_with fail
  refine Calls.mono (flat_any 100 w) ?_
  rintro e w1 ⟨rfl, hb1⟩
  go_wp2_with fail
  refine Calls.mono (F1.out w1) ?_
  rintro e w2 ⟨rfl, hb2⟩
  have hB2 := bt hb1 hb2
  go_wp2_with (with_reducible refine wpl_store_arr at26 rfl (.tmp 1) (.tmp 10) rfl w2.heap.size rfl rfl 26 (bl_len 800) _ rfl (heap_alloc_new _ _) ?_; intro w2x hrx hgx hsx; have hbx : Below w2.heap.size w2 w2x := (ba (brefl w2) _).grown hgx (by simp) (fun k hk => by cases hk; exact Nat.le_refl _); have lG1 : w2.heap.size < w2x.heap.size := (by rw [hsx]; simp); have zw2 := hbx.size; have BG1 := bt hB2 hbx; have G1 := Lib.hid hrx; clear hrx hgx hsx hbx; simp only [Act.put])
  refine Calls.mono (F2.out w2x) ?_
  rintro e w4 ⟨rfl, hb4⟩
  have hB4 := bt BG1 hb4
  have z4 := hb4.size
  go_wp2_with (with_reducible refine wpl_store_arr at26 rfl (.tmp 3) (.tmp 15) rfl w4.heap.size rfl rfl 26 (hundred_len) _ rfl (heap_alloc_new _ _) ?_; intro w4x hrx hgx hsx; have hbx : Below w4.heap.size w4 w4x := (ba (brefl w4) _).grown hgx (by simp) (fun k hk => by cases hk; exact Nat.le_refl _); have lG2 : w4.heap.size < w4x.heap.size := (by rw [hsx]; simp); have zw4 := hbx.size; have bw4 := hbx; have BG2 := bt hB4 hbx; have G2 := Lib.hid hrx; clear hrx hgx hsx hbx; simp only [Act.put])
  refine Calls.mono (F3.out w4x) ?_
  rintro e w6 ⟨rfl, hb6⟩
  have hB6 := bt BG2 hb6
  have z6 := hb6.size
  have G1b := (hb4.block _ lG1).trans G1.out
  have s46 := bt hb4 (bt (show Below w4.heap.size w4 w4x from bw4) hb6)
  go_wp2_with (with_reducible refine wpl_store_arr at26 rfl (.tmp 5) (.tmp 20) rfl w6.heap.size rfl rfl 26 (HL3.out) _ rfl (heap_alloc_new _ _) ?_; intro w6x hrx hgx hsx; have hbx : Below w6.heap.size w6 w6x := (ba (brefl w6) _).grown hgx (by simp) (fun k hk => by cases hk; exact Nat.le_refl _); have lG3 : w6.heap.size < w6x.heap.size := (by rw [hsx]; simp); have zw6 := hbx.size; have bw6 := hbx; have BG3 := bt hB6 hbx; have G3 := Lib.hid hrx; clear hrx hgx hsx hbx; simp only [Act.put])
  have hB9 := BG3
  have G1c := (bt s46 bw6).block _ lG1 |>.trans G1.out
  have G2c := ((bt hb6 bw6).block _ lG2).trans G2.out
  clear G1b s46 bw4 bw6 BG1 BG2 BG3 hb1 hb2 hB2 hB4 hb4 hB6 hb6
  have lc2 : w2.heap.size < w6x.heap.size := by omega
  have lc4 : w4.heap.size < w6x.heap.size := by omega
  have lc6 : w6.heap.size < w6x.heap.size := by omega
  generalize w6x = W9 at *
  refine Tin.reg_begin W9.heap.size 56 (by rfl) (by kernel_rfl) ?_
  refine Tin.reg_one 0 _ rfl (by kernel_rfl) ?_
  try simp only [List.getElem_toArray, List.getElem_cons_succ, List.getElem_cons_zero]
  go_wp2_with fail
  refine Calls.mono (fac_any 0 7 (by decide) (by decide) W9.drew) ?_
  rintro e v0 ⟨rfl, hc0⟩
  rw [show facN 0 7 = 23170 by decide]
  go_wp2_with fail
  have hw0 : Below W9.heap.size W9 v0 := ⟨hc0.os, hc0.tape, hc0.output, hc0.size, hc0.block⟩
  have hs0 := hw0.size
  refine ⟨W9.heap.size, hc0, Nat.le_refl _, ?_⟩
  refine Tin.reg_quiets [1, 2] _ 53 rfl (by simp only [Tin.pick, List.map_cons, List.map_nil, Array.getD_eq_getD_getElem?, List.getElem?_toArray, List.getElem?_cons_zero, List.getElem?_cons_succ, Option.getD_some]; rfl) (by kernel_rfl) (by kernel_rfl) ?_
  repeat (first | go_big_quiet_step (fail))
  refine wpQuiet_nil ?_
  refine Tin.reg_one 3 _ rfl (by kernel_rfl) ?_
  try simp only [List.getElem_toArray, List.getElem_cons_succ, List.getElem_cons_zero]
  go_wp2_with fail
  refine Calls.mono (fac_any 1 0 (by decide) (by decide) v0) ?_
  rintro e v3 ⟨rfl, hc3⟩
  rw [show facN 1 0 = 32138 by decide]
  go_wp2_with fail
  have hw3 := bt hw0 hc3
  have hs3 := hw3.size
  refine ⟨W9.heap.size, hc3.mono hs0, Nat.le_refl _, ?_⟩
  refine Tin.reg_quiets [4, 5, 6] _ 49 rfl (by simp only [Tin.pick, List.map_cons, List.map_nil, Array.getD_eq_getD_getElem?, List.getElem?_toArray, List.getElem?_cons_zero, List.getElem?_cons_succ, Option.getD_some]; rfl) (by kernel_rfl) (by kernel_rfl) ?_
  repeat (first | go_big_quiet_step (fail))
  refine wpQuiet_nil ?_
  refine Tin.reg_one 7 _ rfl (by kernel_rfl) ?_
  try simp only [List.getElem_toArray, List.getElem_cons_succ, List.getElem_cons_zero]
  go_wp2_with fail
  refine Calls.mono (fac_any 1 7 (by decide) (by decide) v3) ?_
  rintro e v7 ⟨rfl, hc7⟩
  rw [show facN 1 7 = -32138 by decide]
  go_wp2_with fail
  have hw7 := bt hw3 hc7
  have hs7 := hw7.size
  refine ⟨W9.heap.size, hc7.mono hs3, Nat.le_refl _, ?_⟩
  refine Tin.reg_quiets [8, 9, 10] _ 45 rfl (by simp only [Tin.pick, List.map_cons, List.map_nil, Array.getD_eq_getD_getElem?, List.getElem?_toArray, List.getElem?_cons_zero, List.getElem?_cons_succ, Option.getD_some]; rfl) (by kernel_rfl) (by kernel_rfl) ?_
  repeat (first | go_big_quiet_step (fail))
  refine wpQuiet_nil ?_
  refine Tin.reg_one 11 _ rfl (by kernel_rfl) ?_
  try simp only [List.getElem_toArray, List.getElem_cons_succ, List.getElem_cons_zero]
  go_wp2_with fail
  refine Calls.mono (fac_any 4 1 (by decide) (by decide) v7) ?_
  rintro e v11 ⟨rfl, hc11⟩
  rw [show facN 4 1 = -23170 by decide]
  go_wp2_with fail
  have hw11 := bt hw7 hc11
  have hs11 := hw11.size
  refine ⟨W9.heap.size, hc11.mono hs7, Nat.le_refl _, ?_⟩
  refine Tin.reg_quiets [12, 13, 14] _ 41 rfl (by simp only [Tin.pick, List.map_cons, List.map_nil, Array.getD_eq_getD_getElem?, List.getElem?_toArray, List.getElem?_cons_zero, List.getElem?_cons_succ, Option.getD_some]; rfl) (by kernel_rfl) (by kernel_rfl) ?_
  repeat (first | go_big_quiet_step (fail))
  refine wpQuiet_nil ?_
  refine Tin.reg_one 15 _ rfl (by kernel_rfl) ?_
  try simp only [List.getElem_toArray, List.getElem_cons_succ, List.getElem_cons_zero]
  go_wp2_with fail
  refine Calls.mono (fac_any 2 2 (by decide) (by decide) v11) ?_
  rintro e v15 ⟨rfl, hc15⟩
  rw [show facN 2 2 = -12540 by decide]
  go_wp2_with fail
  have hw15 := bt hw11 hc15
  have hs15 := hw15.size
  refine ⟨W9.heap.size, hc15.mono hs11, Nat.le_refl _, ?_⟩
  have D1 := Lib.hid ((hw15.block _ (show w2.heap.size < _ by omega)).trans G1c)
  have D2 := Lib.hid ((hw15.block _ (show w4.heap.size < _ by omega)).trans G2c)
  refine Tin.reg_quiets [16, 17, 18, 19, 20, 21, 22, 23, 24, 25, 26, 27, 28, 29, 30, 31, 32] _ 23 rfl (by simp only [Tin.pick, List.map_cons, List.map_nil, Array.getD_eq_getD_getElem?, List.getElem?_toArray, List.getElem?_cons_zero, List.getElem?_cons_succ, Option.getD_some]; rfl) (by kernel_rfl) (by kernel_rfl) ?_
  repeat (first | (first | ((with_reducible refine wpq_load_arr at26 (l := bl 800) ?_ (.tmp 1) rfl w2.heap.size rfl 26 (bl_len 800) (fun w' h => by obtain ⟨p, rfl⟩ := h; exact (p.h.block _ (show w2.heap.size < W9.heap.size by omega)).trans (D1.out)) ?_); rfl; simp only [Act.put, List.setIfInBounds_toArray, List.set_cons_succ, List.set_cons_zero]) | ((with_reducible refine wpq_load_arr at26 (l := hundred) ?_ (.tmp 3) rfl w4.heap.size rfl 26 (hundred_len) (fun w' h => by obtain ⟨p, rfl⟩ := h; exact (p.h.block _ (show w4.heap.size < W9.heap.size by omega)).trans (D2.out)) ?_); rfl; simp only [Act.put, List.setIfInBounds_toArray, List.set_cons_succ, List.set_cons_zero]) | ((with_reducible refine wpq_eq_arr at26 eg26 (l := bl 800) (l' := bl 800) ?_ (.tmp 45) (.tmp 46) _ rfl ?_ ?_ (bl_len 800) (bl_len 800) true ?_ ?_); rfl; rfl; rfl; exact decide_eq_true rfl; simp only [Act.put, List.setIfInBounds_toArray, List.set_cons_succ, List.set_cons_zero])) | go_big_quiet_step (fail))
  refine wpQuiet_nil ?_
  refine Tin.reg_one 33 _ rfl (by kernel_rfl) ?_
  try simp only [List.getElem_toArray, List.getElem_cons_succ, List.getElem_cons_zero]
  go_wp2_with fail
  refine Calls.mono (flat_any 100 v15) ?_
  rintro e v33 ⟨rfl, hc33⟩
  have hw33 := bt hw15 hc33
  have hs33 := hw33.size
  go_wp2_with fail
  refine ⟨W9.heap.size, hc33.mono hs15, Nat.le_refl _, ?_⟩
  have G3d := (hw33.block _ (show w6.heap.size < _ by omega)).trans G3.out
  have j0 : ∀ p : Bel W9.heap.size v33, p.w'.cell? ⟨w6.heap.size, 0, none⟩ = some (.int .i64 16) := fun p => by
    rw [← V0.out]
    exact (p.h.cell (p := ⟨w6.heap.size, 0, none⟩) (by show w6.heap.size < _; omega)).trans (blk_cell G3d 0 (by rw [HL3.out]; omega))
  have j1 : ∀ p : Bel W9.heap.size v33, p.w'.cell? ⟨w6.heap.size, 1, none⟩ = some (.int .i64 22) := fun p => by
    rw [← V1.out]
    exact (p.h.cell (p := ⟨w6.heap.size, 1, none⟩) (by show w6.heap.size < _; omega)).trans (blk_cell G3d 1 (by rw [HL3.out]; omega))
  have j9 : ∀ p : Bel W9.heap.size v33, p.w'.cell? ⟨w6.heap.size, 9, none⟩ = some (.int .i64 31) := fun p => by
    rw [← V9.out]
    exact (p.h.cell (p := ⟨w6.heap.size, 9, none⟩) (by show w6.heap.size < _; omega)).trans (blk_cell G3d 9 (by rw [HL3.out]; omega))
  clear G3d
  refine Tin.reg_quiets [34, 35, 36, 37, 38, 39, 40, 41, 42, 43, 44, 45, 46, 47, 48, 49, 50, 51, 52, 53, 54, 55] _ 0 rfl (by simp only [Tin.pick, List.map_cons, List.map_nil, Array.getD_eq_getD_getElem?, List.getElem?_toArray, List.getElem?_cons_zero, List.getElem?_cons_succ, Option.getD_some]; rfl) (by kernel_rfl) (by kernel_rfl) ?_
  repeat (first | ((with_reducible refine wpq_eq_arr at26 eg26 (l := hundred) (l' := hundred) ?_ (.tmp 54) (.tmp 55) _ rfl ?_ ?_ (hundred_len) (hundred_len) true ?_ ?_); rfl; rfl; rfl; exact decide_eq_true rfl; simp only [Act.put, List.setIfInBounds_toArray, List.set_cons_succ, List.set_cons_zero]) | go_big_quiet_step (fail))
  refine wpQuiet_nil ?_
  refine Tin.reg_done (by kernel_rfl) ?_
  go_wp2_with fail
  go_ret
  exact ⟨rfl, bt hB9 hw33⟩
end Go.Proofs.Ytmfipjpmfigjaaa
