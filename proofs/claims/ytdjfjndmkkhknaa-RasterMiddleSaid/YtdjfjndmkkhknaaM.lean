/- The contract of own: a picture in memory of its own. -/
import Derived.Test.YtdjfjndmkkhknaaJ
namespace Go.Proofs.Ytdjfjndmkkhknaa
open Go.RowKit
open Go.Tin
set_option linter.unusedVariables false
set_option linter.unusedSimpArgs false

set_option maxRecDepth 100000 in
set_option maxHeartbeats 1000000 in
theorem own_any (W H : Int) (A : Option Addr) (l : List Int) (c : Nat) (w : World) (hs : Sl .u8 w A l) (hl : l.length ≤ 100000000) :
    Calls Try.prog 15 #[.agg #[.int .i64 W, .int .i64 H, .slice A l.length c]] w fun e w' => ∃ v, e = .returned (.agg #[.int .i64 W, .int .i64 H, v]) ∧ Own .u8 5 w' w.heap.size v l ∧ Below w.heap.size w w' := by
  have HS := Lib.hid hs
  clear hs
  go_enter Try.func15, Try.ntmps15
  go_wp2_with fail
  generalize hW0 : (w.alloc _).alloc _ = W0 at *
  have hb0 : Below w.heap.size w W0.drew := by rw [← hW0]; exact (ba (ba (brefl w) _) _).drew
  have hz0 : W0.drew.heap.size = w.heap.size + 2 := by rw [← hW0]; show ((w.alloc _).alloc _).heap.size = _; simp
  have p0 : W0.drew.heap[w.heap.size]? = some (.cells #[.int .i64 W, .int .i64 H, .slice A l.length c] 24 (0, 0)) := by rw [← hW0]; exact heap_alloc2_old w _ _
  have r0 : W0.drew.heap[w.heap.size + 1]? = some (.cells #[.int .i64 0, .int .i64 0, .slice none 0 0] 24 (0, 0)) := by rw [← hW0]; exact heap_alloc2_new w _ _
  clear hW0
  have lift : ∀ (o : Nat) (v : Value), W0.drew.cell? ⟨w.heap.size, o, none⟩ = some v → ∀ p : Bel (w.heap.size + 1) W0.drew, p.w'.cell? ⟨w.heap.size, o, none⟩ = some v := fun o v hc p => (p.h.cell (p := ⟨w.heap.size, o, none⟩) (by show w.heap.size < _; omega)).trans hc
  have k0 := lift _ _ (row_cell p0 0 rfl)
  have k1 := lift _ _ (row_cell p0 1 rfl)
  have k2 := lift _ _ (row_cell p0 2 rfl)
  have R0 := Lib.hid r0
  clear lift p0 r0
  refine Tin.reg_begin (w.heap.size + 1) 10 (by rfl) (by kernel_rfl) ?_
  refine Tin.reg_quiets [0, 1, 2, 3, 5, 6] _ 4 rfl (by simp only [Tin.pick, List.map_cons, List.map_nil, Array.getD_eq_getD_getElem?, List.getElem?_toArray, List.getElem?_cons_zero, List.getElem?_cons_succ, Option.getD_some]; rfl) (by kernel_rfl) (by kernel_rfl) ?_
  repeat (first | go_big_quiet_step (fail))
  refine wpQuiet_nil ?_
  clear k0 k1 k2
  refine Tin.reg_one 4 _ rfl (by kernel_rfl) ?_
  try simp only [List.getElem_toArray, List.getElem_cons_succ, List.getElem_cons_zero]
  go_wp2_with fail
  have hown0 : Own .u8 5 (W0.alloc (.cells #[] 5)).drew (w.heap.size + 2) (.slice (some ⟨w.heap.size + 2, 0, none⟩) 0 0) [] := by
    have h := Own.new0 (k := .u8) (e := 5) W0.drew
    rw [hz0] at h
    exact h
  have hb1 : Below W0.drew.heap.size W0.drew (W0.alloc (.cells #[] 5)).drew := ba (brefl W0.drew) (.cells #[] 5)
  have hb2 := bt hb0 hb1
  have R1 := Lib.hid ((hb1.block _ (show w.heap.size + 1 < _ by omega)).trans R0.out)
  have hS1 := HS.out.keep hb2
  have hz1 : (W0.alloc (.cells #[] 5)).drew.heap.size = w.heap.size + 3 := by show (W0.drew.alloc (.cells #[] 5)).heap.size = _; simp [hz0]
  refine ⟨w.heap.size + 1, hb1.mono (show w.heap.size + 1 ≤ W0.drew.heap.size by omega), Nat.le_refl _, ?_⟩
  refine Tin.reg_one 7 _ rfl (by kernel_rfl) ?_
  try simp only [List.getElem_toArray, List.getElem_cons_succ, List.getElem_cons_zero]
  refine Tin.wpl_app bt5 _ rfl (.tmp 7) (.tmp 9) rfl (w.heap.size + 2) _ [] rfl hown0 A l.length c l rfl hS1 rfl (by simp; omega) (by simp; omega) (by omega) ?_
  intro v6 w6 hown6 hg6 how6
  obtain ⟨A6, n6, c6, rfl⟩ := own_form hown6
  simp only [Act.put, List.setIfInBounds_toArray, List.set_cons_succ, List.set_cons_zero]
  go_wp2_with fail
  have hr0 : ∀ k, (Value.slice (some ⟨w.heap.size + 2, 0, none⟩) 0 0).ownBlock = some k → w.heap.size + 2 ≤ k := fun k hk => (World.ownsRow.lt hown0 k hk).1
  have hb3 : Below (w.heap.size + 1) (W0.alloc (.cells #[] 5)).drew w6 := (Below.refl (w.heap.size + 1) _).grown hg6 (by omega) (fun k hk => by have := hr0 k hk; omega)
  have hb4 : Below w.heap.size w w6 := hb2.trans (hb3.mono (by omega))
  have R6 := Lib.hid ((hg6.block (w.heap.size + 1) (by omega) (fun h => by have := hr0 _ h.symm; omega)).trans R1.out)
  have hz6 := hg6.size
  refine ⟨w.heap.size + 1, hb3, Nat.le_refl _, ?_⟩
  refine Tin.reg_quiets [8] _ 1 rfl (by simp only [Tin.pick, List.map_cons, List.map_nil, Array.getD_eq_getD_getElem?, List.getElem?_toArray, List.getElem?_cons_zero, List.getElem?_cons_succ, Option.getD_some]; rfl) (by kernel_rfl) (by kernel_rfl) ?_
  repeat (first | go_big_quiet_step (fail))
  refine wpQuiet_nil ?_
  refine Tin.reg_one 9 _ rfl (by kernel_rfl) ?_
  try simp only [List.getElem_toArray, List.getElem_cons_succ, List.getElem_cons_zero]
  go_wp2_with ((with_reducible refine wpl_store_row rt24 rfl (.tmp 2) (.tmp 11) rfl (w.heap.size + 1) rfl #[.int .i64 W, .int .i64 H, .slice A6 n6 c6] rfl (pic_one _ _ _ _ _) 24 ?_ #[.int .i64 0, .int .i64 0, .slice none 0 0] ?_ R6.out ?_); rfl; rfl; intro w7 hr7 hg7 hs7; simp only [Act.put])
  refine ⟨w.heap.size + 1, (Below.refl (w.heap.size + 1) w6).grown hg7 (by omega) (fun k hk => by cases hk; exact Nat.le_refl _), Nat.le_refl _, ?_⟩
  refine Tin.reg_done (by kernel_rfl) ?_
  go_wp2_with fail
  have hk := hown6.kept hg7 (.inr (fun h => by have := (World.ownsRow.lt hown6 _ h).1; omega))
  exact bodyPost_ret (res_row rt24 rfl _ _ (w.heap.size + 1) 24 _ rfl rfl hr7) rfl ⟨_, rfl, by rw [List.nil_append] at hk; exact hk.mono (by omega), hb4.grown hg7 hb4.size (fun k hk => by cases hk; omega)⟩
end Go.Proofs.Ytdjfjndmkkhknaa
