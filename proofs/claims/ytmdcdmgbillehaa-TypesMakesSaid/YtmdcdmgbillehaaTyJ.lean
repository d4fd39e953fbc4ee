/- The contract of a value in memory of its own. -/
import Derived.Test.YtmdcdmgbillehaaTyG
import Derived.Test.YtmdcdmgbillehaaTyI
namespace Go.Proofs.Ytmdcdmgbillehaa
open Go.RowKit
open Go.Tin
set_option linter.unusedVariables false
set_option linter.unusedSimpArgs false


set_option maxRecDepth 100000 in
set_option maxHeartbeats 4000000 in
theorem vown_any (t c : Int) (A : Option Addr) (l : List Int) (cap : Nat) (w : World) (hs : Sl .u8 w A l) (hl : l.length ≤ 100000000) :
    Calls Try.prog 17 #[.agg #[.int .i64 t, .int .i64 c, .slice A l.length cap]] w fun e w' => ∃ A' c', e = .returned (.agg (vrow t c A' l.length c')) ∧ Own .u8 5 w' w.heap.size (.slice A' l.length c') l ∧ Below w.heap.size w w' := by
  obtain ⟨W, hW⟩ : ∃ W, W = (w.alloc (.cells (vrow t c A l.length cap) 27)).alloc (.cells (vrow 0 0 none 0 0) 27) := ⟨_, rfl⟩
  have HB := Lib.hid (show Below w.heap.size w W by rw [hW]; exact ba (ba (brefl w) _) _)
  have HX := Lib.hid (show W.heap[w.heap.size]? = some (.cells (vrow t c A l.length cap) 27 (0, 0)) by rw [hW, Below.heap_alloc _ _ _ (by simp)]; exact heap_alloc_new w _)
  have HR := Lib.hid (show W.heap[w.heap.size + 1]? = some (.cells (vrow 0 0 none 0 0) 27 (0, 0)) by
    have := heap_alloc_new (w.alloc (.cells (vrow t c A l.length cap) 27)) (.cells (vrow 0 0 none 0 0) 27)
    rw [hW]
    simpa using this)
  have hsz : W.heap.size = w.heap.size + 2 := by rw [hW]; simp
  have HBD := Lib.hid (ud' HB.out)
  have HS := Lib.hid (hs.keep HBD.out)
  have kb0 : ∀ p : Bel (w.heap.size + 1) W.drew, p.w'.cell? ⟨w.heap.size, 0, none⟩ = some (.int .i64 t) := fun p => row_cell (((ud p.h).block _ (Nat.lt_succ_self _)).trans HX.out) 0 rfl
  have kb1 : ∀ p : Bel (w.heap.size + 1) W.drew, p.w'.cell? ⟨w.heap.size, 1, none⟩ = some (.int .i64 c) := fun p => row_cell (((ud p.h).block _ (Nat.lt_succ_self _)).trans HX.out) 1 rfl
  have kb2 : ∀ p : Bel (w.heap.size + 1) W.drew, p.w'.cell? ⟨w.heap.size, 2, none⟩ = some (.slice A l.length cap) := fun p => row_cell (((ud p.h).block _ (Nat.lt_succ_self _)).trans HX.out) 2 rfl
  clear hs
  go_enter Try.func17, Try.ntmps17
  go_wp2_with fail
  rw [← hW]
  clear hW
  refine Tin.reg_begin (w.heap.size + 1) 9 (by rfl) (by kernel_rfl) ?_
  refine Tin.reg_quiets [0, 1, 2, 3, 4, 5] _ 3 rfl (by simp only [Tin.pick, List.map_cons, List.map_nil, Array.getD_eq_getD_getElem?, List.getElem?_toArray, List.getElem?_cons_zero, List.getElem?_cons_succ, Option.getD_some]; rfl) (by kernel_rfl) (by kernel_rfl) ?_
  repeat (first | go_big_quiet_step (fail))
  refine wpQuiet_nil ?_
  refine Tin.reg_one 6 _ rfl (by kernel_rfl) ?_
  try simp only [List.getElem_toArray, List.getElem_cons_succ, List.getElem_cons_zero]
  go_wp2_with fail
  refine (own_any A l cap _ HS.out hl).mono ?_
  rintro e w3 ⟨A3, c3, rfl, ho3, hb3⟩
  have HO3 := Lib.hid (show Own .u8 5 w3 W.heap.size (.slice A3 l.length c3) l from ho3)
  have HB3 := Lib.hid (HBD.out.trans (hb3.mono HBD.out.size))
  have HR3 := Lib.hid ((hb3.block _ (row_lt HR.out)).trans HR.out)
  go_wp2_with fail
  refine ⟨w.heap.size + 1, hb3.mono (show w.heap.size + 1 ≤ W.heap.size by omega), Nat.le_refl _, ?_⟩
  refine Tin.reg_quiets [7] _ 1 rfl (by simp only [Tin.pick, List.map_cons, List.map_nil, Array.getD_eq_getD_getElem?, List.getElem?_toArray, List.getElem?_cons_zero, List.getElem?_cons_succ, Option.getD_some]; rfl) (by kernel_rfl) (by kernel_rfl) ?_
  repeat (first | go_big_quiet_step (fail))
  refine wpQuiet_nil ?_
  refine Tin.reg_one 8 _ rfl (by kernel_rfl) ?_
  try simp only [List.getElem_toArray, List.getElem_cons_succ, List.getElem_cons_zero]
  refine wpl_store_row rtV rfl (.tmp 2) (.tmp 10) rfl (w.heap.size + 1) rfl (vrow t c A3 l.length c3) rfl (vrow_one _ _ _ _ _) 27 rfl _ rfl HR3.out ?_
  intro w4 hr4 hg4 hs4
  try simp only [Act.put]
  refine ⟨w.heap.size + 1, (Below.refl (w.heap.size + 1) w3).grown hg4 (by have : W.heap.size ≤ w3.heap.size := hb3.size; omega) (fun q hq => by cases hq; exact Nat.le_refl _), Nat.le_refl _, ?_⟩
  refine Tin.reg_done (by kernel_rfl) ?_
  have HO4 := HO3.out.kept hg4 (by
    cases hq : (Value.slice A3 l.length c3).ownBlock with
    | none => exact .inl rfl
    | some q => exact .inr (fun e => by have h1 := (World.ownsRow.lt HO3.out q hq).1; have e' : q = w.heap.size + 1 := Option.some.inj e; omega))
  have HB4 := HB3.out.grown hg4 HB3.out.size (fun q hq => by have e' : w.heap.size + 1 = q := Option.some.inj hq; omega)
  go_wp2_with fail
  exact bodyPost_ret (res_row rtV rfl _ _ (w.heap.size + 1) 27 (vrow t c A3 l.length c3) rfl rfl hr4) rfl ⟨A3, c3, rfl, HO4.mono (by omega), HB4⟩
end Go.Proofs.Ytmdcdmgbillehaa
