/- Of's deferred closure. -/
import Derived.Test.YtfohajgljjffgaaMkD
import Derived.Defers
import Derived.Recover
namespace Go.Proofs.Ytfohajgljjffgaa
open Go.RowKit
open Go.Tin
set_option linter.unusedVariables false
set_option linter.unusedSimpArgs false


set_option maxRecDepth 100000 in
set_option maxHeartbeats 4000000 in
theorem catch_p (g : Nat) (v2 : Value) (n3 n4 n5 p e : Int) (older : List PanicEntry) (w : World)
    (h2 : w.heap[g]? = some (.cells #[v2] 27 (0, 0))) (h3 : w.heap[g + 1]? = some (.cells #[.int .i64 n3] 3 (0, 0))) (h4 : w.heap[g + 2]? = some (.cells #[.int .i64 n4] 3 (0, 0))) (h5 : w.heap[g + 3]? = some (.cells #[.int .i64 n5] 24 (0, 0))) :
    CallsD Try.prog 33 #[.pointer (some ⟨g, 0, none⟩), .pointer (some ⟨g + 1, 0, none⟩), .pointer (some ⟨g + 2, 0, none⟩), .pointer (some ⟨g + 3, 0, none⟩)] (.panicking ({ v := .iface 53 (.agg #[.int .i64 p, .int .i64 e]), recovered := false } :: older)) w fun en u' w' =>
      en = .returned (.tuple #[]) ∧ u' = .panicking ({ v := .iface 53 (.agg #[.int .i64 p, .int .i64 e]), recovered := true } :: older) ∧ w'.heap[g]? = some (.cells #[.slice none 0 0] 27 (0, 0)) ∧ w'.heap[g + 1]? = some (.cells #[.int .i64 0] 3 (0, 0)) ∧ w'.heap[g + 2]? = some (.cells #[.int .i64 p] 3 (0, 0)) ∧ w'.heap[g + 3]? = some (.cells #[.int .i64 e] 24 (0, 0)) ∧ Below g w w' := by
  have hta : ∀ W, (Instr.typeAssert (.iface 53 (.agg #[.int .i64 p, .int .i64 e])) 20 53 true).run Try.prog W = .ok (.tuple #[.agg #[.int .i64 p, .int .i64 e], .bool true]) W := fun W => by kernel_rfl
  have RP := Lib.hid (heap_alloc_new w (.cells #[.int .i64 p, .int .i64 e] 53))
  have hb0 := ba (brefl w) (.cells #[.int .i64 p, .int .i64 e] 53)
  have L5 : g + 3 < w.heap.size := row_lt h5
  have R0 := Lib.hid ((hb0.block _ (row_lt h2)).trans h2)
  have R1 := Lib.hid ((hb0.block _ (row_lt h3)).trans h3)
  have R2 := Lib.hid ((hb0.block _ (row_lt h4)).trans h4)
  have R3 := Lib.hid ((hb0.block _ (row_lt h5)).trans h5)
  have HB := Lib.hid (hb0.mono (show g ≤ w.heap.size by omega))
  have HZ := Lib.hid (show w.heap.size < (w.alloc (.cells #[.int .i64 p, .int .i64 e] 53)).heap.size by simp)
  clear h2 h3 h4 h5 hb0
  refine callsD_of_wpS Try.func33 rfl fun c₀ cs hu => ?_
  apply wpS_seq
  apply wpS_region
  simp [wpOpsS, go_sem, recoverD, hu, Try.ntmps33, Exit.thenS]
  simp only [show (Array.replicate 17 undef : Array Value) = #[undef, undef, undef, undef, undef, undef, undef, undef, undef, undef, undef, undef, undef, undef, undef, undef, undef] from rfl, List.setIfInBounds_toArray, List.set_cons_succ, List.set_cons_zero, List.append_toArray, List.cons_append, List.nil_append]
  refine wpS_of_wp ?_
  go_wp2_with fail
  generalize w.alloc (.cells #[.int .i64 p, .int .i64 e] 53) = u0 at *
  have k0 : ∀ q : Kel (fun i => i < g ∨ g + 4 ≤ i) u0.drew, q.w'.cell? ⟨w.heap.size, 0, none⟩ = some (.int .i64 p) := fun q => (q.h.cell HZ.out (.inr (by omega))).trans (row_cell RP.out 0 rfl)
  have k1 : ∀ q : Kel (fun i => i < g ∨ g + 4 ≤ i) u0.drew, q.w'.cell? ⟨w.heap.size, 1, none⟩ = some (.int .i64 e) := fun q => (q.h.cell HZ.out (.inr (by omega))).trans (row_cell RP.out 1 rfl)
  refine Tin.keg_begin (fun i => i < g ∨ g + 4 ≤ i) 8 (by rfl) (by kernel_rfl) ?_
  refine Tin.keg_quiets [0, 1, 2, 3] _ 4 rfl (by simp only [Tin.pick, List.map_cons, List.map_nil, Array.getD_eq_getD_getElem?, List.getElem?_toArray, List.getElem?_cons_zero, List.getElem?_cons_succ, Option.getD_some]; rfl) (by kernel_rfl) (by kernel_rfl) ?_
  repeat (first | go_big_quiet_step (fail))
  refine wpQuiet_nil ?_
  clear k0 k1
  replace HB := Lib.hid (ud' HB.out)
  replace R0 := Lib.hid (show u0.drew.heap[g]? = _ from R0.out)
  replace R1 := Lib.hid (show u0.drew.heap[g + 1]? = _ from R1.out)
  replace R2 := Lib.hid (show u0.drew.heap[g + 2]? = _ from R2.out)
  replace R3 := Lib.hid (show u0.drew.heap[g + 3]? = _ from R3.out)
  refine Tin.keg_one 4 _ rfl (by kernel_rfl) ?_
  try simp only [List.getElem_toArray, List.getElem_cons_succ, List.getElem_cons_zero]
  have kq := row_cell (v := v2) R0.out 0 rfl
  have yq := frozen_of_row _ (g) 0 _ _ R0.out
  go_wp2_with fail
  clear kq yq
  have hg : u0.drew.grownBy ((u0.setCell ⟨g, 0, none⟩ (.slice none 0 0)).drew) (some (g)) := grown_setCells (g) [.slice none 0 0] 0 _ _ (World.grownBy.refl _ _)
  replace R0 := Lib.hid (show ((u0.setCell ⟨g, 0, none⟩ (.slice none 0 0)).drew).heap[g]? = some (.cells #[.slice none 0 0] 27 (0, 0)) from row_set R0.out 0 _)
  replace R1 := Lib.hid ((hg.block _ (row_lt R1.out) (fun e => by have := Option.some.inj e; omega)).trans R1.out)
  replace R2 := Lib.hid ((hg.block _ (row_lt R2.out) (fun e => by have := Option.some.inj e; omega)).trans R2.out)
  replace R3 := Lib.hid ((hg.block _ (row_lt R3.out) (fun e => by have := Option.some.inj e; omega)).trans R3.out)
  replace HB := Lib.hid (show Below g w ((u0.setCell ⟨g, 0, none⟩ (.slice none 0 0)).drew) by have h := bset HB.out g 0 (.slice none 0 0) (Nat.le_refl _); exact ⟨h.os, h.tape, h.output, h.size, h.block⟩)
  refine ⟨fun i => i < g ∨ g + 4 ≤ i, Kept.of_grown hg (fun i h e => by have := Option.some.inj e; omega), fun _ _ h => h, ?_⟩
  clear hg
  generalize ((u0.setCell ⟨g, 0, none⟩ (.slice none 0 0)).drew) = u1 at *
  refine Tin.keg_one 5 _ rfl (by kernel_rfl) ?_
  try simp only [List.getElem_toArray, List.getElem_cons_succ, List.getElem_cons_zero]
  have kq := row_cell (v := .int .i64 n3) R1.out 0 rfl
  have yq := frozen_of_row _ (g + 1) 0 _ _ R1.out
  go_wp2_with fail
  clear kq yq
  have hg : u1.grownBy (u1.setCell ⟨g + 1, 0, none⟩ (.int .i64 0)) (some (g + 1)) := grown_setCells (g + 1) [.int .i64 0] 0 _ _ (World.grownBy.refl _ _)
  replace R0 := Lib.hid ((hg.block _ (row_lt R0.out) (fun e => by have := Option.some.inj e; omega)).trans R0.out)
  replace R1 := Lib.hid (show (u1.setCell ⟨g + 1, 0, none⟩ (.int .i64 0)).heap[g + 1]? = some (.cells #[.int .i64 0] 3 (0, 0)) from row_set R1.out 0 _)
  replace R2 := Lib.hid ((hg.block _ (row_lt R2.out) (fun e => by have := Option.some.inj e; omega)).trans R2.out)
  replace R3 := Lib.hid ((hg.block _ (row_lt R3.out) (fun e => by have := Option.some.inj e; omega)).trans R3.out)
  replace HB := Lib.hid (show Below g w (u1.setCell ⟨g + 1, 0, none⟩ (.int .i64 0)) from bset HB.out _ _ _ (by omega))
  refine ⟨fun i => i < g ∨ g + 4 ≤ i, Kept.of_grown hg (fun i h e => by have := Option.some.inj e; omega), fun _ _ h => h, ?_⟩
  clear hg
  generalize (u1.setCell ⟨g + 1, 0, none⟩ (.int .i64 0)) = u2 at *
  refine Tin.keg_one 6 _ rfl (by kernel_rfl) ?_
  try simp only [List.getElem_toArray, List.getElem_cons_succ, List.getElem_cons_zero]
  have kq := row_cell (v := .int .i64 n4) R2.out 0 rfl
  have yq := frozen_of_row _ (g + 2) 0 _ _ R2.out
  go_wp2_with fail
  clear kq yq
  have hg : u2.grownBy (u2.setCell ⟨g + 2, 0, none⟩ (.int .i64 p)) (some (g + 2)) := grown_setCells (g + 2) [.int .i64 p] 0 _ _ (World.grownBy.refl _ _)
  replace R0 := Lib.hid ((hg.block _ (row_lt R0.out) (fun e => by have := Option.some.inj e; omega)).trans R0.out)
  replace R1 := Lib.hid ((hg.block _ (row_lt R1.out) (fun e => by have := Option.some.inj e; omega)).trans R1.out)
  replace R2 := Lib.hid (show (u2.setCell ⟨g + 2, 0, none⟩ (.int .i64 p)).heap[g + 2]? = some (.cells #[.int .i64 p] 3 (0, 0)) from row_set R2.out 0 _)
  replace R3 := Lib.hid ((hg.block _ (row_lt R3.out) (fun e => by have := Option.some.inj e; omega)).trans R3.out)
  replace HB := Lib.hid (show Below g w (u2.setCell ⟨g + 2, 0, none⟩ (.int .i64 p)) from bset HB.out _ _ _ (by omega))
  refine ⟨fun i => i < g ∨ g + 4 ≤ i, Kept.of_grown hg (fun i h e => by have := Option.some.inj e; omega), fun _ _ h => h, ?_⟩
  clear hg
  generalize (u2.setCell ⟨g + 2, 0, none⟩ (.int .i64 p)) = u3 at *
  refine Tin.keg_one 7 _ rfl (by kernel_rfl) ?_
  try simp only [List.getElem_toArray, List.getElem_cons_succ, List.getElem_cons_zero]
  have kq := row_cell (v := .int .i64 n5) R3.out 0 rfl
  have yq := frozen_of_row _ (g + 3) 0 _ _ R3.out
  go_wp2_with fail
  clear kq yq
  have hg : u3.grownBy (u3.setCell ⟨g + 3, 0, none⟩ (.int .i64 e)) (some (g + 3)) := grown_setCells (g + 3) [.int .i64 e] 0 _ _ (World.grownBy.refl _ _)
  replace R0 := Lib.hid ((hg.block _ (row_lt R0.out) (fun e => by have := Option.some.inj e; omega)).trans R0.out)
  replace R1 := Lib.hid ((hg.block _ (row_lt R1.out) (fun e => by have := Option.some.inj e; omega)).trans R1.out)
  replace R2 := Lib.hid ((hg.block _ (row_lt R2.out) (fun e => by have := Option.some.inj e; omega)).trans R2.out)
  replace R3 := Lib.hid (show (u3.setCell ⟨g + 3, 0, none⟩ (.int .i64 e)).heap[g + 3]? = some (.cells #[.int .i64 e] 24 (0, 0)) from row_set R3.out 0 _)
  replace HB := Lib.hid (show Below g w (u3.setCell ⟨g + 3, 0, none⟩ (.int .i64 e)) from bset HB.out _ _ _ (by omega))
  refine ⟨fun i => i < g ∨ g + 4 ≤ i, Kept.of_grown hg (fun i h e => by have := Option.some.inj e; omega), fun _ _ h => h, ?_⟩
  clear hg
  generalize (u3.setCell ⟨g + 3, 0, none⟩ (.int .i64 e)) = u4 at *
  refine Tin.reg_done (by kernel_rfl) ?_
  go_wp2_with fail
  simp [bodyPostS, results, Try.results33, Sem.run_pure]
  exact ⟨R0.out, R1.out, R2.out, R3.out, HB.out⟩
set_option maxRecDepth 100000 in
theorem catch_i (g : Nat) (w : World) :
    CallsD Try.prog 33 #[.pointer (some ⟨g, 0, none⟩), .pointer (some ⟨g + 1, 0, none⟩), .pointer (some ⟨g + 2, 0, none⟩), .pointer (some ⟨g + 3, 0, none⟩)] .returning w fun en u' w' => en = .returned (.tuple #[]) ∧ u' = .returning ∧ Below w.heap.size w w' := by
  have hta : ∀ W, (Instr.typeAssert .nilIface 20 53 true).run Try.prog W = .ok (.tuple #[.agg #[.int .i64 0, .int .i64 0], .bool false]) W := fun W => by kernel_rfl
  have HB := Lib.hid (ba (brefl w) (.cells #[.int .i64 0, .int .i64 0] 53))
  refine callsD_of_wpS Try.func33 rfl fun c₀ cs hu => ?_
  apply wpS_seq
  apply wpS_region
  simp [wpOpsS, go_sem, recoverD, hu, Try.ntmps33, Exit.thenS]
  simp only [show (Array.replicate 17 undef : Array Value) = #[undef, undef, undef, undef, undef, undef, undef, undef, undef, undef, undef, undef, undef, undef, undef, undef, undef] from rfl, List.setIfInBounds_toArray, List.set_cons_succ, List.set_cons_zero, List.append_toArray, List.cons_append, List.nil_append]
  refine wpS_of_wp ?_
  go_wp2_with fail
  cases c₀
  simp_all [bodyPostS, results, Try.results33, Sem.run_pure]
  exact HB.out
end Go.Proofs.Ytfohajgljjffgaa
