/- The contracts of the entry in bytes. -/
import Derived.Test.YthjmnahmejagmaaEnI
import Derived.Test.YthjmnahmejagmaaOcJ
namespace Go.Proofs.Ythjmnahmejagmaa
open Go.RowKit
open Go.Tin
set_option linter.unusedVariables false
set_option linter.unusedSimpArgs false


/-- What is read of bytes at a place, and whether. -/
def erB (l : List Int) (at_ o : Int) : Bool := roomB at_ 12 (l.length : Int) && orB o
def er0 (l : List Int) (at_ o : Int) : Int := if erB l at_ o then getN l at_ 2 o else 0
def er1 (l : List Int) (at_ o : Int) : Int := if erB l at_ o then getN l (at_ + 2) 2 o else 0
def er2 (l : List Int) (at_ o : Int) : Int := if erB l at_ o then getN l (at_ + 4) 4 o else 0
def er3 (l : List Int) (at_ o : Int) : Int := if erB l at_ o then getN l (at_ + 8) 4 o else 0
theorem num_any (A : Option Addr) (l : List Int) (c : Nat) (o a s : Int) (w : World) (hs : Sl .u8 w A l) (hl : l.length ≤ 1000000000) (hby : Byts l) :
    Calls Try.prog 58 #[.agg #[.slice A l.length c, .int .i64 o], .int .i64 a, .int .i64 s] w fun e w' => e = .returned (.tuple #[.int .i64 (getN l a s o), .bool (getB l.length a s o)]) ∧ Below w.heap.size w w' := by
  have HB := Lib.hid (ba (brefl w) (.cells #[.slice A l.length c, .int .i64 o] 63))
  have HR := Lib.hid (heap_alloc_new w (.cells #[.slice A l.length c, .int .i64 o] 63))
  have HS := Lib.hid (hs.keep HB.out)
  have HG := Lib.hid (get_any A l c a s o _ HS.out hl hby)
  have k0 := row_cell (v := .slice A l.length c) HR.out 0 rfl
  have k1 := row_cell (v := .int .i64 o) HR.out 1 rfl
  clear hs hby
  go_enter Try.func58, Try.ntmps58
  go_wp2_with fail
  refine HG.out.mono ?_
  rintro e w1 ⟨rfl, hb1⟩
  go_wp2_with fail
  go_ret2
  exact ⟨rfl, HB.out.trans (hb1.mono HB.out.size)⟩
theorem rtS : RT Try.prog 63 2 := RT.of Try.underlying63 rfl (by kernel_rfl)
abbrev rrow (A : Option Addr) (n c : Nat) (o a : Int) (ok : Bool) : Array Value := #[.slice A n c, .int .i64 o, .int .i64 a, .bool ok]
set_option maxRecDepth 100000 in
set_option maxHeartbeats 4000000 in
theorem next_any (g : Nat) (A : Option Addr) (l : List Int) (c : Nat) (o a s : Int) (ok : Bool) (w : World) (hg : w.heap[g]? = some (.cells (rrow A l.length c o a ok) 65 (0, 0))) (hs : Sl .u8 w A l) (hl : l.length ≤ 1000000000) (hby : Byts l) (ha : 0 ≤ a) (ha' : a ≤ 1000000000) (hs0 : 0 ≤ s) (hs1 : s ≤ 8) :
    Calls Try.prog 44 #[.pointer (some ⟨g, 0, none⟩), .int .i64 s] w fun e w' => e = .returned (.int .i64 (getN l a s o)) ∧ w'.heap[g]? = some (.cells (rrow A l.length c o (a + s) (ok && getB l.length a s o)) 65 (0, 0)) ∧ Below g w w' := by
  have HR := Lib.hid hg
  have hlt : g < w.heap.size := row_lt hg
  have HS := Lib.hid hs
  have HN := Lib.hid (fun W (h : Sl .u8 W A l) => num_any A l c o a s W h hl hby)
  have HRK := Lib.hid (show ∀ W, Below w.heap.size w W → W.heap[g]? = some (.cells (rrow A l.length c o a ok) 65 (0, 0)) from fun W h => (h.block _ hlt).trans hg)
  have kb2 : ∀ p : Bel w.heap.size w.drew, p.w'.cell? ⟨g, 2, none⟩ = some (.int .i64 a) := fun p => row_cell (HRK.out _ (ud p.h)) 2 rfl
  have HRG := Lib.hid (show ∀ W, Below w.heap.size w W → W.rangeAt g 0 [.slice A l.length c, .int .i64 o] from fun W h => by
    have h' := HRK.out W h
    intro j v hj
    refine row_cell h' (0 + j) ?_
    rw [Nat.zero_add]
    match j with
    | 0 => exact hj
    | 1 => exact hj
    | j + 2 => simp at hj)
  clear hg hs hby
  go_enter Try.func44, Try.ntmps44
  go_wp2_with fail
  refine Tin.reg_begin w.heap.size 15 (by rfl) (by kernel_rfl) ?_
  refine Tin.reg_quiets [0, 4, 8] _ 12 rfl (by simp only [Tin.pick, List.map_cons, List.map_nil, Array.getD_eq_getD_getElem?, List.getElem?_toArray, List.getElem?_cons_zero, List.getElem?_cons_succ, Option.getD_some]; rfl) (by kernel_rfl) (by kernel_rfl) ?_
  repeat (first | go_big_quiet_step (fail))
  refine wpQuiet_nil ?_
  refine Tin.reg_two 1 5 _ _ rfl rfl (by kernel_rfl) ?_ ?_
  · try simp only [List.getElem_toArray, List.getElem_cons_succ, List.getElem_cons_zero]
    go_wp2_with fail
    refine ⟨w.heap.size, brefl w.drew, Nat.le_refl _, ?_⟩
    refine Tin.reg_quiets [2, 3] _ 9 rfl (by simp only [Tin.pick, List.map_cons, List.map_nil, Array.getD_eq_getD_getElem?, List.getElem?_toArray, List.getElem?_cons_zero, List.getElem?_cons_succ, Option.getD_some]; rfl) (by kernel_rfl) (by kernel_rfl) ?_
    repeat (first | ((with_reducible refine wpq_loadv rtS ?_ (.tmp 10) rfl g 0 ?_ _ ?_ (fun W h => by obtain ⟨p, rfl⟩ := h; exact HRG.out _ (ud p.h)) ?_); rfl; rfl; rfl; simp only [Act.put, List.setIfInBounds_toArray, List.set_cons_succ, List.set_cons_zero]) | go_big_quiet_step (fail))
    refine wpQuiet_nil ?_
    refine Tin.reg_one 5 _ rfl (by kernel_rfl) ?_
    try simp only [List.getElem_toArray, List.getElem_cons_succ, List.getElem_cons_zero]
    go_wp2_with fail
    refine ⟨w.heap.size, brefl w.drew, Nat.le_refl _, ?_⟩
    refine Tin.reg_quiets [6, 7] _ 6 rfl (by simp only [Tin.pick, List.map_cons, List.map_nil, Array.getD_eq_getD_getElem?, List.getElem?_toArray, List.getElem?_cons_zero, List.getElem?_cons_succ, Option.getD_some]; rfl) (by kernel_rfl) (by kernel_rfl) ?_
    repeat (first | go_big_quiet_step (fail))
    refine wpQuiet_nil ?_
    refine Tin.reg_one 9 _ rfl (by kernel_rfl) ?_
    try simp only [List.getElem_toArray, List.getElem_cons_succ, List.getElem_cons_zero]
    go_wp2_with fail
    refine (HN.out _ (HS.out.keep (ud' (brefl w)))).mono ?_
    rintro e w1 ⟨rfl, hb1⟩
    go_wp2_with fail
    refine ⟨w.heap.size, hb1, Nat.le_refl _, ?_⟩
    have HR1 := Lib.hid (HRK.out _ (ud hb1))
    have HB1 := Lib.hid ((ud hb1).mono (Nat.le_of_lt hlt))
    have hs1 : w.heap.size ≤ w1.heap.size := hb1.size
    clear hb1
    refine Tin.reg_quiets [10, 11, 12, 13, 14] _ 0 rfl (by simp only [Tin.pick, List.map_cons, List.map_nil, Array.getD_eq_getD_getElem?, List.getElem?_toArray, List.getElem?_cons_zero, List.getElem?_cons_succ, Option.getD_some]; rfl) (by kernel_rfl) (by kernel_rfl) ?_
    repeat (first | go_big_quiet_step (fail))
    refine wpQuiet_nil ?_
    refine Tin.reg_done (by kernel_rfl) ?_
    have q2 := row_cell (v := .int .i64 a) HR1.out 2 rfl
    have q3 := row_cell (v := .bool ok) HR1.out 3 rfl
    have y2 := frozen_of_row w1 _ 2 _ _ HR1.out
    have y3 := frozen_of_row w1 _ 3 _ _ HR1.out
    have hgs := grown_setCells g [.int .i64 (a + s)] 2 w1 w1 (World.grownBy.refl w1 _)
    have HR2 := Lib.hid (row_set HR1.out 2 (.int .i64 (a + s)))
    have HB2 := Lib.hid (HB1.out.grown hgs (by omega) (fun q hq => by have e' : g = q := Option.some.inj hq; omega))
    have HF := Lib.hid (fun (v : Value) => HB2.out.grown (grown_setCells g [v] 3 (w1.setCells g 2 [.int .i64 (a + s)]) (w1.setCells g 2 [.int .i64 (a + s)]) (World.grownBy.refl _ _)) (Nat.le_trans (by omega) hgs.size) (fun q hq => by have e' : g = q := Option.some.inj hq; omega))
    clear hgs
    obtain ⟨N, hN⟩ : ∃ x, x = getN l a s o := ⟨_, rfl⟩
    obtain ⟨Bq, hBq⟩ : ∃ x, x = getB l.length a s o := ⟨_, rfl⟩
    rw [← hN, ← hBq]
    have HNQ := Lib.hid hN
    have HBQ := Lib.hid hBq
    clear hN hBq
    cases ok
    all_goals
      go_wp2_with fail
      go_ret
      rw [← HNQ.out, ← HBQ.out]
      exact ⟨rfl, row_set HR2.out 3 _, HF.out _⟩
  · try simp only [List.getElem_toArray, List.getElem_cons_succ, List.getElem_cons_zero]
    go_wp2_with fail
    refine ⟨w.heap.size, brefl w.drew, Nat.le_refl _, ?_⟩
    refine Tin.reg_quiets [6, 7] _ 9 rfl (by simp only [Tin.pick, List.map_cons, List.map_nil, Array.getD_eq_getD_getElem?, List.getElem?_toArray, List.getElem?_cons_zero, List.getElem?_cons_succ, Option.getD_some]; rfl) (by kernel_rfl) (by kernel_rfl) ?_
    repeat (first | go_big_quiet_step (fail))
    refine wpQuiet_nil ?_
    refine Tin.reg_one 1 _ rfl (by kernel_rfl) ?_
    try simp only [List.getElem_toArray, List.getElem_cons_succ, List.getElem_cons_zero]
    go_wp2_with fail
    refine ⟨w.heap.size, brefl w.drew, Nat.le_refl _, ?_⟩
    refine Tin.reg_quiets [2, 3] _ 6 rfl (by simp only [Tin.pick, List.map_cons, List.map_nil, Array.getD_eq_getD_getElem?, List.getElem?_toArray, List.getElem?_cons_zero, List.getElem?_cons_succ, Option.getD_some]; rfl) (by kernel_rfl) (by kernel_rfl) ?_
    repeat (first | ((with_reducible refine wpq_loadv rtS ?_ (.tmp 10) rfl g 0 ?_ _ ?_ (fun W h => by obtain ⟨p, rfl⟩ := h; exact HRG.out _ (ud p.h)) ?_); rfl; rfl; rfl; simp only [Act.put, List.setIfInBounds_toArray, List.set_cons_succ, List.set_cons_zero]) | go_big_quiet_step (fail))
    refine wpQuiet_nil ?_
    refine Tin.reg_one 9 _ rfl (by kernel_rfl) ?_
    try simp only [List.getElem_toArray, List.getElem_cons_succ, List.getElem_cons_zero]
    go_wp2_with fail
    refine (HN.out _ (HS.out.keep (ud' (brefl w)))).mono ?_
    rintro e w1 ⟨rfl, hb1⟩
    go_wp2_with fail
    refine ⟨w.heap.size, hb1, Nat.le_refl _, ?_⟩
    have HR1 := Lib.hid (HRK.out _ (ud hb1))
    have HB1 := Lib.hid ((ud hb1).mono (Nat.le_of_lt hlt))
    have hs1 : w.heap.size ≤ w1.heap.size := hb1.size
    clear hb1
    refine Tin.reg_quiets [10, 11, 12, 13, 14] _ 0 rfl (by simp only [Tin.pick, List.map_cons, List.map_nil, Array.getD_eq_getD_getElem?, List.getElem?_toArray, List.getElem?_cons_zero, List.getElem?_cons_succ, Option.getD_some]; rfl) (by kernel_rfl) (by kernel_rfl) ?_
    repeat (first | go_big_quiet_step (fail))
    refine wpQuiet_nil ?_
    refine Tin.reg_done (by kernel_rfl) ?_
    have q2 := row_cell (v := .int .i64 a) HR1.out 2 rfl
    have q3 := row_cell (v := .bool ok) HR1.out 3 rfl
    have y2 := frozen_of_row w1 _ 2 _ _ HR1.out
    have y3 := frozen_of_row w1 _ 3 _ _ HR1.out
    have hgs := grown_setCells g [.int .i64 (a + s)] 2 w1 w1 (World.grownBy.refl w1 _)
    have HR2 := Lib.hid (row_set HR1.out 2 (.int .i64 (a + s)))
    have HB2 := Lib.hid (HB1.out.grown hgs (by omega) (fun q hq => by have e' : g = q := Option.some.inj hq; omega))
    have HF := Lib.hid (fun (v : Value) => HB2.out.grown (grown_setCells g [v] 3 (w1.setCells g 2 [.int .i64 (a + s)]) (w1.setCells g 2 [.int .i64 (a + s)]) (World.grownBy.refl _ _)) (Nat.le_trans (by omega) hgs.size) (fun q hq => by have e' : g = q := Option.some.inj hq; omega))
    clear hgs
    obtain ⟨N, hN⟩ : ∃ x, x = getN l a s o := ⟨_, rfl⟩
    obtain ⟨Bq, hBq⟩ : ∃ x, x = getB l.length a s o := ⟨_, rfl⟩
    rw [← hN, ← hBq]
    have HNQ := Lib.hid hN
    have HBQ := Lib.hid hBq
    clear hN hBq
    cases ok
    all_goals
      go_wp2_with fail
      go_ret
      rw [← HNQ.out, ← HBQ.out]
      exact ⟨rfl, row_set HR2.out 3 _, HF.out _⟩
end Go.Proofs.Ythjmnahmejagmaa
