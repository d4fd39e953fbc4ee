/- The contracts of a value's bytes. -/
import Derived.Test.YtmdcdmgbillehaaTyE
import Derived.Test.YtmdcdmgbillehaaOcK
import Derived.Test.YtmdcdmgbillehaaOcL
namespace Go.Proofs.Ytmdcdmgbillehaa
open Go.RowKit
open Go.Tin
set_option linter.unusedVariables false
set_option linter.unusedSimpArgs false


theorem rtV : RT Try.prog 27 3 := RT.of Try.underlying27 rfl (by kernel_rfl)
theorem wpq_field {P : Program} {t : TypeId} {ops : Array Oper} {C : World → Prop} {Q : Act → Prop} {a : Act} {o : Oper} {rest : List Oper} (hw : Region.wanted o (yielded ops a.tmps) = true) (x : Operand) (i : Nat) (ho : o.op = .field t x i)
    (vx : Value) (hx : a.eval x = vx) (v : Value) (hq : ∀ w, (Instr.field t vx i).run P w = .ok v w)
    (h : wpQuiet P ops C Q rest (a.put o.dst v)) : wpQuiet P ops C Q (o :: rest) a := by
  refine wpq_value _ hw (fun w hC => ?_) h
  unfold execOp
  simp only [ho, hx, Sem.run_bind, Sem.run_pure, Result.andThen_ok, hq]
set_option maxRecDepth 100000 in
set_option maxHeartbeats 4000000 in
theorem byt_any (t c : Int) (A : Option Addr) (l : List Int) (cap : Nat) (o : Int) (w : World) (hs : Sl .u8 w A l) (hl : l.length ≤ 1000000000) (hby : Byts l) :
    Calls Try.prog 21 #[.agg #[.int .i64 t, .int .i64 c, .slice A l.length cap], .int .i64 o] w fun e w' => ∃ A' c', e = .returned (.slice A' (byV t c l o).length c') ∧ Own .u8 5 w' w.heap.size (.slice A' (byV t c l o).length c') (byV t c l o) ∧ Below w.heap.size w w' := by
  have HBX := Lib.hid (ba (brefl w) (.cells #[.int .i64 t, .int .i64 c, .slice A l.length cap] 27))
  have HRX := Lib.hid (heap_alloc_new w (.cells #[.int .i64 t, .int .i64 c, .slice A l.length cap] 27))
  have HS := Lib.hid hs
  have HM := Lib.hid (fun W (h : Sl .u8 W A l) => vmay_any t c A l cap W h hl hby)
  clear hs
  go_enter Try.func21, Try.ntmps21
  go_wp2_with ((with_reducible refine wpl_load_row rtV ?_ (.tmp 2) ?_ (w.heap.size) ?_ 27 #[.int .i64 t, .int .i64 c, .slice A l.length cap] ?_ HRX.out ?_); rfl; rfl; rfl; rfl; simp only [Act.put, List.setIfInBounds_toArray, List.set_cons_succ, List.set_cons_zero])
  refine (HM.out _ (HS.out.keep HBX.out)).mono ?_
  rintro e w1 ⟨rfl, hb⟩
  have HR1 := Lib.hid ((hb.block _ (row_lt HRX.out)).trans HRX.out)
  have HB1 := Lib.hid (HBX.out.trans (hb.mono HBX.out.size))
  clear hb HM
  have HY := Lib.hid (show byV t c l o = (if mayV t c l then turnL l (prT t) o else []) from rfl)
  cases hm : mayV t c l with
  | false =>
    have HY' := Lib.hid (HY.out.trans (by rw [hm]; try rfl))
    clear hm HY
    go_wp2_with fail
    go_ret
    rw [HY'.out]
    exact ⟨none, 0, rfl, Own.nil_ _ _ _ _, HB1.out⟩
  | true =>
    have HY' := Lib.hid (HY.out.trans (by rw [hm]; try rfl))
    clear hm HY
    have hlt : w.heap.size < w1.heap.size := row_lt HR1.out
    have kb0 : ∀ p : Bel w1.heap.size w1.drew, p.w'.cell? ⟨w.heap.size, 0, none⟩ = some (.int .i64 t) := fun p => row_cell (((ud p.h).block _ hlt).trans HR1.out) 0 rfl
    have kb2 : ∀ p : Bel w1.heap.size w1.drew, p.w'.cell? ⟨w.heap.size, 2, none⟩ = some (.slice A l.length cap) := fun p => row_cell (((ud p.h).block _ hlt).trans HR1.out) 2 rfl
    go_wp2_with fail
    refine Tin.reg_begin w1.heap.size 9 (by rfl) (by kernel_rfl) ?_
    refine Tin.reg_quiets [0, 1, 2, 3, 6] _ 4 rfl (by simp only [Tin.pick, List.map_cons, List.map_nil, Array.getD_eq_getD_getElem?, List.getElem?_toArray, List.getElem?_cons_zero, List.getElem?_cons_succ, Option.getD_some]; rfl) (by kernel_rfl) (by kernel_rfl) ?_
    repeat (first | go_big_quiet_step (fail))
    refine wpQuiet_nil ?_
    refine Tin.reg_one 4 _ rfl (by kernel_rfl) ?_
    try simp only [List.getElem_toArray, List.getElem_cons_succ, List.getElem_cons_zero]
    go_wp2_with fail
    refine (of_any t _).mono ?_
    rintro e w2 ⟨rfl, hb2⟩
    go_wp2_with fail
    refine ⟨w1.heap.size, hb2, Nat.le_refl _, ?_⟩
    have HB2 := Lib.hid ((ud' HB1.out).trans (hb2.mono HB1.out.size))
    have hs2 : w1.heap.size ≤ w2.heap.size := hb2.size
    clear hb2
    refine Tin.reg_quiets [5] _ 2 rfl (by simp only [Tin.pick, List.map_cons, List.map_nil, Array.getD_eq_getD_getElem?, List.getElem?_toArray, List.getElem?_cons_zero, List.getElem?_cons_succ, Option.getD_some]; rfl) (by kernel_rfl) (by kernel_rfl) ?_
    repeat (first | ((with_reducible refine wpq_field ?_ (.tmp 12) 1 ?_ _ ?_ _ (kdF1 t) ?_); rfl; rfl; rfl; simp only [Act.put, List.setIfInBounds_toArray, List.set_cons_succ, List.set_cons_zero]) | go_big_quiet_step (fail))
    refine wpQuiet_nil ?_
    refine Tin.reg_one 7 _ rfl (by kernel_rfl) ?_
    try simp only [List.getElem_toArray, List.getElem_cons_succ, List.getElem_cons_zero]
    go_wp2_with fail
    refine (turn_any A l cap (prT t) o _ (HS.out.keep HB2.out) hl).mono ?_
    rintro e w3 ⟨A3, c3, rfl, ho3, hb3⟩
    have HO3 := Lib.hid (ho3.mono HB2.out.size)
    have HB3 := Lib.hid (HB2.out.trans (hb3.mono HB2.out.size))
    go_wp2_with fail
    refine ⟨w1.heap.size, hb3.mono hs2, Nat.le_refl _, ?_⟩
    refine Tin.reg_quiets [8] _ 0 rfl (by simp only [Tin.pick, List.map_cons, List.map_nil, Array.getD_eq_getD_getElem?, List.getElem?_toArray, List.getElem?_cons_zero, List.getElem?_cons_succ, Option.getD_some]; rfl) (by kernel_rfl) (by kernel_rfl) ?_
    repeat (first | go_big_quiet_step (fail))
    refine wpQuiet_nil ?_
    refine Tin.reg_done (by kernel_rfl) ?_
    go_wp2_with fail
    go_ret
    rw [HY'.out]
    exact ⟨A3, c3, rfl, HO3.out, HB3.out⟩
set_option maxRecDepth 100000 in
set_option maxHeartbeats 4000000 in
theorem rbyt_any (t c : Int) (A : Option Addr) (l : List Int) (cap : Nat) (o : Int) (w : World) (hs : Sl .u8 w A l) (hl : l.length ≤ 1000000000) (hby : Byts l) :
    Calls Try.prog 23 #[.agg #[.int .i64 t, .int .i64 c, .slice A l.length cap], .int .i64 o] w fun e w' => ∃ A' c', e = .returned (.slice A' (byV t c l o).length c') ∧ Own .u8 5 w' w.heap.size (.slice A' (byV t c l o).length c') (byV t c l o) ∧ Below w.heap.size w w' := by
  have HBX := Lib.hid (ba (brefl w) (.cells #[.int .i64 t, .int .i64 c, .slice A l.length cap] 27))
  have HRX := Lib.hid (heap_alloc_new w (.cells #[.int .i64 t, .int .i64 c, .slice A l.length cap] 27))
  have HS := Lib.hid hs
  have HM := Lib.hid (fun W (h : Sl .u8 W A l) => rmay_any t c A l cap W h hl hby)
  clear hs
  go_enter Try.func23, Try.ntmps23
  go_wp2_with ((with_reducible refine wpl_load_row rtV ?_ (.tmp 2) ?_ (w.heap.size) ?_ 27 #[.int .i64 t, .int .i64 c, .slice A l.length cap] ?_ HRX.out ?_); rfl; rfl; rfl; rfl; simp only [Act.put, List.setIfInBounds_toArray, List.set_cons_succ, List.set_cons_zero])
  refine (HM.out _ (HS.out.keep HBX.out)).mono ?_
  rintro e w1 ⟨rfl, hb⟩
  have HR1 := Lib.hid ((hb.block _ (row_lt HRX.out)).trans HRX.out)
  have HB1 := Lib.hid (HBX.out.trans (hb.mono HBX.out.size))
  clear hb HM
  have HY := Lib.hid (show byV t c l o = (if mayV t c l then turnL l (prT t) o else []) from rfl)
  cases hm : mayV t c l with
  | false =>
    have HY' := Lib.hid (HY.out.trans (by rw [hm]; try rfl))
    clear hm HY
    go_wp2_with fail
    go_ret
    rw [HY'.out]
    exact ⟨none, 0, rfl, Own.nil_ _ _ _ _, HB1.out⟩
  | true =>
    have HY' := Lib.hid (HY.out.trans (by rw [hm]; try rfl))
    clear hm HY
    have hlt : w.heap.size < w1.heap.size := row_lt HR1.out
    have kb0 : ∀ p : Bel w1.heap.size w1.drew, p.w'.cell? ⟨w.heap.size, 0, none⟩ = some (.int .i64 t) := fun p => row_cell (((ud p.h).block _ hlt).trans HR1.out) 0 rfl
    have kb2 : ∀ p : Bel w1.heap.size w1.drew, p.w'.cell? ⟨w.heap.size, 2, none⟩ = some (.slice A l.length cap) := fun p => row_cell (((ud p.h).block _ hlt).trans HR1.out) 2 rfl
    go_wp2_with fail
    refine Tin.reg_begin w1.heap.size 8 (by rfl) (by kernel_rfl) ?_
    refine Tin.reg_quiets [0, 1, 2, 3, 5] _ 3 rfl (by simp only [Tin.pick, List.map_cons, List.map_nil, Array.getD_eq_getD_getElem?, List.getElem?_toArray, List.getElem?_cons_zero, List.getElem?_cons_succ, Option.getD_some]; rfl) (by kernel_rfl) (by kernel_rfl) ?_
    repeat (first | go_big_quiet_step (fail))
    refine wpQuiet_nil ?_
    refine Tin.reg_one 4 _ rfl (by kernel_rfl) ?_
    try simp only [List.getElem_toArray, List.getElem_cons_succ, List.getElem_cons_zero]
    go_wp2_with fail
    refine (rpart_any t _).mono ?_
    rintro e w2 ⟨rfl, rfl⟩
    go_wp2_with fail
    refine ⟨w1.heap.size, brefl w1.drew, Nat.le_refl _, ?_⟩
    refine Tin.reg_one 6 _ rfl (by kernel_rfl) ?_
    try simp only [List.getElem_toArray, List.getElem_cons_succ, List.getElem_cons_zero]
    go_wp2_with fail
    refine (rturn_any A l cap (prT t) o _ (HS.out.keep (ud' HB1.out)) hl).mono ?_
    rintro e w3 ⟨A3, c3, rfl, ho3, hb3⟩
    have HO3 := Lib.hid (ho3.mono HB1.out.size)
    have HB3 := Lib.hid ((ud' HB1.out).trans (hb3.mono HB1.out.size))
    go_wp2_with fail
    refine ⟨w1.heap.size, hb3, Nat.le_refl _, ?_⟩
    refine Tin.reg_quiets [7] _ 0 rfl (by simp only [Tin.pick, List.map_cons, List.map_nil, Array.getD_eq_getD_getElem?, List.getElem?_toArray, List.getElem?_cons_zero, List.getElem?_cons_succ, Option.getD_some]; rfl) (by kernel_rfl) (by kernel_rfl) ?_
    repeat (first | go_big_quiet_step (fail))
    refine wpQuiet_nil ?_
    refine Tin.reg_done (by kernel_rfl) ?_
    go_wp2_with fail
    go_ret
    rw [HY'.out]
    exact ⟨A3, c3, rfl, HO3.out, HB3.out⟩
end Go.Proofs.Ytmdcdmgbillehaa
