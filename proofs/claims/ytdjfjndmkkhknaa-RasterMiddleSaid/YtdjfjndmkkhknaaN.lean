/- The contract of the reference's Pad. -/
import Derived.Test.YtdjfjndmkkhknaaJ
import Derived.Test.YtdjfjndmkkhknaaArq
namespace Go.Proofs.Ytdjfjndmkkhknaa
open Go.RowKit
open Go.Tin
set_option linter.unusedVariables false
set_option linter.unusedSimpArgs false

theorem take_next (l : List Int) (t : Nat) (ht : t < l.length) : l.take (t + 1) = l.take t ++ [nth l t] := by
  rw [List.take_add_one]
  simp [nth, List.getD_eq_getElem?_getD, ht]
/-- Three blocks made one behind the other. -/
theorem three (w : World) (o0 o1 o2 : Obj) : (((w.alloc o0).alloc o1).alloc o2).heap[w.heap.size]? = some o0 ∧ (((w.alloc o0).alloc o1).alloc o2).heap[w.heap.size + 1]? = some o1 ∧
    (((w.alloc o0).alloc o1).alloc o2).heap[w.heap.size + 1 + 1]? = some o2 := by
  refine ⟨?_, ?_, ?_⟩
  · rw [Below.heap_alloc _ _ _ (by simp <;> omega), Below.heap_alloc _ _ _ (by simp)]
    exact heap_alloc_new w o0
  · rw [Below.heap_alloc _ _ _ (by simp)]
    exact heap_alloc2_new w o0 o1
  · have h := heap_alloc_new ((w.alloc o0).alloc o1) o2
    simp only [World.size_alloc] at h
    exact h

/-- A whole row that is read in a region that draws its order. -/
theorem wpq_load_row {P : Program} {t : TypeId} {n : Nat} (rt : RT P t n) {ops : Array Oper} {C : World → Prop} {Q : Act → Prop} {a : Act} {o : Oper} {rest : List Oper} (hw : Region.wanted o (yielded ops a.tmps) = true) (x : Operand) (ho : o.op = .load t x)
    (g : Nat) (hx : a.eval x = .pointer (some ⟨g, 0, none⟩)) (ty : TypeId) (cs : Array Value) (hn : cs.size = n) (hg : ∀ w, C w → w.heap[g]? = some (.cells cs ty (0, 0)))
    (h : wpQuiet P ops C Q rest (a.put o.dst (.agg cs))) : wpQuiet P ops C Q (o :: rest) a := by
  obtain ⟨d, hu, hd⟩ := rt.ut
  refine wpq_value _ hw (fun w hC => ?_) h
  cases d <;> first | (cases hd; done) | (unfold execOp; simp only [ho, hx, Instr.loadAt, Instr.sureAddr, Sem.run_bind, Sem.run_pure, Result.andThen_ok, run_loadVar_row w g ty t cs (0, 0) _ (hg w hC) hu rfl (by rw [rt.it, hn])])

def padT (l : List Int) (W H : Int) (x y : Nat) : List Int := col l (pos W (min (x : Int) (W - 1)) (min (y : Int) (H - 1)))
theorem padT_nth (l : List Int) (W H : Int) (x y t : Nat) (ht : t < 3) : nth (padT l W H x y) t = nth l (pos W (min (x : Int) (W - 1)) (min (y : Int) (H - 1)) + t) := by
  rcases (by omega : t = 0 ∨ t = 1 ∨ t = 2) with rfl | rfl | rfl <;> rfl
theorem padT_len (l : List Int) (W H : Int) (x y : Nat) : (padT l W H x y).length = 3 := rfl

set_option maxRecDepth 100000 in
set_option maxHeartbeats 4000000 in
theorem rpad_any (W H : Int) (a b : Nat) (A : Option Addr) (l : List Int) (c : Nat) (w : World) (hsl : Sl .u8 w A l) (hby : Byts l) (hm : mayB W H l.length = true) (ha : a ≤ 4096) (hb : b ≤ 4096) :
    Calls Try.prog 21 #[.agg #[.int .i64 W, .int .i64 H, .slice A l.length c], .int .i64 (a : Int), .int .i64 (b : Int)] w fun e w' => ∃ v, e = .returned (.agg #[.int .i64 (a : Int), .int .i64 (b : Int), v]) ∧ Own .u8 5 w' w.heap.size v (rows (padT l W H) a b) ∧ Below w.heap.size w w' := by
  obtain ⟨hW, hH, hn⟩ := mayB_t hm
  have hcall : ∀ (Wd : World) (x y t : Nat) (hbl : Below w.heap.size w Wd) (ht : t < 3), Calls Try.prog 11 #[.agg #[.int .i64 W, .int .i64 H, .slice A l.length c], .int .i64 (min (x : Int) (W - 1)), .int .i64 (min (y : Int) (H - 1)), .int .i64 (t : Int)] Wd fun e w' => e = .returned (.int .i64 (nth (padT l W H x y) t)) ∧ Below Wd.heap.size Wd w' := fun Wd x y t hbl ht => by
    rw [padT_nth _ _ _ _ _ _ ht]
    exact byte_any W H (min (x : Int) (W - 1)) (min (y : Int) (H - 1)) t A l c Wd (hsl.keep hbl) hW hH hn ⟨by omega, by omega⟩ ⟨by omega, by omega⟩ ht hby
  have hbt : ∀ (x y t : Nat), t < 3 → 0 ≤ nth (padT l W H x y) t ∧ nth (padT l W H x y) t < 256 := fun x y t ht => by
    rw [padT_nth _ _ _ _ _ _ ht]
    have := hby (pos W (min (x : Int) (W - 1)) (min (y : Int) (H - 1)) + t); omega
  have HC := Lib.hid hcall
  have HY := Lib.hid hbt
  obtain ⟨W0, W1⟩ := hW
  obtain ⟨H0, H1⟩ := hH
  clear hcall hsl hby hm hn hbt
  go_enter Try.func21, Try.ntmps21
  go_wp2_with fail
  obtain ⟨f0, f1, f2⟩ := three w (.cells #[.int .i64 W, .int .i64 H, .slice A l.length c] 24) (.cells #[.int .i64 0, .int .i64 0, .slice none 0 0] 24) (.cells #[.int .i64 (a : Int), .int .i64 (b : Int), .slice none 0 0] 24)
  have hb0 := ba (ba (ba (brefl w) (.cells #[.int .i64 W, .int .i64 H, .slice A l.length c] 24)) (.cells #[.int .i64 0, .int .i64 0, .slice none 0 0] 24)) (.cells #[.int .i64 (a : Int), .int .i64 (b : Int), .slice none 0 0] 24)
  have hz0 : (((w.alloc (.cells #[.int .i64 W, .int .i64 H, .slice A l.length c] 24)).alloc (.cells #[.int .i64 0, .int .i64 0, .slice none 0 0] 24)).alloc (.cells #[.int .i64 (a : Int), .int .i64 (b : Int), .slice none 0 0] 24)).heap.size = w.heap.size + 3 := by simp
  generalize ((w.alloc _).alloc _).alloc _ = W0' at *
  have hown0 : Own .u8 5 W0' (w.heap.size + 3) (.slice none 0 0) [] := Own.nil_ _ _ _ _
  go_loopw [8] (fun s8 wr => ∃ (y : Nat) (v : Value), y ≤ b ∧ s8 = .int .i64 (y : Int) ∧ wr.heap[w.heap.size + 1 + 1]? = some (.cells #[.int .i64 (a : Int), .int .i64 (b : Int), v] 24 (0, 0)) ∧ wr.heap[w.heap.size]? = some (.cells #[.int .i64 W, .int .i64 H, .slice A l.length c] 24 (0, 0)) ∧ wr.heap[w.heap.size + 1]? = some (.cells #[.int .i64 0, .int .i64 0, .slice none 0 0] 24 (0, 0)) ∧
      Own .u8 5 wr (w.heap.size + 3) v (rows (padT l W H) a y) ∧ Below w.heap.size w wr ∧ w.heap.size + 3 ≤ wr.heap.size) (fun s8 _ => b - (intOf s8).toNat)
  case atStart => exact ⟨0, _, by omega, rfl, f2, f0, f1, hown0, hb0, by omega⟩
  case round =>
    clear f0 f1 f2 hown0 hb0 hz0
    obtain ⟨y, v, hy, rfl, hG, hB, hZ, hO, hbl, hz⟩ := hrel
    obtain ⟨Av, nv, cv, rfl⟩ := own_form hO
    have HG := Lib.hid hG
    have HB := Lib.hid hB
    have HZ := Lib.hid hZ
    clear hG hB hZ
    by_cases hyb : y < b
    · have hy1 : (y : Int) < (b : Int) := by omega
      go_wp2_with fail
      go_loopw [9] (fun s9 wr => ∃ (x : Nat) (v : Value), x ≤ a ∧ s9 = .int .i64 (x : Int) ∧ wr.heap[w.heap.size + 1 + 1]? = some (.cells #[.int .i64 (a : Int), .int .i64 (b : Int), v] 24 (0, 0)) ∧ wr.heap[w.heap.size]? = some (.cells #[.int .i64 W, .int .i64 H, .slice A l.length c] 24 (0, 0)) ∧ wr.heap[w.heap.size + 1]? = some (.cells #[.int .i64 0, .int .i64 0, .slice none 0 0] 24 (0, 0)) ∧
      Own .u8 5 wr (w.heap.size + 3) v (rows (padT l W H) a y ++ cols (padT l W H) y x) ∧ Below w.heap.size w wr ∧ w.heap.size + 3 ≤ wr.heap.size) (fun s9 _ => a - (intOf s9).toNat)
      case atStart => exact ⟨0, _, by omega, rfl, HG.out, HB.out, HZ.out, by rw [cols, List.append_nil]; exact hO, hbl, hz⟩
      case round =>
        clear HG HB HZ hO hbl hz
        obtain ⟨x, v, hx, rfl, hG, hB, hZ, hO, hbl, hz⟩ := hrel
        obtain ⟨Av, nv, cv, rfl⟩ := own_form hO
        have HG := Lib.hid hG
        have HB := Lib.hid hB
        have HZ := Lib.hid hZ
        clear hG hB hZ
        by_cases hxa : x < a
        · have hx1 : (x : Int) < (a : Int) := by omega
          go_wp2_with fail
          go_loopw [10] (fun s10 wr => ∃ (t : Nat) (v : Value), t ≤ 3 ∧ s10 = .int .i64 (t : Int) ∧ wr.heap[w.heap.size + 1 + 1]? = some (.cells #[.int .i64 (a : Int), .int .i64 (b : Int), v] 24 (0, 0)) ∧ wr.heap[w.heap.size]? = some (.cells #[.int .i64 W, .int .i64 H, .slice A l.length c] 24 (0, 0)) ∧ wr.heap[w.heap.size + 1]? = some (.cells #[.int .i64 0, .int .i64 0, .slice none 0 0] 24 (0, 0)) ∧
      Own .u8 5 wr (w.heap.size + 3) v (rows (padT l W H) a y ++ cols (padT l W H) y x ++ (padT l W H x y).take t) ∧ Below w.heap.size w wr ∧ w.heap.size + 3 ≤ wr.heap.size) (fun s10 _ => 3 - (intOf s10).toNat)
          case atStart => exact ⟨0, _, by omega, rfl, HG.out, HB.out, HZ.out, by rw [List.take_zero, List.append_nil]; exact hO, hbl, hz⟩
          case round =>
            clear HG HB HZ hO hbl hz
            obtain ⟨t, v, ht, rfl, hG, hB, hZ, hO, hbl, hz⟩ := hrel
            obtain ⟨Av, nv, cv, rfl⟩ := own_form hO
            have HG := Lib.hid hG
            have HB := Lib.hid hB
            have HZ := Lib.hid hZ
            clear hZ
            by_cases ht3 : t < 3
            · have ht1 : (t : Int) < 3 := by omega
              have k0 : ∀ p : Bel (w.heap.size + 1) wr.drew, p.w'.cell? ⟨w.heap.size, 0, none⟩ = some (.int .i64 W) := fun p => (p.h.cell (p := ⟨w.heap.size, 0, none⟩) (by show w.heap.size < _; omega)).trans (row_cell hB 0 rfl)
              have k1 : ∀ p : Bel (w.heap.size + 1) wr.drew, p.w'.cell? ⟨w.heap.size, 1, none⟩ = some (.int .i64 H) := fun p => (p.h.cell (p := ⟨w.heap.size, 1, none⟩) (by show w.heap.size < _; omega)).trans (row_cell hB 1 rfl)
              have k3 : wr.drew.cell? ⟨w.heap.size + 1 + 1, 2, none⟩ = some (.slice Av nv cv) := row_cell hG 2 rfl
              have hBd : wr.drew.heap[w.heap.size]? = some (.cells #[.int .i64 W, .int .i64 H, .slice A l.length c] 24 (0, 0)) := hB
              have HBd := Lib.hid hBd
              clear hB hG hBd
              go_wp2_with fail
              refine Tin.reg_begin (w.heap.size + 1) 20 (by rfl) (by kernel_rfl) ?_
              refine Tin.reg_quiets [0, 2, 3, 4, 5, 6, 7, 8, 9, 10, 11, 12, 13] _ 7 rfl (by simp only [Tin.pick, List.map_cons, List.map_nil, Array.getD_eq_getD_getElem?, List.getElem?_toArray, List.getElem?_cons_zero, List.getElem?_cons_succ, Option.getD_some]; rfl) (by kernel_rfl) (by kernel_rfl) ?_
              repeat (first | ((with_reducible refine wpq_load_row rt24 ?_ (.tmp 3) rfl w.heap.size rfl 24 #[.int .i64 W, .int .i64 H, .slice A l.length c] ?_ (fun w' h => by obtain ⟨p, rfl⟩ := h; exact (p.h.block _ (by omega)).trans HBd.out) ?_); rfl; rfl; simp only [Act.put, List.setIfInBounds_toArray, List.set_cons_succ, List.set_cons_zero]) | go_big_quiet_step (fail))
              refine wpQuiet_nil ?_
              have hbd : Below w.heap.size w wr.drew := ⟨hbl.os, hbl.tape, hbl.output, hbl.size, hbl.block⟩
              have hu := HY.out x y t ht3
              have hln : (rows (padT l W H) a y ++ cols (padT l W H) y x ++ (padT l W H x y).take t).length ≤ 60000000 := by
                rw [List.length_append, List.length_append, rows_len _ (fun x y => padT_len l W H x y), cols_len _ (fun x y => padT_len l W H x y), List.length_take, padT_len]
                have : 3 * a * y ≤ 3 * a * 4096 := Nat.mul_le_mul_left _ (by omega)
                omega
              refine Tin.reg_two 1 14 _ _ rfl rfl (by kernel_rfl) ?_ ?_
              · try simp only [List.getElem_toArray, List.getElem_cons_succ, List.getElem_cons_zero]
                go_wp2_with fail
                refine ⟨w.heap.size + 1, Below.refl _ _, Nat.le_refl _, ?_⟩
                refine Tin.reg_one 14 _ rfl (by kernel_rfl) ?_
                try simp only [List.getElem_toArray, List.getElem_cons_succ, List.getElem_cons_zero]
                go_wp2_with fail
                refine (HC.out wr.drew x y t hbd ht3).mono ?_
                rintro e w4 ⟨rfl, hb4⟩
                have hb4w : Below wr.heap.size wr w4 := ⟨hb4.os, hb4.tape, hb4.output, hb4.size, hb4.block⟩
                have hz4 := hb4w.size
                go_wp2_with fail
                refine ⟨w.heap.size + 1, hb4.mono (by show w.heap.size + 1 ≤ wr.heap.size; omega), Nat.le_refl _, ?_⟩
                refine Tin.reg_quiets [15] _ 4 rfl (by simp only [Tin.pick, List.map_cons, List.map_nil, Array.getD_eq_getD_getElem?, List.getElem?_toArray, List.getElem?_cons_zero, List.getElem?_cons_succ, Option.getD_some]; rfl) (by kernel_rfl) (by kernel_rfl) ?_
                repeat (first | go_big_quiet_step (fail))
                refine wpQuiet_nil ?_
                refine Tin.reg_one 16 _ rfl (by kernel_rfl) ?_
                try simp only [List.getElem_toArray, List.getElem_cons_succ, List.getElem_cons_zero]
                go_wp2_with fail
                have hb8' : Below w4.heap.size w4 (w4.alloc (.cells #[.int .u8 (nth (padT l W H x y) t)] 5)) := ba (brefl _) _
                have hs8 : Sl .u8 (w4.alloc (.cells #[.int .u8 (nth (padT l W H x y) t)] 5)) (some ⟨w4.heap.size, 0, none⟩) [nth (padT l W H x y) t] := Sl.new_ _ _ _ _ rfl
                have hz8 : (w4.alloc (.cells #[.int .u8 (nth (padT l W H x y) t)] 5)).heap.size = w4.heap.size + 1 := by simp
                generalize w4.alloc _ = W8 at *
                refine ⟨w.heap.size + 1, hb8'.mono (by omega), Nat.le_refl _, ?_⟩
                have hb8 : Below wr.heap.size wr W8 := bt hb4w hb8'
                have hO8 := hO.keep hb8
                have hG8 := (hb8.block _ (show w.heap.size + 1 + 1 < _ by omega)).trans HG.out
                have hB8 := (hb8.block _ (show w.heap.size < _ by omega)).trans HB.out
                have hZ8 := (hb8.block _ (show w.heap.size + 1 < _ by omega)).trans HZ.out
                have hz9 := hb8.size
                refine Tin.reg_one 17 _ rfl (by kernel_rfl) ?_
                try simp only [List.getElem_toArray, List.getElem_cons_succ, List.getElem_cons_zero]
                (refine Tin.wpl_app bt5 _ rfl (.tmp 29) (.tmp 44) rfl (w.heap.size + 3) _ _ rfl hO8 (some ⟨w4.heap.size, 0, none⟩) 1 1 [nth (padT l W H x y) t] rfl hs8 rfl (by simp only [List.length_cons, List.length_nil]; omega) (by simp only [List.length_cons, List.length_nil]; omega) (by omega) ?_)
                intro v6 w6 hown6 hg6 how6
                simp only [Act.put, List.setIfInBounds_toArray, List.set_cons_succ, List.set_cons_zero]
                go_wp2_with fail
                obtain ⟨A6, n6, c6, rfl⟩ := own_form hown6
                have hb6 : Below (w.heap.size + 3) W8 w6 := ⟨hg6.os, hg6.tape, hg6.output, hg6.size, fun i hi => hg6.block i (by omega) (fun h => by have := (World.ownsRow.lt hO8 _ h.symm).1; omega)⟩
                refine ⟨w.heap.size + 1, hb6.mono (by omega), Nat.le_refl _, ?_⟩
                refine Tin.reg_quiets [18] _ 1 rfl (by simp only [Tin.pick, List.map_cons, List.map_nil, Array.getD_eq_getD_getElem?, List.getElem?_toArray, List.getElem?_cons_zero, List.getElem?_cons_succ, Option.getD_some]; rfl) (by kernel_rfl) (by kernel_rfl) ?_
                repeat (first | go_big_quiet_step (fail))
                refine wpQuiet_nil ?_
                have hG6 := (hb6.block _ (show w.heap.size + 1 + 1 < _ by omega)).trans hG8
                have cc6 := row_cell hG6 2 rfl
                have f6 := frozen_of_row w6 (w.heap.size + 1 + 1) 2 _ _ hG6
                have HG6 := Lib.hid hG6
                clear hG6
                refine Tin.reg_one 19 _ rfl (by kernel_rfl) ?_
                try simp only [List.getElem_toArray, List.getElem_cons_succ, List.getElem_cons_zero]
                go_wp2_with fail
                have hk6 := grown_setCells (w.heap.size + 1 + 1) [.slice A6 n6 c6] 2 w6 w6 (World.grownBy.refl w6 _)
                have hne6 : (Value.slice A6 n6 c6).ownBlock ≠ some (w.heap.size + 1 + 1) := fun h => by have := (World.ownsRow.lt hown6 _ h).1; omega
                have hz6 := hg6.size
                have hZ6 := (hb6.block _ (show w.heap.size + 1 < _ by omega)).trans hZ8
                have hB6 := (hb6.block _ (show w.heap.size < _ by omega)).trans hB8
                have hbw6 : Below w.heap.size w w6 := (bt hbl hb8).trans (hb6.mono (by omega))
                refine ⟨w.heap.size + 1, (Below.refl _ _).setCell (by show w.heap.size + 1 ≤ w.heap.size + 1 + 1; omega) _, Nat.le_refl _, ?_⟩
                refine Tin.reg_done (by kernel_rfl) ?_
                go_wp2_with fail
                go_roundw
                case rel => exact ⟨t + 1, .slice A6 n6 c6, by omega, by go_num, row_set HG6.out 2 _, by rw [heap_setCell_other _ _ _ _ (by show w.heap.size ≠ w.heap.size + 1 + 1; omega)]; exact hB6, by rw [heap_setCell_other _ _ _ _ (by show w.heap.size + 1 ≠ w.heap.size + 1 + 1; omega)]; exact hZ6, by rw [take_next _ _ (by rw [padT_len]; exact ht3), ← List.append_assoc]; exact hown6.kept hk6 (.inr hne6), hbw6.setCell (by show w.heap.size ≤ w.heap.size + 1 + 1; omega) _, by simp [World.setCell]; omega⟩
                case measure => simp [intOf]; omega
              · try simp only [List.getElem_toArray, List.getElem_cons_succ, List.getElem_cons_zero]
                go_wp2_with fail
                refine (HC.out wr.drew x y t hbd ht3).mono ?_
                rintro e w4 ⟨rfl, hb4⟩
                have hb4w : Below wr.heap.size wr w4 := ⟨hb4.os, hb4.tape, hb4.output, hb4.size, hb4.block⟩
                have hz4 := hb4w.size
                go_wp2_with fail
                refine ⟨w.heap.size + 1, hb4.mono (by show w.heap.size + 1 ≤ wr.heap.size; omega), Nat.le_refl _, ?_⟩
                refine Tin.reg_quiets [15] _ 5 rfl (by simp only [Tin.pick, List.map_cons, List.map_nil, Array.getD_eq_getD_getElem?, List.getElem?_toArray, List.getElem?_cons_zero, List.getElem?_cons_succ, Option.getD_some]; rfl) (by kernel_rfl) (by kernel_rfl) ?_
                repeat (first | go_big_quiet_step (fail))
                refine wpQuiet_nil ?_
                have k4 : w4.cell? ⟨w.heap.size + 1 + 1, 2, none⟩ = some (.slice Av nv cv) := (hb4w.cell (p := ⟨w.heap.size + 1 + 1, 2, none⟩) (by show w.heap.size + 1 + 1 < _; omega)).trans (row_cell HG.out 2 rfl)
                refine Tin.reg_two 1 16 _ _ rfl rfl (by kernel_rfl) ?_ ?_
                · try simp only [List.getElem_toArray, List.getElem_cons_succ, List.getElem_cons_zero]
                  go_wp2_with fail
                  refine ⟨w.heap.size + 1, Below.refl _ _, Nat.le_refl _, ?_⟩
                  refine Tin.reg_one 16 _ rfl (by kernel_rfl) ?_
                  try simp only [List.getElem_toArray, List.getElem_cons_succ, List.getElem_cons_zero]
                  go_wp2_with fail
                  have hb8' : Below w4.heap.size w4 (w4.alloc (.cells #[.int .u8 (nth (padT l W H x y) t)] 5)) := ba (brefl _) _
                  have hs8 : Sl .u8 (w4.alloc (.cells #[.int .u8 (nth (padT l W H x y) t)] 5)) (some ⟨w4.heap.size, 0, none⟩) [nth (padT l W H x y) t] := Sl.new_ _ _ _ _ rfl
                  have hz8 : (w4.alloc (.cells #[.int .u8 (nth (padT l W H x y) t)] 5)).heap.size = w4.heap.size + 1 := by simp
                  generalize w4.alloc _ = W8 at *
                  refine ⟨w.heap.size + 1, hb8'.mono (by omega), Nat.le_refl _, ?_⟩
                  have hb8 : Below wr.heap.size wr W8 := bt hb4w hb8'
                  have hO8 := hO.keep hb8
                  have hG8 := (hb8.block _ (show w.heap.size + 1 + 1 < _ by omega)).trans HG.out
                  have hB8 := (hb8.block _ (show w.heap.size < _ by omega)).trans HB.out
                  have hZ8 := (hb8.block _ (show w.heap.size + 1 < _ by omega)).trans HZ.out
                  have hz9 := hb8.size
                  refine Tin.reg_one 17 _ rfl (by kernel_rfl) ?_
                  try simp only [List.getElem_toArray, List.getElem_cons_succ, List.getElem_cons_zero]
                  (refine Tin.wpl_app bt5 _ rfl (.tmp 29) (.tmp 44) rfl (w.heap.size + 3) _ _ rfl hO8 (some ⟨w4.heap.size, 0, none⟩) 1 1 [nth (padT l W H x y) t] rfl hs8 rfl (by simp only [List.length_cons, List.length_nil]; omega) (by simp only [List.length_cons, List.length_nil]; omega) (by omega) ?_)
                  intro v6 w6 hown6 hg6 how6
                  simp only [Act.put, List.setIfInBounds_toArray, List.set_cons_succ, List.set_cons_zero]
                  go_wp2_with fail
                  obtain ⟨A6, n6, c6, rfl⟩ := own_form hown6
                  have hb6 : Below (w.heap.size + 3) W8 w6 := ⟨hg6.os, hg6.tape, hg6.output, hg6.size, fun i hi => hg6.block i (by omega) (fun h => by have := (World.ownsRow.lt hO8 _ h.symm).1; omega)⟩
                  refine ⟨w.heap.size + 1, hb6.mono (by omega), Nat.le_refl _, ?_⟩
                  refine Tin.reg_quiets [18] _ 1 rfl (by simp only [Tin.pick, List.map_cons, List.map_nil, Array.getD_eq_getD_getElem?, List.getElem?_toArray, List.getElem?_cons_zero, List.getElem?_cons_succ, Option.getD_some]; rfl) (by kernel_rfl) (by kernel_rfl) ?_
                  repeat (first | go_big_quiet_step (fail))
                  refine wpQuiet_nil ?_
                  have hG6 := (hb6.block _ (show w.heap.size + 1 + 1 < _ by omega)).trans hG8
                  have cc6 := row_cell hG6 2 rfl
                  have f6 := frozen_of_row w6 (w.heap.size + 1 + 1) 2 _ _ hG6
                  have HG6 := Lib.hid hG6
                  clear hG6
                  refine Tin.reg_one 19 _ rfl (by kernel_rfl) ?_
                  try simp only [List.getElem_toArray, List.getElem_cons_succ, List.getElem_cons_zero]
                  go_wp2_with fail
                  have hk6 := grown_setCells (w.heap.size + 1 + 1) [.slice A6 n6 c6] 2 w6 w6 (World.grownBy.refl w6 _)
                  have hne6 : (Value.slice A6 n6 c6).ownBlock ≠ some (w.heap.size + 1 + 1) := fun h => by have := (World.ownsRow.lt hown6 _ h).1; omega
                  have hz6 := hg6.size
                  have hZ6 := (hb6.block _ (show w.heap.size + 1 < _ by omega)).trans hZ8
                  have hB6 := (hb6.block _ (show w.heap.size < _ by omega)).trans hB8
                  have hbw6 : Below w.heap.size w w6 := (bt hbl hb8).trans (hb6.mono (by omega))
                  refine ⟨w.heap.size + 1, (Below.refl _ _).setCell (by show w.heap.size + 1 ≤ w.heap.size + 1 + 1; omega) _, Nat.le_refl _, ?_⟩
                  refine Tin.reg_done (by kernel_rfl) ?_
                  go_wp2_with fail
                  go_roundw
                  case rel => exact ⟨t + 1, .slice A6 n6 c6, by omega, by go_num, row_set HG6.out 2 _, by rw [heap_setCell_other _ _ _ _ (by show w.heap.size ≠ w.heap.size + 1 + 1; omega)]; exact hB6, by rw [heap_setCell_other _ _ _ _ (by show w.heap.size + 1 ≠ w.heap.size + 1 + 1; omega)]; exact hZ6, by rw [take_next _ _ (by rw [padT_len]; exact ht3), ← List.append_assoc]; exact hown6.kept hk6 (.inr hne6), hbw6.setCell (by show w.heap.size ≤ w.heap.size + 1 + 1; omega) _, by simp [World.setCell]; omega⟩
                  case measure => simp [intOf]; omega
                · try simp only [List.getElem_toArray, List.getElem_cons_succ, List.getElem_cons_zero]
                  go_wp2_with fail
                  have hb8' : Below w4.heap.size w4 (w4.alloc (.cells #[.int .u8 (nth (padT l W H x y) t)] 5)) := ba (brefl _) _
                  have hs8 : Sl .u8 (w4.alloc (.cells #[.int .u8 (nth (padT l W H x y) t)] 5)) (some ⟨w4.heap.size, 0, none⟩) [nth (padT l W H x y) t] := Sl.new_ _ _ _ _ rfl
                  have hz8 : (w4.alloc (.cells #[.int .u8 (nth (padT l W H x y) t)] 5)).heap.size = w4.heap.size + 1 := by simp
                  generalize w4.alloc _ = W8 at *
                  refine ⟨w.heap.size + 1, hb8'.mono (by omega), Nat.le_refl _, ?_⟩
                  have k8 : W8.cell? ⟨w.heap.size + 1 + 1, 2, none⟩ = some (.slice Av nv cv) := (hb8'.cell (p := ⟨w.heap.size + 1 + 1, 2, none⟩) (by show w.heap.size + 1 + 1 < _; omega)).trans k4
                  refine Tin.reg_one 1 _ rfl (by kernel_rfl) ?_
                  try simp only [List.getElem_toArray, List.getElem_cons_succ, List.getElem_cons_zero]
                  go_wp2_with fail
                  refine ⟨w.heap.size + 1, Below.refl _ _, Nat.le_refl _, ?_⟩
                  have hb8 : Below wr.heap.size wr W8 := bt hb4w hb8'
                  have hO8 := hO.keep hb8
                  have hG8 := (hb8.block _ (show w.heap.size + 1 + 1 < _ by omega)).trans HG.out
                  have hB8 := (hb8.block _ (show w.heap.size < _ by omega)).trans HB.out
                  have hZ8 := (hb8.block _ (show w.heap.size + 1 < _ by omega)).trans HZ.out
                  have hz9 := hb8.size
                  refine Tin.reg_one 17 _ rfl (by kernel_rfl) ?_
                  try simp only [List.getElem_toArray, List.getElem_cons_succ, List.getElem_cons_zero]
                  (refine Tin.wpl_app bt5 _ rfl (.tmp 29) (.tmp 44) rfl (w.heap.size + 3) _ _ rfl hO8 (some ⟨w4.heap.size, 0, none⟩) 1 1 [nth (padT l W H x y) t] rfl hs8 rfl (by simp only [List.length_cons, List.length_nil]; omega) (by simp only [List.length_cons, List.length_nil]; omega) (by omega) ?_)
                  intro v6 w6 hown6 hg6 how6
                  simp only [Act.put, List.setIfInBounds_toArray, List.set_cons_succ, List.set_cons_zero]
                  go_wp2_with fail
                  obtain ⟨A6, n6, c6, rfl⟩ := own_form hown6
                  have hb6 : Below (w.heap.size + 3) W8 w6 := ⟨hg6.os, hg6.tape, hg6.output, hg6.size, fun i hi => hg6.block i (by omega) (fun h => by have := (World.ownsRow.lt hO8 _ h.symm).1; omega)⟩
                  refine ⟨w.heap.size + 1, hb6.mono (by omega), Nat.le_refl _, ?_⟩
                  refine Tin.reg_quiets [18] _ 1 rfl (by simp only [Tin.pick, List.map_cons, List.map_nil, Array.getD_eq_getD_getElem?, List.getElem?_toArray, List.getElem?_cons_zero, List.getElem?_cons_succ, Option.getD_some]; rfl) (by kernel_rfl) (by kernel_rfl) ?_
                  repeat (first | go_big_quiet_step (fail))
                  refine wpQuiet_nil ?_
                  have hG6 := (hb6.block _ (show w.heap.size + 1 + 1 < _ by omega)).trans hG8
                  have cc6 := row_cell hG6 2 rfl
                  have f6 := frozen_of_row w6 (w.heap.size + 1 + 1) 2 _ _ hG6
                  have HG6 := Lib.hid hG6
                  clear hG6
                  refine Tin.reg_one 19 _ rfl (by kernel_rfl) ?_
                  try simp only [List.getElem_toArray, List.getElem_cons_succ, List.getElem_cons_zero]
                  go_wp2_with fail
                  have hk6 := grown_setCells (w.heap.size + 1 + 1) [.slice A6 n6 c6] 2 w6 w6 (World.grownBy.refl w6 _)
                  have hne6 : (Value.slice A6 n6 c6).ownBlock ≠ some (w.heap.size + 1 + 1) := fun h => by have := (World.ownsRow.lt hown6 _ h).1; omega
                  have hz6 := hg6.size
                  have hZ6 := (hb6.block _ (show w.heap.size + 1 < _ by omega)).trans hZ8
                  have hB6 := (hb6.block _ (show w.heap.size < _ by omega)).trans hB8
                  have hbw6 : Below w.heap.size w w6 := (bt hbl hb8).trans (hb6.mono (by omega))
                  refine ⟨w.heap.size + 1, (Below.refl _ _).setCell (by show w.heap.size + 1 ≤ w.heap.size + 1 + 1; omega) _, Nat.le_refl _, ?_⟩
                  refine Tin.reg_done (by kernel_rfl) ?_
                  go_wp2_with fail
                  go_roundw
                  case rel => exact ⟨t + 1, .slice A6 n6 c6, by omega, by go_num, row_set HG6.out 2 _, by rw [heap_setCell_other _ _ _ _ (by show w.heap.size ≠ w.heap.size + 1 + 1; omega)]; exact hB6, by rw [heap_setCell_other _ _ _ _ (by show w.heap.size + 1 ≠ w.heap.size + 1 + 1; omega)]; exact hZ6, by rw [take_next _ _ (by rw [padT_len]; exact ht3), ← List.append_assoc]; exact hown6.kept hk6 (.inr hne6), hbw6.setCell (by show w.heap.size ≤ w.heap.size + 1 + 1; omega) _, by simp [World.setCell]; omega⟩
                  case measure => simp [intOf]; omega
            · obtain rfl : t = 3 := by omega
              go_wp2_with fail
              go_roundw
              case rel => exact ⟨x + 1, .slice Av nv cv, by omega, by go_num, HG.out, HB.out, HZ.out, by rw [cols, ← List.append_assoc]; exact hO, hbl, hz⟩
              case measure => simp [intOf]; omega
        · have hx1 : (a : Int) ≤ (x : Int) := by omega
          obtain rfl : x = a := by omega
          go_wp2_with fail
          go_roundw
          case rel => exact ⟨y + 1, .slice Av nv cv, by omega, by go_num, HG.out, HB.out, HZ.out, hO, hbl, hz⟩
          case measure => simp [intOf]; omega
    · have hy1 : (b : Int) ≤ (y : Int) := by omega
      obtain rfl : y = b := by omega
      go_wp2_with (first | ((with_reducible refine wpl_load_row rt24 ?_ (.tmp 7) rfl (w.heap.size + 1 + 1) rfl 24 #[.int .i64 (a : Int), .int .i64 (y : Int), .slice Av nv cv] ?_ HG.out ?_); rfl; rfl; simp only [Act.put, List.setIfInBounds_toArray, List.set_cons_succ, List.set_cons_zero]) | ((with_reducible refine wpl_store_row rt24 rfl (.tmp 6) (.tmp 47) rfl (w.heap.size + 1) rfl #[.int .i64 (a : Int), .int .i64 (y : Int), .slice Av nv cv] rfl (pic_one _ _ _ _ _) 24 ?_ #[.int .i64 0, .int .i64 0, .slice none 0 0] ?_ HZ.out ?_); rfl; rfl; intro w5 hr5 hg5 hs5))
      have hk := hO.kept hg5 (.inr (fun h => by have := (World.ownsRow.lt hO _ h).1; omega))
      exact bodyPost_ret (res_row rt24 rfl _ _ (w.heap.size + 1) 24 _ rfl rfl hr5) rfl ⟨_, rfl, hk.mono (by omega), hbl.grown hg5 hbl.size (fun k hk => by cases hk; omega)⟩
end Go.Proofs.Ytdjfjndmkkhknaa
