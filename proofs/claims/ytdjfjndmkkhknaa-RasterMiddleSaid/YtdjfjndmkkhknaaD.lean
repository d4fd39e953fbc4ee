/- The contract of made: a picture whose colours are told place by place. -/
import Derived.Test.YtdjfjndmkkhknaaC
import Derived.Test.YtdjfjndmkkhknaaRek
namespace Go.Proofs.Ytdjfjndmkkhknaa
open Go.RowKit
open Go.Tin
set_option linter.unusedVariables false
set_option linter.unusedSimpArgs false

theorem own_form {k : IntKind} {e : TypeId} {w : World} {B : Nat} {v : Value} {l : List Int} (h : Own k e w B v l) : ∃ A n c, v = .slice A n c := by
  obtain ⟨A, c, hv, _⟩ := h.sl
  exact ⟨A, _, c, hv⟩
theorem bt5 : ST Try.prog 22 5 .u8 1 := ST.of Try.underlying22 Try.underlying5 (by kernel_rfl)
theorem rt24 : RT Try.prog 24 3 := RT.of Try.underlying24 rfl (by kernel_rfl)
theorem pic_one (a b : Int) (A : Option Addr) (n c : Nat) : (#[Value.int .i64 a, .int .i64 b, .slice A n c] : Array Value).all (·.oneCell') = true := by simp [Value.oneCell']
def cols (tell : Nat → Nat → List Int) (y : Nat) : Nat → List Int
  | 0 => []
  | x + 1 => cols tell y x ++ tell x y
def rows (tell : Nat → Nat → List Int) (wd : Nat) : Nat → List Int
  | 0 => []
  | y + 1 => rows tell wd y ++ cols tell y wd
theorem cols_len (tell : Nat → Nat → List Int) (h3 : ∀ x y, (tell x y).length = 3) (y : Nat) : ∀ x, (cols tell y x).length = 3 * x
  | 0 => rfl
  | x + 1 => by rw [cols, List.length_append, cols_len tell h3 y x, h3]; omega
theorem rows_len (tell : Nat → Nat → List Int) (h3 : ∀ x y, (tell x y).length = 3) (wd : Nat) : ∀ y, (rows tell wd y).length = 3 * wd * y
  | 0 => rfl
  | y + 1 => by rw [rows, List.length_append, rows_len tell h3 wd y, cols_len tell h3, Nat.mul_succ]

set_option maxRecDepth 100000 in
set_option maxHeartbeats 2000000 in
theorem made_any (wd ht : Nat) (hw1 : 1 ≤ wd) (hw2 : wd ≤ 4096) (hh1 : 1 ≤ ht) (hh2 : ht ≤ 4096) (tell : Nat → Nat → List Int) (h3 : ∀ x y, (tell x y).length = 3) (f : FuncId) (first cap : Array Value) (w : World)
    (hcf : ∀ (vs : Array Value) (W : World), (callFunc f vs).run Try.prog W = .ok (.enter f vs) W)
    (hcall : ∀ (W : World) (x y : Nat), Below w.heap.size w W → x < wd → y < ht → Calls Try.prog f (first ++ (#[.int .i64 (x : Int), .int .i64 (y : Int)] ++ cap)) W fun e w' => e = .returned (.agg (arr .u8 (tell x y))) ∧ Below W.heap.size W w') :
    Calls Try.prog 26 #[.int .i64 (wd : Int), .int .i64 (ht : Int), .func (.func f) first cap] w fun e w' => ∃ v, e = .returned (.agg #[.int .i64 (wd : Int), .int .i64 (ht : Int), v]) ∧ Own .u8 5 w' w.heap.size v (rows tell wd ht) ∧ Below w.heap.size w w' := by
  have HC := Lib.hid hcall
  have H3 := Lib.hid h3
  clear hcall h3
  have m1 : 0 ≤ 3 * (wd : Int) * (ht : Int) := by
    have := Int.mul_nonneg (show (0 : Int) ≤ 3 * (wd : Int) by omega) (show (0 : Int) ≤ (ht : Int) by omega)
    exact this
  have m3 : 3 * wd * ht ≤ 50331648 := Nat.le_trans (Nat.mul_le_mul_left (3 * wd) hh2) (by omega)
  have m4 : ((3 * wd * ht : Nat) : Int) = 3 * (wd : Int) * (ht : Int) := by push_cast; rfl
  have m2 : 3 * (wd : Int) * (ht : Int) ≤ 50331648 := by omega
  have hC : 3 * (wd : Int) * (ht : Int) = ((3 * wd * ht : Nat) : Int) := m4.symm
  have HM := Lib.hid hC
  clear m4 hC
  go_enter Try.func26, Try.ntmps26
  go_wp2_with ((refine Tin.wpl_make0 bt5 _ rfl _ _ rfl (w.heap.size + 1) .i64 .i64 _ (3 * wd * ht) rfl rfl HM.out (by omega) (Nat.le_trans m3 (by decide)) (Nat.le_of_eq (World.size_alloc _ _).symm) ?_); intro v2 w2 hown2 hg2; obtain ⟨A2, n2, c2, rfl⟩ := own_form hown2)
  have hz2 : w.heap.size + 1 ≤ w2.heap.size := by have := hg2.size; simpa using this
  have hne2 : (Value.slice A2 n2 c2).ownBlock ≠ some w2.heap.size := by
    intro h
    have := (World.ownsRow.lt hown2 _ h).2
    omega
  have hb2 : Below w.heap.size w w2 := (ba (brefl w) _).grown hg2 (by simp) (fun k hk => by cases hk)
  have z2 : w2.heap[w.heap.size]? = some (.cells #[.int .i64 0, .int .i64 0, .slice none 0 0] 24 (0, 0)) := (hg2.block _ (by simp) (by simp)).trans (heap_alloc_new w _)
  have z3 := heap_alloc_new w2 (.cells #[.int .i64 (wd : Int), .int .i64 (ht : Int), .slice A2 n2 c2] 24)
  have z4 := (Below.heap_alloc w2 (.cells #[.int .i64 (wd : Int), .int .i64 (ht : Int), .slice A2 n2 c2] 24) w.heap.size (by omega)).trans z2
  have hown3 := hown2.alloc (.cells #[.int .i64 (wd : Int), .int .i64 (ht : Int), .slice A2 n2 c2] 24)
  have hb3 := ba hb2 (.cells #[.int .i64 (wd : Int), .int .i64 (ht : Int), .slice A2 n2 c2] 24)
  have hs3 : (w2.alloc (.cells #[.int .i64 (wd : Int), .int .i64 (ht : Int), .slice A2 n2 c2] 24)).heap.size = w2.heap.size + 1 := by simp
  generalize w2.alloc _ = W at *
  generalize w2.heap.size = g at *
  clear hg2 z2 hb2 hown2 m1 m2 m3 HM
  go_loopw [20] (fun s20 wr => ∃ (y : Nat) (v : Value), y ≤ ht ∧ s20 = .int .i64 (y : Int) ∧ wr.heap[g]? = some (.cells #[.int .i64 (wd : Int), .int .i64 (ht : Int), v] 24 (0, 0)) ∧ wr.heap[w.heap.size]? = some (.cells #[.int .i64 0, .int .i64 0, .slice none 0 0] 24 (0, 0)) ∧
      Own .u8 5 wr (w.heap.size + 1) v (rows tell wd y) ∧ v.ownBlock ≠ some g ∧ Below w.heap.size w wr ∧ g < wr.heap.size) (fun s20 _ => ht - (intOf s20).toNat)
  case atStart => exact ⟨0, _, by omega, rfl, z3, z4, hown3, hne2, hb3, by omega⟩
  case round =>
    clear z3 z4 hown3 hne2 hb3 hs3
    obtain ⟨y, v, hy, rfl, hG, hZ, hO, hne, hb, hgs⟩ := hrel
    obtain ⟨A, n, c, rfl⟩ := own_form hO
    by_cases hyh : y < ht
    · have hy1 : (y : Int) < (ht : Int) := by omega
      have HG := Lib.hid hG
      have HZ := Lib.hid hZ
      clear hG hZ
      go_wp2_with fail
      go_loopw [24] (fun s24 wr => ∃ (x : Nat) (v : Value), x ≤ wd ∧ s24 = .int .i64 (x : Int) ∧ wr.heap[g]? = some (.cells #[.int .i64 (wd : Int), .int .i64 (ht : Int), v] 24 (0, 0)) ∧ wr.heap[w.heap.size]? = some (.cells #[.int .i64 0, .int .i64 0, .slice none 0 0] 24 (0, 0)) ∧
          Own .u8 5 wr (w.heap.size + 1) v (rows tell wd y ++ cols tell y x) ∧ v.ownBlock ≠ some g ∧ Below w.heap.size w wr ∧ g < wr.heap.size) (fun s24 _ => wd - (intOf s24).toNat)
      case atStart => exact ⟨0, _, by omega, rfl, HG.out, HZ.out, by rw [cols, List.append_nil]; exact hO, hne, hb, hgs⟩
      case round =>
        clear HG HZ hO hne hb hgs
        obtain ⟨x, v, hx, rfl, hG, hZ, hO, hne, hb, hgs⟩ := hrel
        obtain ⟨A, n, c, rfl⟩ := own_form hO
        have HG := Lib.hid hG
        have HZ := Lib.hid hZ
        clear hG hZ
        by_cases hxw : x < wd
        · have hx1 : (x : Int) < (wd : Int) := by omega
          go_wp2_with fail
          refine (HC.out wr x y hb hxw (by omega)).mono ?_
          rintro e w4 ⟨rfl, hb4⟩
          go_wp2_with (with_reducible refine wpl_store_arr at27 rfl (.tmp 10) (.tmp 30) rfl w4.heap.size rfl rfl 27 (H3.out x y) _ rfl (heap_alloc_new w4 _) ?_; intro w5 hr5 hg5 hs5; simp only [Act.put])
          have hz4 := hb4.size
          have hs4 : w4.heap.size < w5.heap.size := by rw [hs5]; simp
          have hb5 : Below wr.heap.size wr w5 := (ba hb4 _).grown hg5 (by simp; omega) (fun k hk => by cases hk; exact hb4.size)
          have hG5 : w5.heap[g]? = some (.cells #[.int .i64 (wd : Int), .int .i64 (ht : Int), .slice A n c] 24 (0, 0)) := (hb5.block _ hgs).trans HG.out
          have hO5 : Own .u8 5 w5 (w.heap.size + 1) (.slice A n c) (rows tell wd y ++ cols tell y x) := hO.keep hb5
          have hS5 : Sl .u8 w5 (some ⟨w4.heap.size, 0, none⟩) (tell x y) := by
            refine .inr ⟨_, 0, rfl, hs4, fun i hi => ?_⟩
            have h := blk_cell hr5 i hi
            rw [Nat.zero_add]
            exact h
          have hg4 : g < w5.heap.size := by omega
          have HG5 := Lib.hid hG5
          have HR5 := Lib.hid hr5
          clear hG5 hr5
          have k1 : w5.drew.cell? ⟨g, 2, none⟩ = some (.slice A n c) := row_cell HG5.out 2 rfl
          refine Tin.reg_begin 0 6 (by rfl) (by kernel_rfl) ?_
          refine Tin.reg_quiets [0, 2] _ 4 rfl (by simp only [Tin.pick, List.map_cons, List.map_nil, Array.getD_eq_getD_getElem?, List.getElem?_toArray, List.getElem?_cons_zero, List.getElem?_cons_succ, Option.getD_some]; rfl) (by kernel_rfl) (by kernel_rfl) ?_
          repeat (first | go_big_quiet_step (fail))
          refine wpQuiet_nil ?_
          refine Tin.reg_one 1 _ rfl (by kernel_rfl) ?_
          try simp only [List.getElem_toArray, List.getElem_cons_succ, List.getElem_cons_zero]
          go_wp2_with fail
          refine ⟨0, Below.refl _ _, Nat.le_refl _, ?_⟩
          clear k1
          refine Tin.reg_one 3 _ rfl (by kernel_rfl) ?_
          try simp only [List.getElem_toArray, List.getElem_cons_succ, List.getElem_cons_zero]
          have l3 : (rows tell wd y ++ cols tell y x).length + (tell x y).length ≤ 100000000 := by
            rw [List.length_append, rows_len tell H3.out, cols_len tell H3.out, H3.out]
            have : 3 * wd * y ≤ 3 * wd * 4096 := Nat.mul_le_mul_left _ (by omega)
            omega
          (refine Tin.wpl_app bt5 _ rfl (.tmp 32) (.tmp 33) rfl (w.heap.size + 1) _ _ rfl hO5.drew (some ⟨w4.heap.size, 0, none⟩) 3 3 (tell x y) rfl hS5 (H3.out x y).symm (by omega) (by omega) (by have := hb.size; have := hb5.size; show w.heap.size + 1 ≤ w5.heap.size; omega) ?_)
          intro v6 w6 hown6 hg6 how6
          simp only [Act.put, List.setIfInBounds_toArray, List.set_cons_succ, List.set_cons_zero]
          go_wp2_with fail
          obtain ⟨A6, n6, c6, rfl⟩ := own_form hown6
          refine ⟨0, ⟨hg6.os, hg6.tape, hg6.output, hg6.size, fun i hi => absurd hi (Nat.not_lt_zero _)⟩, Nat.le_refl _, ?_⟩
          refine Tin.reg_quiets [4] _ 1 rfl (by simp only [Tin.pick, List.map_cons, List.map_nil, Array.getD_eq_getD_getElem?, List.getElem?_toArray, List.getElem?_cons_zero, List.getElem?_cons_succ, Option.getD_some]; rfl) (by kernel_rfl) (by kernel_rfl) ?_
          repeat (first | go_big_quiet_step (fail))
          refine wpQuiet_nil ?_
          have hG6 : w6.heap[g]? = some (.cells #[.int .i64 (wd : Int), .int .i64 (ht : Int), .slice A n c] 24 (0, 0)) := (hg6.block g hg4 (fun h => hne h.symm)).trans HG5.out
          have cc6 := row_cell hG6 2 rfl
          have f6 := frozen_of_row w6 g 2 _ _ hG6
          have HG6 := Lib.hid hG6
          clear hG6
          refine Tin.reg_one 5 _ rfl (by kernel_rfl) ?_
          try simp only [List.getElem_toArray, List.getElem_cons_succ, List.getElem_cons_zero]
          go_wp2_with fail
          have hk6 := grown_setCells g [.slice A6 n6 c6] 2 w6 w6 (World.grownBy.refl w6 _)
          have hne6 : (Value.slice A6 n6 c6).ownBlock ≠ some g := by
            rcases how6 with h | h
            · rw [h]; exact hne
            · rw [h]
              intro h'
              have h'' : w5.heap.size = g := by injection h'
              omega
          have hzw : w.heap.size < w5.heap.size := by omega
          have hZ6 : w6.heap[w.heap.size]? = some (.cells #[.int .i64 0, .int .i64 0, .slice none 0 0] 24 (0, 0)) :=
            (hg6.block w.heap.size hzw (fun h => by have := (World.ownsRow.lt hO5 _ h.symm).1; omega)).trans ((hb5.block _ (by omega)).trans HZ.out)
          have hb6 : Below w.heap.size w w6 := (hb.trans (hb5.mono hb.size)).grown (w' := w6) ⟨hg6.os, hg6.tape, hg6.output, hg6.size, hg6.block⟩ (by omega) (fun k hk => by have := (World.ownsRow.lt hO5 k hk).1; omega)
          have hz6 : w5.heap.size ≤ w6.heap.size := hg6.size
          refine ⟨0, ⟨rfl, rfl, rfl, by simp [World.setCell], fun i hi => absurd hi (Nat.not_lt_zero _)⟩, Nat.le_refl _, ?_⟩
          refine Tin.reg_done (by kernel_rfl) ?_
          go_wp2_with fail
          go_roundw
          case rel => exact ⟨x + 1, .slice A6 n6 c6, by omega, by go_num, row_set HG6.out 2 _, by rw [heap_setCell_other _ _ _ _ (by show w.heap.size ≠ g; omega)]; exact hZ6, by rw [cols, ← List.append_assoc]; exact hown6.kept hk6 (.inr hne6), hne6, hb6.setCell (by show w.heap.size ≤ g; omega) _, by simp [World.setCell]; omega⟩
          case measure => simp [intOf]; omega
        · have hx1 : (wd : Int) ≤ (x : Int) := by omega
          obtain rfl : x = wd := by omega
          go_wp2_with fail
          go_roundw
          case rel => exact ⟨y + 1, .slice A n c, by omega, by go_num, HG.out, HZ.out, hO, hne, hb, hgs⟩
          case measure => simp [intOf]; omega
    · have hy1 : (ht : Int) ≤ (y : Int) := by omega
      obtain rfl : y = ht := by omega
      have HG := Lib.hid hG
      have HZ := Lib.hid hZ
      clear hG hZ
      go_wp2_with (first | ((with_reducible refine wpl_load_row rt24 ?_ (.tmp 7) rfl g rfl 24 #[.int .i64 (wd : Int), .int .i64 (y : Int), .slice A n c] ?_ HG.out ?_); rfl; rfl; simp only [Act.put, List.setIfInBounds_toArray, List.set_cons_succ, List.set_cons_zero]) | ((with_reducible refine wpl_store_row rt24 rfl (.tmp 6) (.tmp 38) rfl w.heap.size rfl #[.int .i64 (wd : Int), .int .i64 (y : Int), .slice A n c] rfl (pic_one _ _ _ _ _) 24 ?_ #[.int .i64 0, .int .i64 0, .slice none 0 0] ?_ HZ.out ?_); rfl; rfl; intro w5 hr5 hg5 hs5))
      have hk := hO.kept hg5 (.inr (fun h => by have := (World.ownsRow.lt hO _ h).1; omega))
      exact bodyPost_ret (res_row rt24 rfl _ _ w.heap.size 24 _ rfl rfl hr5) rfl ⟨_, rfl, hk.mono (by omega), hb.grown hg5 hb.size (fun k hk => by cases hk; omega)⟩
end Go.Proofs.Ytdjfjndmkkhknaa
