/- A plane whose samples are told place by place. -/
import Derived.Test.YtajobboldjgidaaSmC
namespace Go.Proofs.Ytajobboldjgidaa
open Go.RowKit
open Go.Tin
set_option linter.unusedVariables false
set_option linter.unusedSimpArgs false


theorem ud' {B : Nat} {w x : World} (h : Below B w x) : Below B w x.drew := ⟨h.os, h.tape, h.output, h.size, h.block⟩
theorem ne_own {v : Value} {g : Nat} (h : ∀ q, v.ownBlock = some q → q ≠ g) : v.ownBlock = none ∨ v.ownBlock ≠ some g := by
  cases hq : v.ownBlock with
  | none => exact .inl rfl
  | some q => exact .inr fun e => h q hq (Option.some.inj e)
theorem own_form {k : IntKind} {e : TypeId} {w : World} {B : Nat} {v : Value} {l : List Int} (h : Own k e w B v l) : ∃ A c, v = .slice A l.length c := by
  obtain ⟨A, c, hv, _⟩ := h.sl
  exact ⟨A, c, hv⟩
theorem ba' {B : Nat} {w w1 : World} (h : Below B w w1) (o : Obj) (hB : B ≤ w1.heap.size := by omega) : Below B w (w1.alloc o) := h.alloc hB o
theorem btI : ST Try.prog 22 3 .i64 8 := ST.of Try.underlying22 Try.underlying3 (by kernel_rfl)
theorem rtP : RT Try.prog 24 3 := RT.of Try.underlying24 rfl (by kernel_rfl)
theorem pl_one (a b : Int) (A : Option Addr) (n c : Nat) : (plrow a b A n c).all (·.oneCell') = true := by simp [Value.oneCell']
def lin (tell : Nat → Nat → Int) (y : Nat) : Nat → List Int
  | 0 => []
  | x + 1 => lin tell y x ++ [tell x y]
def grid (tell : Nat → Nat → Int) (wd : Nat) : Nat → List Int
  | 0 => []
  | y + 1 => grid tell wd y ++ lin tell y wd
theorem lin_len (tell : Nat → Nat → Int) (y : Nat) : ∀ x, (lin tell y x).length = x
  | 0 => rfl
  | x + 1 => by rw [lin, List.length_append, lin_len tell y x]; rfl
theorem grid_len (tell : Nat → Nat → Int) (wd : Nat) : ∀ y, (grid tell wd y).length = wd * y
  | 0 => rfl
  | y + 1 => by rw [grid, List.length_append, grid_len tell wd y, lin_len tell, Nat.mul_succ]
theorem grid_le (tell : Nat → Nat → Int) {wd ht y x : Nat} (hw : wd ≤ 4096) (hy : y ≤ 4096) (hx : x ≤ 4096) : (grid tell wd y ++ lin tell y x).length ≤ 100000000 := by
  rw [List.length_append, grid_len, lin_len]
  have := Nat.mul_le_mul hw hy
  omega
set_option maxRecDepth 100000 in
set_option maxHeartbeats 4000000 in
theorem made_any (wd ht : Nat) (hw1 : 1 ≤ wd) (hw2 : wd ≤ 4096) (hh1 : 1 ≤ ht) (hh2 : ht ≤ 4096) (tell : Nat → Nat → Int) (f : FuncId) (first cap : Array Value) (w : World)
    (hcf : ∀ (vs : Array Value) (W : World), (callFunc f vs).run Try.prog W = .ok (.enter f vs) W)
    (hcall : ∀ (W : World) (x y : Nat), Below w.heap.size w W → x < wd → y < ht → Calls Try.prog f (first ++ (#[.int .i64 (x : Int), .int .i64 (y : Int)] ++ cap)) W fun e w' => e = .returned (.int .i64 (tell x y)) ∧ Below W.heap.size W w') :
    Calls Try.prog 37 #[.int .i64 (wd : Int), .int .i64 (ht : Int), .func (.func f) first cap] w fun e w' => ∃ A c, e = .returned (plA (wd : Int) (ht : Int) A (wd * ht) c) ∧ Own .i64 3 w' w.heap.size (.slice A (wd * ht) c) (grid tell wd ht) ∧ Below w.heap.size w w' := by
  have HC := Lib.hid hcall
  clear hcall
  obtain ⟨z2, z3, hb3, hs3⟩ := alloc2 w (.cells (plrow 0 0 none 0 0) 24) (.cells (plrow (wd : Int) (ht : Int) none 0 0) 24)
  have hown3 := Own.nil_ .i64 3 ((w.alloc (.cells (plrow 0 0 none 0 0) 24)).alloc (.cells (plrow (wd : Int) (ht : Int) none 0 0) 24)) (w.heap.size + 2)
  go_enter Try.func37, Try.ntmps37
  go_wp2_with fail
  generalize ((w.alloc (.cells (plrow 0 0 none 0 0) 24)).alloc (.cells (plrow (wd : Int) (ht : Int) none 0 0) 24)) = W at *
  obtain ⟨g, hg⟩ : ∃ g, g = w.heap.size + 1 := ⟨_, rfl⟩
  rw [← hg] at z3 ⊢
  have HGG := Lib.hid hg
  clear hg
  go_loopw [14] (fun s14 wr => ∃ (y : Nat) (A : Option Addr) (n c : Nat), y ≤ ht ∧ s14 = .int .i64 (y : Int) ∧ wr.heap[g]? = some (.cells (plrow (wd : Int) (ht : Int) A n c) 24 (0, 0)) ∧ wr.heap[w.heap.size]? = some (.cells (plrow 0 0 none 0 0) 24 (0, 0)) ∧
      Own .i64 3 wr (w.heap.size + 2) (.slice A n c) (grid tell wd y) ∧ Below w.heap.size w wr ∧ w.heap.size + 2 ≤ wr.heap.size) (fun s14 _ => ht - (intOf s14).toNat)
  case atStart => exact ⟨0, none, 0, 0, by omega, rfl, z3, z2, hown3, hb3, by omega⟩
  case round =>
    clear z2 z3 hown3 hb3 hs3
    obtain ⟨y, A, n, c, hy, rfl, hG, hZ, hO, hb, hgs⟩ := hrel
    have HG := Lib.hid hG
    have HZ := Lib.hid hZ
    clear hG hZ
    by_cases hyh : y < ht
    case neg =>
      obtain rfl : y = ht := by omega
      have hn := hO.sl'.1
      rw [grid_len] at hn
      subst hn
      have HO := Lib.hid hO
      clear hO
      go_wp2_with (first | ((with_reducible refine wpl_load_row rtP ?_ (.tmp 7) ?_ g ?_ 24 (plrow (wd : Int) (y : Int) A (wd * y) c) ?_ HG.out ?_); rfl; rfl; rfl; rfl; simp only [Act.put, List.setIfInBounds_toArray, List.set_cons_succ, List.set_cons_zero]) | ((with_reducible refine wpl_store_row rtP ?_ (.tmp 6) (.tmp 32) ?_ (w.heap.size) ?_ (plrow (wd : Int) (y : Int) A (wd * y) c) ?_ (pl_one _ _ _ _ _) 24 ?_ (plrow 0 0 none 0 0) ?_ HZ.out ?_); rfl; rfl; rfl; rfl; rfl; rfl; intro w5 hr5 hg5 hs5))
      have hk := HO.out.kept hg5 (ne_own (fun q hq => by have := (World.ownsRow.lt HO.out q hq).1; omega))
      exact bodyPost_ret (res_row rtP rfl _ _ w.heap.size 24 (plrow (wd : Int) (y : Int) A (wd * y) c) rfl rfl hr5) rfl ⟨A, c, rfl, hk.mono (by omega), hb.grown hg5 hb.size (fun k hk => by cases hk; omega)⟩
    have hy1 : (y : Int) < (ht : Int) := by omega
    have HO := Lib.hid hO
    have HB := Lib.hid hb
    clear hO hb
    go_wp2_with fail
    go_loopw [18] (fun s18 wr => ∃ (x : Nat) (A : Option Addr) (n c : Nat), x ≤ wd ∧ s18 = .int .i64 (x : Int) ∧ wr.heap[g]? = some (.cells (plrow (wd : Int) (ht : Int) A n c) 24 (0, 0)) ∧ wr.heap[w.heap.size]? = some (.cells (plrow 0 0 none 0 0) 24 (0, 0)) ∧
        Own .i64 3 wr (w.heap.size + 2) (.slice A n c) (grid tell wd y ++ lin tell y x) ∧ Below w.heap.size w wr ∧ w.heap.size + 2 ≤ wr.heap.size) (fun s18 _ => wd - (intOf s18).toNat)
    case atStart => exact ⟨0, A, n, c, by omega, rfl, HG.out, HZ.out, by rw [lin, List.append_nil]; exact HO.out, HB.out, hgs⟩
    case round =>
      clear HG HZ HO HB hgs
      obtain ⟨x, A, n, c, hx, rfl, hG, hZ, hO, hb, hgs⟩ := hrel
      have HG := Lib.hid hG
      have HZ := Lib.hid hZ
      have HO := Lib.hid hO
      have HB := Lib.hid hb
      clear hG hZ hO hb
      by_cases hxw : x < wd
      case neg =>
        obtain rfl : x = wd := by omega
        go_wp2_with fail
        exact ⟨⟨y + 1, A, n, c, by omega, rfl, HG.out, HZ.out, HO.out, HB.out, hgs⟩, by simp only [intOf]; omega⟩
      have hx1 : (x : Int) < (wd : Int) := by omega
      have hln := grid_le tell (ht := ht) hw2 (show y ≤ 4096 by omega) (show x ≤ 4096 by omega)
      have k1 : wr.drew.cell? ⟨g, 2, none⟩ = some (.slice A n c) := row_cell HG.out 2 rfl
      go_wp2_with fail
      refine Tin.reg_begin 0 10 (by rfl) (by kernel_rfl) ?_
      refine Tin.reg_quiets [0, 2, 3, 4] _ 6 rfl (by simp only [Tin.pick, List.map_cons, List.map_nil, Array.getD_eq_getD_getElem?, List.getElem?_toArray, List.getElem?_cons_zero, List.getElem?_cons_succ, Option.getD_some]; rfl) (by kernel_rfl) (by kernel_rfl) ?_
      repeat (first | go_big_quiet_step (fail))
      refine wpQuiet_nil ?_
      refine Tin.reg_two 1 5 _ _ rfl rfl (by kernel_rfl) ?_ ?_
      · try simp only [List.getElem_toArray, List.getElem_cons_succ, List.getElem_cons_zero]
        go_wp2_with fail
        refine ⟨0, Below.refl _ _, Nat.le_refl _, ?_⟩
        clear k1
        refine Tin.reg_one 5 _ rfl (by kernel_rfl) ?_
        try simp only [List.getElem_toArray, List.getElem_cons_succ, List.getElem_cons_zero]
        go_wp2_with fail
        refine (HC.out _ x y (show Below w.heap.size w wr.drew from ud' HB.out) hxw hyh).mono ?_
        rintro e w5 ⟨rfl, hb5⟩
        go_wp2_with fail
        have hG5 : w5.heap[g]? = some (.cells (plrow (wd : Int) (ht : Int) A n c) 24 (0, 0)) := (hb5.block _ (row_lt HG.out)).trans HG.out
        have hZ5 : w5.heap[w.heap.size]? = some (.cells (plrow 0 0 none 0 0) 24 (0, 0)) := (hb5.block _ (row_lt HZ.out)).trans HZ.out
        have hO5 : Own .i64 3 w5 (w.heap.size + 2) (.slice A n c) (grid tell wd y ++ lin tell y x) := (HO.out.drew).keep hb5
        have hB5 : Below w.heap.size w w5 := (ud' HB.out).trans (hb5.mono HB.out.size)
        have hgs5 : w.heap.size + 2 ≤ w5.heap.size := Nat.le_trans hgs hb5.size
        refine ⟨0, hb5.mono (Nat.zero_le _), Nat.le_refl _, ?_⟩
        have HG5 := Lib.hid hG5
        have HZ5 := Lib.hid hZ5
        have HO5 := Lib.hid hO5
        have HB5 := Lib.hid hB5
        clear hG5 hZ5 hO5 hB5 hb5
        refine Tin.reg_one 6 _ rfl (by kernel_rfl) ?_
        try simp only [List.getElem_toArray, List.getElem_cons_succ, List.getElem_cons_zero]
        go_wp2_with fail
        refine ⟨0, (ba (brefl w5) _).mono (Nat.zero_le _), Nat.le_refl _, ?_⟩
        have HS6 := Lib.hid (show Sl .i64 (w5.alloc (.cells #[.int .i64 (tell x y)] 3)) (some ⟨w5.heap.size, 0, none⟩) [tell x y] from Sl.new_ w5 _ _ _ rfl)
        have HO6 := Lib.hid (HO5.out.alloc (.cells #[.int .i64 (tell x y)] 3))
        have HG6 := Lib.hid (((ba (brefl w5) (.cells #[.int .i64 (tell x y)] 3)).block _ (row_lt HG5.out)).trans HG5.out)
        have HZ6 := Lib.hid (((ba (brefl w5) (.cells #[.int .i64 (tell x y)] 3)).block _ (row_lt HZ5.out)).trans HZ5.out)
        have HB6 := Lib.hid (ba' HB5.out (.cells #[.int .i64 (tell x y)] 3) HB5.out.size)
        have hgs6 : w.heap.size + 2 ≤ (w5.alloc (.cells #[.int .i64 (tell x y)] 3)).heap.size := by simp; omega
        generalize (w5.alloc (.cells #[.int .i64 (tell x y)] 3)) = v5 at *
        clear HG5 HZ5 HO5 HB5
        refine Tin.reg_one 7 _ rfl (by kernel_rfl) ?_
        try simp only [List.getElem_toArray, List.getElem_cons_succ, List.getElem_cons_zero]
        refine Tin.wpl_app btI _ rfl (.tmp 22) (.tmp 27) rfl (w.heap.size + 2) (.slice A n c) (grid tell wd y ++ lin tell y x) rfl HO6.out (some ⟨w5.heap.size, 0, none⟩) 1 1 [tell x y] rfl HS6.out rfl (by simp only [List.length_singleton]; omega) (by simp only [List.length_singleton]; omega) (by have := HB6.out.size; omega) ?_
        intro x6 w6 hown6 hg6 how6
        obtain ⟨A6, c6, rfl⟩ := own_form hown6
        obtain ⟨n6, hn6⟩ : ∃ n6, ((grid tell wd y ++ lin tell y x) ++ [tell x y]).length = n6 := ⟨_, rfl⟩
        rw [hn6] at hown6 how6 ⊢
        have HN6 := Lib.hid hn6
        clear hn6
        simp only [Act.put, List.setIfInBounds_toArray, List.set_cons_succ, List.set_cons_zero]
        go_wp2_with fail
        refine ⟨0, ⟨hg6.os, hg6.tape, hg6.output, hg6.size, fun i hi => absurd hi (Nat.not_lt_zero _)⟩, Nat.le_refl _, ?_⟩
        refine Tin.reg_quiets [8] _ 1 rfl (by simp only [Tin.pick, List.map_cons, List.map_nil, Array.getD_eq_getD_getElem?, List.getElem?_toArray, List.getElem?_cons_zero, List.getElem?_cons_succ, Option.getD_some]; rfl) (by kernel_rfl) (by kernel_rfl) ?_
        repeat (first | go_big_quiet_step (fail))
        refine wpQuiet_nil ?_
        have hG6 : w6.heap[g]? = some (.cells (plrow (wd : Int) (ht : Int) A n c) 24 (0, 0)) := (hg6.block g (row_lt HG6.out) (by intro h; have := (World.ownsRow.lt HO6.out g h.symm).1; have := HGG.out; omega)).trans HG6.out
        have hZ6 : w6.heap[w.heap.size]? = some (.cells (plrow 0 0 none 0 0) 24 (0, 0)) := (hg6.block w.heap.size (row_lt HZ6.out) (by intro h; have := (World.ownsRow.lt HO6.out w.heap.size h.symm).1; omega)).trans HZ6.out
        have hB6 : Below w.heap.size w w6 := HB6.out.grown hg6 (by omega) (fun q hq => by have := (World.ownsRow.lt HO6.out q hq).1; omega)
        have cc6 := row_cell hG6 2 rfl
        have f6 := frozen_of_row w6 g 2 _ _ hG6
        have HG6 := Lib.hid hG6
        have HZ6 := Lib.hid hZ6
        have HB6 := Lib.hid hB6
        clear hG6 hZ6 hB6
        refine Tin.reg_one 9 _ rfl (by kernel_rfl) ?_
        try simp only [List.getElem_toArray, List.getElem_cons_succ, List.getElem_cons_zero]
        go_wp2_with fail
        have hk6 := grown_setCells g [.slice A6 n6 c6] 2 w6 w6 (World.grownBy.refl w6 _)
        refine ⟨0, ⟨rfl, rfl, rfl, by simp [World.setCell], fun i hi => absurd hi (Nat.not_lt_zero _)⟩, Nat.le_refl _, ?_⟩
        refine Tin.reg_done (by kernel_rfl) ?_
        go_wp2_with fail
        exact ⟨⟨x + 1, A6, n6, c6, by omega, rfl, row_set HG6.out 2 _, by rw [heap_setCell_other _ _ _ _ (by have := HGG.out; show w.heap.size ≠ g; omega)]; exact HZ6.out, by rw [lin, ← List.append_assoc]; exact hown6.kept hk6 (ne_own (fun q hq => by have := (World.ownsRow.lt hown6 q hq).1; have := HGG.out; omega)), HB6.out.setCell (by have := HGG.out; show w.heap.size ≤ g; omega) _, by simp only [World.setCell]; have := hg6.size; simp; omega⟩, by simp only [intOf]; omega⟩
      · clear k1
        try simp only [List.getElem_toArray, List.getElem_cons_succ, List.getElem_cons_zero]
        go_wp2_with fail
        refine (HC.out _ x y (show Below w.heap.size w wr.drew from ud' HB.out) hxw hyh).mono ?_
        rintro e w5 ⟨rfl, hb5⟩
        go_wp2_with fail
        have hG5 : w5.heap[g]? = some (.cells (plrow (wd : Int) (ht : Int) A n c) 24 (0, 0)) := (hb5.block _ (row_lt HG.out)).trans HG.out
        have hZ5 : w5.heap[w.heap.size]? = some (.cells (plrow 0 0 none 0 0) 24 (0, 0)) := (hb5.block _ (row_lt HZ.out)).trans HZ.out
        have hO5 : Own .i64 3 w5 (w.heap.size + 2) (.slice A n c) (grid tell wd y ++ lin tell y x) := (HO.out.drew).keep hb5
        have hB5 : Below w.heap.size w w5 := (ud' HB.out).trans (hb5.mono HB.out.size)
        have hgs5 : w.heap.size + 2 ≤ w5.heap.size := Nat.le_trans hgs hb5.size
        refine ⟨0, hb5.mono (Nat.zero_le _), Nat.le_refl _, ?_⟩
        have HG5 := Lib.hid hG5
        have HZ5 := Lib.hid hZ5
        have HO5 := Lib.hid hO5
        have HB5 := Lib.hid hB5
        clear hG5 hZ5 hO5 hB5 hb5
        refine Tin.reg_two 1 6 _ _ rfl rfl (by kernel_rfl) ?_ ?_
        · have k1 : w5.cell? ⟨g, 2, none⟩ = some (.slice A n c) := row_cell HG5.out 2 rfl
          try simp only [List.getElem_toArray, List.getElem_cons_succ, List.getElem_cons_zero]
          go_wp2_with fail
          refine ⟨0, Below.refl _ _, Nat.le_refl _, ?_⟩
          clear k1
          refine Tin.reg_one 6 _ rfl (by kernel_rfl) ?_
          try simp only [List.getElem_toArray, List.getElem_cons_succ, List.getElem_cons_zero]
          go_wp2_with fail
          refine ⟨0, (ba (brefl w5) _).mono (Nat.zero_le _), Nat.le_refl _, ?_⟩
          have HS6 := Lib.hid (show Sl .i64 (w5.alloc (.cells #[.int .i64 (tell x y)] 3)) (some ⟨w5.heap.size, 0, none⟩) [tell x y] from Sl.new_ w5 _ _ _ rfl)
          have HO6 := Lib.hid (HO5.out.alloc (.cells #[.int .i64 (tell x y)] 3))
          have HG6 := Lib.hid (((ba (brefl w5) (.cells #[.int .i64 (tell x y)] 3)).block _ (row_lt HG5.out)).trans HG5.out)
          have HZ6 := Lib.hid (((ba (brefl w5) (.cells #[.int .i64 (tell x y)] 3)).block _ (row_lt HZ5.out)).trans HZ5.out)
          have HB6 := Lib.hid (ba' HB5.out (.cells #[.int .i64 (tell x y)] 3) HB5.out.size)
          have hgs6 : w.heap.size + 2 ≤ (w5.alloc (.cells #[.int .i64 (tell x y)] 3)).heap.size := by simp; omega
          generalize (w5.alloc (.cells #[.int .i64 (tell x y)] 3)) = v5 at *
          clear HG5 HZ5 HO5 HB5
          refine Tin.reg_one 7 _ rfl (by kernel_rfl) ?_
          try simp only [List.getElem_toArray, List.getElem_cons_succ, List.getElem_cons_zero]
          refine Tin.wpl_app btI _ rfl (.tmp 22) (.tmp 27) rfl (w.heap.size + 2) (.slice A n c) (grid tell wd y ++ lin tell y x) rfl HO6.out (some ⟨w5.heap.size, 0, none⟩) 1 1 [tell x y] rfl HS6.out rfl (by simp only [List.length_singleton]; omega) (by simp only [List.length_singleton]; omega) (by have := HB6.out.size; omega) ?_
          intro x6 w6 hown6 hg6 how6
          obtain ⟨A6, c6, rfl⟩ := own_form hown6
          obtain ⟨n6, hn6⟩ : ∃ n6, ((grid tell wd y ++ lin tell y x) ++ [tell x y]).length = n6 := ⟨_, rfl⟩
          rw [hn6] at hown6 how6 ⊢
          have HN6 := Lib.hid hn6
          clear hn6
          simp only [Act.put, List.setIfInBounds_toArray, List.set_cons_succ, List.set_cons_zero]
          go_wp2_with fail
          refine ⟨0, ⟨hg6.os, hg6.tape, hg6.output, hg6.size, fun i hi => absurd hi (Nat.not_lt_zero _)⟩, Nat.le_refl _, ?_⟩
          refine Tin.reg_quiets [8] _ 1 rfl (by simp only [Tin.pick, List.map_cons, List.map_nil, Array.getD_eq_getD_getElem?, List.getElem?_toArray, List.getElem?_cons_zero, List.getElem?_cons_succ, Option.getD_some]; rfl) (by kernel_rfl) (by kernel_rfl) ?_
          repeat (first | go_big_quiet_step (fail))
          refine wpQuiet_nil ?_
          have hG6 : w6.heap[g]? = some (.cells (plrow (wd : Int) (ht : Int) A n c) 24 (0, 0)) := (hg6.block g (row_lt HG6.out) (by intro h; have := (World.ownsRow.lt HO6.out g h.symm).1; have := HGG.out; omega)).trans HG6.out
          have hZ6 : w6.heap[w.heap.size]? = some (.cells (plrow 0 0 none 0 0) 24 (0, 0)) := (hg6.block w.heap.size (row_lt HZ6.out) (by intro h; have := (World.ownsRow.lt HO6.out w.heap.size h.symm).1; omega)).trans HZ6.out
          have hB6 : Below w.heap.size w w6 := HB6.out.grown hg6 (by omega) (fun q hq => by have := (World.ownsRow.lt HO6.out q hq).1; omega)
          have cc6 := row_cell hG6 2 rfl
          have f6 := frozen_of_row w6 g 2 _ _ hG6
          have HG6 := Lib.hid hG6
          have HZ6 := Lib.hid hZ6
          have HB6 := Lib.hid hB6
          clear hG6 hZ6 hB6
          refine Tin.reg_one 9 _ rfl (by kernel_rfl) ?_
          try simp only [List.getElem_toArray, List.getElem_cons_succ, List.getElem_cons_zero]
          go_wp2_with fail
          have hk6 := grown_setCells g [.slice A6 n6 c6] 2 w6 w6 (World.grownBy.refl w6 _)
          refine ⟨0, ⟨rfl, rfl, rfl, by simp [World.setCell], fun i hi => absurd hi (Nat.not_lt_zero _)⟩, Nat.le_refl _, ?_⟩
          refine Tin.reg_done (by kernel_rfl) ?_
          go_wp2_with fail
          exact ⟨⟨x + 1, A6, n6, c6, by omega, rfl, row_set HG6.out 2 _, by rw [heap_setCell_other _ _ _ _ (by have := HGG.out; show w.heap.size ≠ g; omega)]; exact HZ6.out, by rw [lin, ← List.append_assoc]; exact hown6.kept hk6 (ne_own (fun q hq => by have := (World.ownsRow.lt hown6 q hq).1; have := HGG.out; omega)), HB6.out.setCell (by have := HGG.out; show w.heap.size ≤ g; omega) _, by simp only [World.setCell]; have := hg6.size; simp; omega⟩, by simp only [intOf]; omega⟩
        · try simp only [List.getElem_toArray, List.getElem_cons_succ, List.getElem_cons_zero]
          go_wp2_with fail
          refine ⟨0, (ba (brefl w5) _).mono (Nat.zero_le _), Nat.le_refl _, ?_⟩
          have HS6 := Lib.hid (show Sl .i64 (w5.alloc (.cells #[.int .i64 (tell x y)] 3)) (some ⟨w5.heap.size, 0, none⟩) [tell x y] from Sl.new_ w5 _ _ _ rfl)
          have HO6 := Lib.hid (HO5.out.alloc (.cells #[.int .i64 (tell x y)] 3))
          have HG6 := Lib.hid (((ba (brefl w5) (.cells #[.int .i64 (tell x y)] 3)).block _ (row_lt HG5.out)).trans HG5.out)
          have HZ6 := Lib.hid (((ba (brefl w5) (.cells #[.int .i64 (tell x y)] 3)).block _ (row_lt HZ5.out)).trans HZ5.out)
          have HB6 := Lib.hid (ba' HB5.out (.cells #[.int .i64 (tell x y)] 3) HB5.out.size)
          have hgs6 : w.heap.size + 2 ≤ (w5.alloc (.cells #[.int .i64 (tell x y)] 3)).heap.size := by simp; omega
          generalize (w5.alloc (.cells #[.int .i64 (tell x y)] 3)) = v5 at *
          clear HG5 HZ5 HO5 HB5
          have k1 : v5.cell? ⟨g, 2, none⟩ = some (.slice A n c) := row_cell HG6.out 2 rfl
          refine Tin.reg_one 1 _ rfl (by kernel_rfl) ?_
          try simp only [List.getElem_toArray, List.getElem_cons_succ, List.getElem_cons_zero]
          go_wp2_with fail
          refine ⟨0, Below.refl _ _, Nat.le_refl _, ?_⟩
          clear k1
          refine Tin.reg_one 7 _ rfl (by kernel_rfl) ?_
          try simp only [List.getElem_toArray, List.getElem_cons_succ, List.getElem_cons_zero]
          refine Tin.wpl_app btI _ rfl (.tmp 22) (.tmp 27) rfl (w.heap.size + 2) (.slice A n c) (grid tell wd y ++ lin tell y x) rfl HO6.out (some ⟨w5.heap.size, 0, none⟩) 1 1 [tell x y] rfl HS6.out rfl (by simp only [List.length_singleton]; omega) (by simp only [List.length_singleton]; omega) (by have := HB6.out.size; omega) ?_
          intro x6 w6 hown6 hg6 how6
          obtain ⟨A6, c6, rfl⟩ := own_form hown6
          obtain ⟨n6, hn6⟩ : ∃ n6, ((grid tell wd y ++ lin tell y x) ++ [tell x y]).length = n6 := ⟨_, rfl⟩
          rw [hn6] at hown6 how6 ⊢
          have HN6 := Lib.hid hn6
          clear hn6
          simp only [Act.put, List.setIfInBounds_toArray, List.set_cons_succ, List.set_cons_zero]
          go_wp2_with fail
          refine ⟨0, ⟨hg6.os, hg6.tape, hg6.output, hg6.size, fun i hi => absurd hi (Nat.not_lt_zero _)⟩, Nat.le_refl _, ?_⟩
          refine Tin.reg_quiets [8] _ 1 rfl (by simp only [Tin.pick, List.map_cons, List.map_nil, Array.getD_eq_getD_getElem?, List.getElem?_toArray, List.getElem?_cons_zero, List.getElem?_cons_succ, Option.getD_some]; rfl) (by kernel_rfl) (by kernel_rfl) ?_
          repeat (first | go_big_quiet_step (fail))
          refine wpQuiet_nil ?_
          have hG6 : w6.heap[g]? = some (.cells (plrow (wd : Int) (ht : Int) A n c) 24 (0, 0)) := (hg6.block g (row_lt HG6.out) (by intro h; have := (World.ownsRow.lt HO6.out g h.symm).1; have := HGG.out; omega)).trans HG6.out
          have hZ6 : w6.heap[w.heap.size]? = some (.cells (plrow 0 0 none 0 0) 24 (0, 0)) := (hg6.block w.heap.size (row_lt HZ6.out) (by intro h; have := (World.ownsRow.lt HO6.out w.heap.size h.symm).1; omega)).trans HZ6.out
          have hB6 : Below w.heap.size w w6 := HB6.out.grown hg6 (by omega) (fun q hq => by have := (World.ownsRow.lt HO6.out q hq).1; omega)
          have cc6 := row_cell hG6 2 rfl
          have f6 := frozen_of_row w6 g 2 _ _ hG6
          have HG6 := Lib.hid hG6
          have HZ6 := Lib.hid hZ6
          have HB6 := Lib.hid hB6
          clear hG6 hZ6 hB6
          refine Tin.reg_one 9 _ rfl (by kernel_rfl) ?_
          try simp only [List.getElem_toArray, List.getElem_cons_succ, List.getElem_cons_zero]
          go_wp2_with fail
          have hk6 := grown_setCells g [.slice A6 n6 c6] 2 w6 w6 (World.grownBy.refl w6 _)
          refine ⟨0, ⟨rfl, rfl, rfl, by simp [World.setCell], fun i hi => absurd hi (Nat.not_lt_zero _)⟩, Nat.le_refl _, ?_⟩
          refine Tin.reg_done (by kernel_rfl) ?_
          go_wp2_with fail
          exact ⟨⟨x + 1, A6, n6, c6, by omega, rfl, row_set HG6.out 2 _, by rw [heap_setCell_other _ _ _ _ (by have := HGG.out; show w.heap.size ≠ g; omega)]; exact HZ6.out, by rw [lin, ← List.append_assoc]; exact hown6.kept hk6 (ne_own (fun q hq => by have := (World.ownsRow.lt hown6 q hq).1; have := HGG.out; omega)), HB6.out.setCell (by have := HGG.out; show w.heap.size ≤ g; omega) _, by simp only [World.setCell]; have := hg6.size; simp; omega⟩, by simp only [intOf]; omega⟩
end Go.Proofs.Ytajobboldjgidaa
