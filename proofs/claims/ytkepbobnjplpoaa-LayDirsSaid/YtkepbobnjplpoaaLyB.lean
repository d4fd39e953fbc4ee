/- The contracts of the planner. -/
import Derived.Test.YtkepbobnjplpoaaLyA
namespace Go.Proofs.Ytkepbobnjplpoaa
open Go.RowKit
open Go.Tin
set_option linter.unusedVariables false
set_option linter.unusedSimpArgs false


theorem rtPl : RT Try.prog 69 3 := RT.of Try.underlying69 rfl (by kernel_rfl)
theorem rtSp : RT Try.prog 53 5 := RT.of Try.underlying53 rfl (by kernel_rfl)
theorem svSp : SV Try.prog 28 53 5 40 := SV.of Try.underlying28 (by kernel_rfl) (by decide)
theorem own_types {e e' : TypeId} {sz sz' B B' n n' : Nat} {w : World} {v v' : Value} {xs xs' : List Value} (h : OwnV e sz w B v n xs) (h' : OwnV e' sz' w B' v' n' xs') (hne : e ≠ e') : v.ownBlock = none ∨ v.ownBlock ≠ v'.ownBlock := by
  rcases h.2 with ⟨rfl, _⟩ | ⟨g, cap, cur, rfl, _, hh, _⟩
  · exact .inl rfl
  rcases h'.2 with ⟨rfl, _⟩ | ⟨g', cap', cur', rfl, _, hh', _⟩
  · exact .inr nofun
  refine .inr fun he => ?_
  have he : g = g' := Option.some.inj he
  subst he
  rw [hh] at hh'
  injection hh' with hh'
  injection hh' with _ ht
  exact hne ht
theorem own_row_types {e e' : TypeId} {sz B n g : Nat} {w : World} {v : Value} {xs : List Value} {cs : Array Value} {k : Nat × Nat} (h : OwnV e sz w B v n xs) (h' : w.heap[g]? = some (.cells cs e' k)) (hne : e ≠ e') : v.ownBlock = none ∨ v.ownBlock ≠ some g := by
  rcases h.2 with ⟨rfl, _⟩ | ⟨g', cap, cur, rfl, _, hh, _⟩
  · exact .inl rfl
  refine .inr fun he => ?_
  have he : g' = g := Option.some.inj he
  subst he
  rw [hh] at h'
  injection h' with hh'
  injection hh' with _ ht
  exact hne ht
theorem gr_row {w w' : World} {g : Nat} {r : Option Nat} {o : Obj} (hr : w.heap[g]? = some o) (hg : w.grownBy w' r) (hne : r = none ∨ r ≠ some g) : w'.heap[g]? = some o := by
  refine (hg.block g (row_lt hr) fun e => ?_).trans hr
  rcases hne with h | h
  · rw [h] at e; cases e
  · exact h e.symm
theorem grown_below {B : Nat} {w0 w w' : World} {r : Option Nat} (hb : Below B w0 w) (hg : w.grownBy w' r) (hs : B ≤ w.heap.size) (hr : ∀ k, r = some k → B ≤ k) : Below B w0 w' := hb.grown hg hs hr
theorem bl_drew {B : Nat} {w0 w : World} (h : Below B w0 w) : Below B w0 w.drew := ⟨h.os, h.tape, h.output, h.size, h.block⟩
theorem gr_set (w : World) (g i : Nat) (v : Value) : w.grownBy (w.setCell ⟨g, i, none⟩ v) (some g) :=
  ⟨rfl, rfl, rfl, by simp [World.setCell], fun q hq hne => heap_setCell_other _ _ _ _ (show q ≠ g from fun e => hne (by rw [e]))⟩
/-- Blocks that are neither the planner nor spots lie as they lay. -/
def Nsp (g : Nat) (w w' : World) : Prop := ∀ k o, w.heap[k]? = some o → k ≠ g → (∀ cs q, o ≠ .cells cs 53 q) → w'.heap[k]? = some o
theorem Nsp.refl (g : Nat) (w : World) : Nsp g w w := fun _ _ h _ _ => h
theorem Nsp.trans {g : Nat} {a b c : World} (h : Nsp g a b) (h' : Nsp g b c) : Nsp g a c := fun k o h1 h2 h3 => h' k o (h k o h1 h2 h3) h2 h3
theorem Nsp.of_bel {g : Nat} {w w' : World} (h : Below w.heap.size w w') : Nsp g w w' := fun k o h1 _ _ => (h.block k (row_lt h1)).trans h1
theorem Nsp.of_g {g : Nat} {w w' : World} (h : w.grownBy w' (some g)) : Nsp g w w' := fun k o h1 h2 _ => (h.block k (row_lt h1) (fun e => h2 (Option.some.inj e))).trans h1
theorem Nsp.of_own {g B n sz : Nat} {w w' : World} {v : Value} {xs : List Value} (ho : OwnV 53 sz w B v n xs) (h : w.grownBy w' v.ownBlock) : Nsp g w w' := fun k o h1 _ h3 => by
  refine (h.block k (row_lt h1) fun e => ?_).trans h1
  rcases ho.2 with ⟨rfl, _⟩ | ⟨q, cap, cur, rfl, _, hh, _⟩
  · cases e
  · have e : k = q := Option.some.inj e
    subst e
    rw [h1] at hh
    injection hh with hh
    exact h3 _ _ hh
theorem Nsp.row {g k : Nat} {w w' : World} {cs : Array Value} {t : TypeId} (h : Nsp g w w') (hr : w.heap[k]? = some (.cells cs t (0, 0))) (hk : k ≠ g) (ht : t ≠ 53) : w'.heap[k]? = some (.cells cs t (0, 0)) := h k _ hr hk fun cs' q e => by injection e with _ e; exact ht e
/-- The planner in memory: the end, the next number, the spots. -/
structure Pl (B : Nat) (w : World) (g : Nat) (l : List Sp) (no : Int) : Prop where
  low : B ≤ g
  at_ : ∃ A c, w.heap[g]? = some (.cells #[.int .i64 (endL l), .int .i64 no, .slice A l.length c] 69 (0, 0)) ∧ OwnV 53 5 w B (.slice A l.length c) l.length (spsC l)
theorem Pl.lt {B : Nat} {w : World} {g : Nat} {l : List Sp} {no : Int} (h : Pl B w g l no) : B < w.heap.size := by
  obtain ⟨A, c, h1, _⟩ := h.at_
  have := row_lt h1
  have := h.low
  omega
theorem Pl.keep {B : Nat} {w w' : World} {g : Nat} {l : List Sp} {no : Int} (h : Pl B w g l no) (hb : Below w.heap.size w w') : Pl B w' g l no := by
  obtain ⟨A, c, h1, h2⟩ := h.at_
  exact ⟨h.low, A, c, (hb.block _ (row_lt h1)).trans h1, h2.keep hb⟩
theorem take_any (g : Nat) (n long : Int) (x y : Value) (w : World) (hg : w.heap[g]? = some (.cells #[.int .i64 n, x, y] 69 (0, 0))) (h0 : 0 ≤ n) (h1 : n ≤ 1000000000000000) (h2 : 0 ≤ long) (h3 : long ≤ 1000000000000000) :
    Calls Try.prog 53 #[.pointer (some ⟨g, 0, none⟩), .int .i64 long] w fun e w' => e = .returned (.int .i64 (evenN n)) ∧ w'.heap[g]? = some (.cells #[.int .i64 (evenN n + long), x, y] 69 (0, 0)) ∧ w.grownBy w' (some g) ∧ w'.heap.size = w.heap.size := by
  have k0 := row_cell (v := .int .i64 n) hg 0 rfl
  have y0 := frozen_of_row w g 0 _ _ hg
  have HR := Lib.hid hg
  have he := evenN_bd n
  have HV := Lib.hid (fun W => even_any n W (by omega) (by omega))
  generalize evenN n = E at *
  clear hg
  go_enter Try.func53, Try.ntmps53
  go_wp2_with fail
  refine (HV.out _).mono ?_
  rintro e w' ⟨rfl, rfl⟩
  go_wp2_with fail
  go_ret
  exact ⟨rfl, row_set HR.out 0 _, gr_set _ _ _ _, by simp [World.setCell]⟩
set_option maxRecDepth 100000 in
set_option maxHeartbeats 4000000 in
theorem put_any (B g : Nat) (l : List Sp) (no what dir tag long : Int) (w : World) (h : Pl B w g l no) (he0 : 0 ≤ endL l) (he1 : endL l ≤ 100000000000000) (hl0 : 0 ≤ long) (hl1 : long ≤ 100000000000000) (hl : l.length ≤ 1000000000) :
    Calls Try.prog 31 #[.pointer (some ⟨g, 0, none⟩), .int .i64 what, .int .i64 dir, .int .i64 tag, .int .i64 long] w fun e w' => e = .returned (.tuple #[]) ∧ Pl B w' g (wth l what dir tag long) no ∧ Below B w w' ∧ Nsp g w w' := by
  have hlt := h.lt
  have HLOW := Lib.hid h.low
  obtain ⟨A, c, hrow, how⟩ := h.at_
  have HR := Lib.hid hrow
  have HO := Lib.hid how
  clear hrow how h
  have HSP := Lib.hid (show wth l what dir tag long = l ++ [⟨what, dir, tag, evenN (endL l), long⟩] from rfl)
  have HEN := Lib.hid (endL_wth l what dir tag long)
  have hev := evenN_bd (endL l)
  have HT := Lib.hid (fun (W : World) hg => take_any g (endL l) long (.int .i64 no) (.slice A l.length c) W hg he0 (by omega) hl0 (by omega))
  have HLEN := Lib.hid (show (wth l what dir tag long).length = l.length + 1 from wth_len _ _ _ _ _)
  have HC := Lib.hid (show spsC (wth l what dir tag long) = spsC l ++ spC ⟨what, dir, tag, evenN (endL l), long⟩ by unfold wth; rw [spsC_app]; simp [spsC])
  generalize endL l = E at *
  generalize hE : evenN E = E' at *
  clear hE
  generalize spsC l = XS at *
  generalize hN : l.length = N at *
  clear hN
  have HB := Lib.hid (Below.refl B w)
  have HN := Lib.hid (Nsp.refl g w)
  go_enter Try.func31, Try.ntmps31
  refine Tin.reg_begin B 20 (by rfl) (by kernel_rfl) ?_
  replace HB := Lib.hid (bl_drew HB.out)
  replace HN := Lib.hid (show Nsp g w w.drew from HN.out)
  replace HR := Lib.hid (show w.drew.heap[g]? = _ from HR.out)
  replace HO := Lib.hid HO.out.drew
  have hs0 : B ≤ w.drew.heap.size := Nat.le_of_lt hlt
  generalize w.drew = v0 at *
  refine Tin.reg_quiets [0, 1, 2, 3, 5, 6, 7, 8, 9, 10, 11, 13] _ 8 rfl (by simp only [Tin.pick, List.map_cons, List.map_nil, Array.getD_eq_getD_getElem?, List.getElem?_toArray, List.getElem?_cons_zero, List.getElem?_cons_succ, Option.getD_some]; rfl) (by kernel_rfl) (by kernel_rfl) ?_
  repeat (first | go_big_quiet_step (fail))
  refine wpQuiet_nil ?_
  have SZ : B ≤ v0.heap.size := hs0
  clear hs0
  refine Tin.reg_two 4 12 _ _ rfl rfl (by kernel_rfl) ?_ ?_
  · try simp only [List.getElem_toArray, List.getElem_cons_succ, List.getElem_cons_zero]
    have k2 := row_cell (v := .slice A N c) HR.out 2 rfl
    go_wp2_with fail
    refine ⟨B, Below.refl _ _, Nat.le_refl _, ?_⟩
    clear k2
    refine Tin.reg_one 12 _ rfl (by kernel_rfl) ?_
    try simp only [List.getElem_toArray, List.getElem_cons_succ, List.getElem_cons_zero]
    go_wp2_with fail
    refine (HT.out _ HR.out).mono ?_
    rintro e v1 ⟨rfl, hr1, hg1, hs1'⟩
    go_wp2_with fail
    have hb1 := grown_below (Below.refl B v0) hg1 SZ (fun k hk => by cases hk; exact HLOW.out)
    refine ⟨B, hb1, Nat.le_refl _, ?_⟩
    replace HO := Lib.hid (HO.out.kept hg1 (own_row_types HO.out HR.out (by decide)))
    replace HR := Lib.hid hr1
    replace HB := Lib.hid (HB.out.trans hb1)
    replace HN := Lib.hid (HN.out.trans (Nsp.of_g hg1))
    replace SZ := Nat.le_trans SZ hg1.size
    clear hb1 hg1 hr1 hs1'
    refine Tin.reg_quiets [14] _ 5 rfl (by simp only [Tin.pick, List.map_cons, List.map_nil, Array.getD_eq_getD_getElem?, List.getElem?_toArray, List.getElem?_cons_zero, List.getElem?_cons_succ, Option.getD_some]; rfl) (by kernel_rfl) (by kernel_rfl) ?_
    repeat (first | go_big_quiet_step (fail))
    refine wpQuiet_nil ?_
    refine Tin.reg_one 15 _ rfl (by kernel_rfl) ?_
    try simp only [List.getElem_toArray, List.getElem_cons_succ, List.getElem_cons_zero]
    go_wp2_with fail
    have hb := ba (brefl v1) (.cells #[.int .i64 what, .int .i64 dir, .int .i64 tag, .int .i64 E', .int .i64 long] 53)
    have SN := Lib.hid (SlV.new_ v1 53 #[.int .i64 what, .int .i64 dir, .int .i64 tag, .int .i64 E', .int .i64 long])
    refine ⟨B, hb.mono SZ, Nat.le_refl _, ?_⟩
    replace HR := Lib.hid ((hb.block _ (row_lt HR.out)).trans HR.out)
    replace HO := Lib.hid (HO.out.keep hb)
    replace HB := Lib.hid (HB.out.trans (hb.mono SZ))
    replace HN := Lib.hid (HN.out.trans (Nsp.of_bel hb))
    replace SZ := Nat.le_trans SZ hb.size
    clear hb
    generalize v1.alloc (.cells #[.int .i64 what, .int .i64 dir, .int .i64 tag, .int .i64 E', .int .i64 long] 53) = v2 at *
    refine Tin.reg_one 16 _ rfl (by kernel_rfl) ?_
    try simp only [List.getElem_toArray, List.getElem_cons_succ, List.getElem_cons_zero]
    refine Tin.wplv_app svSp _ rfl (.tmp 14) (.tmp 25) rfl B (.slice A N c) N XS rfl HO.out (some ⟨v1.heap.size, 0, none⟩) 1 1 [.int .i64 what, .int .i64 dir, .int .i64 tag, .int .i64 E', .int .i64 long] rfl rfl SN.out (by simp [Value.oneCell']) (by omega) (by omega) SZ ?_
    intro A4 c4 v3 ho4 hg4 how4
    go_wp2_with fail
    have hb4 := grown_below (Below.refl B v2) hg4 SZ (fun k hk => (World.ownsRow.lt HO.out k hk).1)
    refine ⟨B, hb4, Nat.le_refl _, ?_⟩
    have HR4 := Lib.hid (gr_row HR.out hg4 (own_row_types HO.out HR.out (by decide)))
    have HO4 := Lib.hid ho4
    replace HB := Lib.hid (HB.out.trans hb4)
    replace HN := Lib.hid (HN.out.trans (Nsp.of_own HO.out hg4))
    replace SZ := Nat.le_trans SZ hg4.size
    clear ho4 hg4 hb4 how4
    refine Tin.reg_quiets [17, 18] _ 1 rfl (by simp only [Tin.pick, List.map_cons, List.map_nil, Array.getD_eq_getD_getElem?, List.getElem?_toArray, List.getElem?_cons_zero, List.getElem?_cons_succ, Option.getD_some]; rfl) (by kernel_rfl) (by kernel_rfl) ?_
    repeat (first | go_big_quiet_step (fail))
    refine wpQuiet_nil ?_
    refine Tin.reg_one 19 _ rfl (by kernel_rfl) ?_
    try simp only [List.getElem_toArray, List.getElem_cons_succ, List.getElem_cons_zero]
    have k2 := row_cell (v := .slice A N c) HR4.out 2 rfl
    have y2 := frozen_of_row v3 g 2 _ _ HR4.out
    go_wp2_with fail
    have hg5 := gr_set v3 g 2 (.slice A4 (N + 1) c4)
    have hr5 := row_set HR4.out 2 (.slice A4 (N + 1) c4)
    have hb5 := grown_below (Below.refl B v3) hg5 SZ (fun k hk => by cases hk; exact HLOW.out)
    refine ⟨B, hb5, Nat.le_refl _, ?_⟩
    have ho5 := HO4.out.kept hg5 (own_row_types HO4.out HR4.out (by decide))
    replace HB := Lib.hid (HB.out.trans hb5)
    replace HN := Lib.hid (HN.out.trans (Nsp.of_g hg5))
    clear k2 y2 hg5 hb5
    generalize v3.setCell ⟨g, 2, none⟩ (.slice A4 (N + 1) c4) = v4 at *
    refine Tin.reg_done (by kernel_rfl) ?_
    go_end0
    refine ⟨rfl, ⟨HLOW.out, A4, c4, ?_, ?_⟩, HB.out, HN.out⟩
    · rw [HEN.out, HLEN.out]; exact hr5
    · rw [HLEN.out, HC.out]; exact ho5
  · try simp only [List.getElem_toArray, List.getElem_cons_succ, List.getElem_cons_zero]
    go_wp2_with fail
    refine (HT.out _ HR.out).mono ?_
    rintro e v1 ⟨rfl, hr1, hg1, hs1'⟩
    go_wp2_with fail
    have hb1 := grown_below (Below.refl B v0) hg1 SZ (fun k hk => by cases hk; exact HLOW.out)
    refine ⟨B, hb1, Nat.le_refl _, ?_⟩
    replace HO := Lib.hid (HO.out.kept hg1 (own_row_types HO.out HR.out (by decide)))
    replace HR := Lib.hid hr1
    replace HB := Lib.hid (HB.out.trans hb1)
    replace HN := Lib.hid (HN.out.trans (Nsp.of_g hg1))
    replace SZ := Nat.le_trans SZ hg1.size
    clear hb1 hg1 hr1 hs1'
    refine Tin.reg_quiets [14] _ 6 rfl (by simp only [Tin.pick, List.map_cons, List.map_nil, Array.getD_eq_getD_getElem?, List.getElem?_toArray, List.getElem?_cons_zero, List.getElem?_cons_succ, Option.getD_some]; rfl) (by kernel_rfl) (by kernel_rfl) ?_
    repeat (first | go_big_quiet_step (fail))
    refine wpQuiet_nil ?_
    refine Tin.reg_two 4 15 _ _ rfl rfl (by kernel_rfl) ?_ ?_
    · try simp only [List.getElem_toArray, List.getElem_cons_succ, List.getElem_cons_zero]
      have k2 := row_cell (v := .slice A N c) HR.out 2 rfl
      go_wp2_with fail
      refine ⟨B, Below.refl _ _, Nat.le_refl _, ?_⟩
      clear k2
      refine Tin.reg_one 15 _ rfl (by kernel_rfl) ?_
      try simp only [List.getElem_toArray, List.getElem_cons_succ, List.getElem_cons_zero]
      go_wp2_with fail
      have hb := ba (brefl v1) (.cells #[.int .i64 what, .int .i64 dir, .int .i64 tag, .int .i64 E', .int .i64 long] 53)
      have SN := Lib.hid (SlV.new_ v1 53 #[.int .i64 what, .int .i64 dir, .int .i64 tag, .int .i64 E', .int .i64 long])
      refine ⟨B, hb.mono SZ, Nat.le_refl _, ?_⟩
      replace HR := Lib.hid ((hb.block _ (row_lt HR.out)).trans HR.out)
      replace HO := Lib.hid (HO.out.keep hb)
      replace HB := Lib.hid (HB.out.trans (hb.mono SZ))
      replace HN := Lib.hid (HN.out.trans (Nsp.of_bel hb))
      replace SZ := Nat.le_trans SZ hb.size
      clear hb
      generalize v1.alloc (.cells #[.int .i64 what, .int .i64 dir, .int .i64 tag, .int .i64 E', .int .i64 long] 53) = v2 at *
      refine Tin.reg_one 16 _ rfl (by kernel_rfl) ?_
      try simp only [List.getElem_toArray, List.getElem_cons_succ, List.getElem_cons_zero]
      refine Tin.wplv_app svSp _ rfl (.tmp 14) (.tmp 25) rfl B (.slice A N c) N XS rfl HO.out (some ⟨v1.heap.size, 0, none⟩) 1 1 [.int .i64 what, .int .i64 dir, .int .i64 tag, .int .i64 E', .int .i64 long] rfl rfl SN.out (by simp [Value.oneCell']) (by omega) (by omega) SZ ?_
      intro A4 c4 v3 ho4 hg4 how4
      go_wp2_with fail
      have hb4 := grown_below (Below.refl B v2) hg4 SZ (fun k hk => (World.ownsRow.lt HO.out k hk).1)
      refine ⟨B, hb4, Nat.le_refl _, ?_⟩
      have HR4 := Lib.hid (gr_row HR.out hg4 (own_row_types HO.out HR.out (by decide)))
      have HO4 := Lib.hid ho4
      replace HB := Lib.hid (HB.out.trans hb4)
      replace HN := Lib.hid (HN.out.trans (Nsp.of_own HO.out hg4))
      replace SZ := Nat.le_trans SZ hg4.size
      clear ho4 hg4 hb4 how4
      refine Tin.reg_quiets [17, 18] _ 1 rfl (by simp only [Tin.pick, List.map_cons, List.map_nil, Array.getD_eq_getD_getElem?, List.getElem?_toArray, List.getElem?_cons_zero, List.getElem?_cons_succ, Option.getD_some]; rfl) (by kernel_rfl) (by kernel_rfl) ?_
      repeat (first | go_big_quiet_step (fail))
      refine wpQuiet_nil ?_
      refine Tin.reg_one 19 _ rfl (by kernel_rfl) ?_
      try simp only [List.getElem_toArray, List.getElem_cons_succ, List.getElem_cons_zero]
      have k2 := row_cell (v := .slice A N c) HR4.out 2 rfl
      have y2 := frozen_of_row v3 g 2 _ _ HR4.out
      go_wp2_with fail
      have hg5 := gr_set v3 g 2 (.slice A4 (N + 1) c4)
      have hr5 := row_set HR4.out 2 (.slice A4 (N + 1) c4)
      have hb5 := grown_below (Below.refl B v3) hg5 SZ (fun k hk => by cases hk; exact HLOW.out)
      refine ⟨B, hb5, Nat.le_refl _, ?_⟩
      have ho5 := HO4.out.kept hg5 (own_row_types HO4.out HR4.out (by decide))
      replace HB := Lib.hid (HB.out.trans hb5)
      replace HN := Lib.hid (HN.out.trans (Nsp.of_g hg5))
      clear k2 y2 hg5 hb5
      generalize v3.setCell ⟨g, 2, none⟩ (.slice A4 (N + 1) c4) = v4 at *
      refine Tin.reg_done (by kernel_rfl) ?_
      go_end0
      refine ⟨rfl, ⟨HLOW.out, A4, c4, ?_, ?_⟩, HB.out, HN.out⟩
      · rw [HEN.out, HLEN.out]; exact hr5
      · rw [HLEN.out, HC.out]; exact ho5
    · try simp only [List.getElem_toArray, List.getElem_cons_succ, List.getElem_cons_zero]
      go_wp2_with fail
      have hb := ba (brefl v1) (.cells #[.int .i64 what, .int .i64 dir, .int .i64 tag, .int .i64 E', .int .i64 long] 53)
      have SN := Lib.hid (SlV.new_ v1 53 #[.int .i64 what, .int .i64 dir, .int .i64 tag, .int .i64 E', .int .i64 long])
      refine ⟨B, hb.mono SZ, Nat.le_refl _, ?_⟩
      replace HR := Lib.hid ((hb.block _ (row_lt HR.out)).trans HR.out)
      replace HO := Lib.hid (HO.out.keep hb)
      replace HB := Lib.hid (HB.out.trans (hb.mono SZ))
      replace HN := Lib.hid (HN.out.trans (Nsp.of_bel hb))
      replace SZ := Nat.le_trans SZ hb.size
      clear hb
      generalize v1.alloc (.cells #[.int .i64 what, .int .i64 dir, .int .i64 tag, .int .i64 E', .int .i64 long] 53) = v2 at *
      refine Tin.reg_one 4 _ rfl (by kernel_rfl) ?_
      try simp only [List.getElem_toArray, List.getElem_cons_succ, List.getElem_cons_zero]
      have k2 := row_cell (v := .slice A N c) HR.out 2 rfl
      go_wp2_with fail
      refine ⟨B, Below.refl _ _, Nat.le_refl _, ?_⟩
      clear k2
      refine Tin.reg_one 16 _ rfl (by kernel_rfl) ?_
      try simp only [List.getElem_toArray, List.getElem_cons_succ, List.getElem_cons_zero]
      refine Tin.wplv_app svSp _ rfl (.tmp 14) (.tmp 25) rfl B (.slice A N c) N XS rfl HO.out (some ⟨v1.heap.size, 0, none⟩) 1 1 [.int .i64 what, .int .i64 dir, .int .i64 tag, .int .i64 E', .int .i64 long] rfl rfl SN.out (by simp [Value.oneCell']) (by omega) (by omega) SZ ?_
      intro A4 c4 v3 ho4 hg4 how4
      go_wp2_with fail
      have hb4 := grown_below (Below.refl B v2) hg4 SZ (fun k hk => (World.ownsRow.lt HO.out k hk).1)
      refine ⟨B, hb4, Nat.le_refl _, ?_⟩
      have HR4 := Lib.hid (gr_row HR.out hg4 (own_row_types HO.out HR.out (by decide)))
      have HO4 := Lib.hid ho4
      replace HB := Lib.hid (HB.out.trans hb4)
      replace HN := Lib.hid (HN.out.trans (Nsp.of_own HO.out hg4))
      replace SZ := Nat.le_trans SZ hg4.size
      clear ho4 hg4 hb4 how4
      refine Tin.reg_quiets [17, 18] _ 1 rfl (by simp only [Tin.pick, List.map_cons, List.map_nil, Array.getD_eq_getD_getElem?, List.getElem?_toArray, List.getElem?_cons_zero, List.getElem?_cons_succ, Option.getD_some]; rfl) (by kernel_rfl) (by kernel_rfl) ?_
      repeat (first | go_big_quiet_step (fail))
      refine wpQuiet_nil ?_
      refine Tin.reg_one 19 _ rfl (by kernel_rfl) ?_
      try simp only [List.getElem_toArray, List.getElem_cons_succ, List.getElem_cons_zero]
      have k2 := row_cell (v := .slice A N c) HR4.out 2 rfl
      have y2 := frozen_of_row v3 g 2 _ _ HR4.out
      go_wp2_with fail
      have hg5 := gr_set v3 g 2 (.slice A4 (N + 1) c4)
      have hr5 := row_set HR4.out 2 (.slice A4 (N + 1) c4)
      have hb5 := grown_below (Below.refl B v3) hg5 SZ (fun k hk => by cases hk; exact HLOW.out)
      refine ⟨B, hb5, Nat.le_refl _, ?_⟩
      have ho5 := HO4.out.kept hg5 (own_row_types HO4.out HR4.out (by decide))
      replace HB := Lib.hid (HB.out.trans hb5)
      replace HN := Lib.hid (HN.out.trans (Nsp.of_g hg5))
      clear k2 y2 hg5 hb5
      generalize v3.setCell ⟨g, 2, none⟩ (.slice A4 (N + 1) c4) = v4 at *
      refine Tin.reg_done (by kernel_rfl) ?_
      go_end0
      refine ⟨rfl, ⟨HLOW.out, A4, c4, ?_, ?_⟩, HB.out, HN.out⟩
      · rw [HEN.out, HLEN.out]; exact hr5
      · rw [HLEN.out, HC.out]; exact ho5
end Go.Proofs.Ytkepbobnjplpoaa
