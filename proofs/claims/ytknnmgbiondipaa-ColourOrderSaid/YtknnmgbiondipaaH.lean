/- trial -/
import Derived.Test.YtknnmgbiondipaaG
import Derived.Deep.DeepCutAuto
namespace Go.Proofs.Ytknnmgbiondipaa
open Go.RowKit
open Go.Tin
set_option linter.unusedVariables false

set_option maxHeartbeats 2000000 in
theorem rall_paint (A : Option Addr) (c : Nat) (l : List Int) (w : World) (hr : Sl .u8 w A l) (hc : l.length ≤ c) (hl : l.length ≤ 1000000) (hb : ∀ i, 0 ≤ l.getD i 0 ∧ l.getD i 0 ≤ 255) (h3 : l.length % 3 = 0) :
    Calls Try.prog 15 #[.slice A l.length c, .bool true] w (AllPost w (threes true l (l.length / 3))) := by
  have hn3 : ((l.length : Int) % 3 != 0) = false := by simp; omega
  have H3 := Lib.hid h3
  clear h3
  go_enter Try.func15, Try.ntmps15
  go_wp2_with fail
  go_loopw [5, 6, 7] (fun out i _ wr => ∃ k : Nat, 3 * k ≤ l.length ∧ i = .int .i64 (3 * (k : Int)) ∧ Own .u8 5 wr w.heap.size out (threes true l k) ∧ Below w.heap.size w wr) (fun _ i _ _ => l.length - (intOf i).toNat)
  case atStart => exact ⟨0, by omega, rfl, Own.nil_ _ _ _ _, Below.refl _ _⟩
  case round =>
    obtain ⟨k, hk, rfl, hown, hbel⟩ := hrel
    by_cases hlt : 3 * k < l.length
    · have hm3 : 3 * k + 3 ≤ l.length := by have := H3.out; omega
      obtain ⟨b, off, rfl, hblt, hcell⟩ := (hr.keep hbel).at_ (by omega)
      have c0 := hcell (3 * k) (by omega)
      have c1 := hcell (3 * k + 1) (by omega)
      have c2 := hcell (3 * k + 2) (by omega)
      have b0 := hb (3 * k)
      have b1 := hb (3 * k + 1)
      have b2 := hb (3 * k + 2)
      have hT : threes true l (k + 1) = threes true l k ++ [paiR (l.getD (3 * k) 0) (l.getD (3 * k + 1) 0) (l.getD (3 * k + 2) 0), paiG (l.getD (3 * k) 0) (l.getD (3 * k + 1) 0) (l.getD (3 * k + 2) 0), paiB (l.getD (3 * k) 0) (l.getD (3 * k + 1) 0) (l.getD (3 * k + 2) 0)] := rfl
      have HT := Lib.hid hT
      clear hT hcell hb
      generalize l.getD (3 * k) 0 = x0 at *
      generalize l.getD (3 * k + 1) 0 = x1 at *
      generalize l.getD (3 * k + 2) 0 = x2 at *
      have bd := pai_bd x0 x1 x2
      have s1 : IntKind.i64.wrap (3 * (k : Int) + 1) = 3 * (k : Int) + 1 := IntWalk.i64_in _ (by omega)
      have s2 : IntKind.i64.wrap (3 * (k : Int) + 2) = 3 * (k : Int) + 2 := IntWalk.i64_in _ (by omega)
      have i0 : (0 : Int) ≤ 3 * (k : Int) := by omega
      have i1 : 3 * (k : Int) < (l.length : Int) := by omega
      have i2 : (0 : Int) ≤ 3 * (k : Int) + 1 := by omega
      have i3 : 3 * (k : Int) + 1 < (l.length : Int) := by omega
      have i4 : (0 : Int) ≤ 3 * (k : Int) + 2 := by omega
      have i5 : 3 * (k : Int) + 2 < (l.length : Int) := by omega
      go_upto_region 7 with (fail)
      go_cut [7] (fun s7 wx => ∃ g : Nat, s7 = .pointer (some ⟨g, 0, none⟩) ∧ wr.heap.size ≤ g ∧ g < wx.heap.size ∧ wx.frozen? ⟨g, 0, none⟩ = false ∧ wx.frozen? ⟨g, 1, none⟩ = false ∧ wx.frozen? ⟨g, 2, none⟩ = false ∧ Below wr.heap.size wr wx ∧ wx.cell? ⟨g, 0, none⟩ = some (.int .i64 (lumY x0 x1 x2)) ∧ wx.cell? ⟨g, 1, none⟩ = some (.int .i64 (lumB x0 x1 x2)) ∧ wx.cell? ⟨g, 2, none⟩ = some (.int .i64 (lumR x0 x1 x2)))
      case first =>
        refine Tin.reg_begin wr.heap.size 20 (by rfl) (by kernel_rfl) ?_
        refine Tin.reg_quiets [0, 1, 2, 3, 4, 5, 6, 7, 8, 9, 10, 11, 12, 13, 14, 15, 16] _ 3 rfl (by simp only [Tin.pick, List.map_cons, List.map_nil, Array.getD_eq_getD_getElem?, List.getElem?_toArray, List.getElem?_cons_zero, List.getElem?_cons_succ, Option.getD_some]; rfl) (by kernel_rfl) (by kernel_rfl) ?_
        have k0 : ∀ p : Tin.Bel wr.heap.size wr.drew, p.w'.cell? ⟨b, off + 3 * k, none⟩ = some (.int .u8 x0) := fun p => (p.h.cell hblt).trans c0
        have k1 : ∀ p : Tin.Bel wr.heap.size wr.drew, p.w'.cell? ⟨b, off + (3 * k + 1), none⟩ = some (.int .u8 x1) := fun p => (p.h.cell hblt).trans c1
        have k2 : ∀ p : Tin.Bel wr.heap.size wr.drew, p.w'.cell? ⟨b, off + (3 * k + 2), none⟩ = some (.int .u8 x2) := fun p => (p.h.cell hblt).trans c2
        repeat (go_big_quiet_step (fail))
        refine wpQuiet_nil ?_
        refine Tin.reg_two 17 18 _ _ rfl rfl (by kernel_rfl) ?_ ?_
        · go_wp2_with (go_at_call 10; refine (rluma_any _ _ _ _).mono ?_; rintro e w1 ⟨rfl, hb1⟩)
          have hb1' : Below wr.heap.size wr w1 := ⟨hb1.os, hb1.tape, hb1.output, hb1.size, hb1.block⟩
          refine ⟨wr.heap.size, hb1, Nat.le_refl _, ?_⟩
          refine Tin.reg_one 18 _ rfl (by kernel_rfl) ?_
          go_wp2_with fail
          refine ⟨wr.heap.size, (Below.refl _ _).alloc hb1'.size _, Nat.le_refl _, ?_⟩
          refine Tin.reg_one 19 _ rfl (by kernel_rfl) ?_
          go_wp2_with fail
          refine ⟨wr.heap.size, ⟨rfl, rfl, rfl, by simp, fun q hq => by rw [Below.heap_alloc _ _ _ (Nat.lt_of_lt_of_le hq hb1'.size), Below.heap_alloc _ _ _ (Nat.lt_of_lt_of_le hq hb1'.size)]⟩, Nat.le_refl _, ?_⟩
          refine Tin.reg_done (by kernel_rfl) ?_
          go_wp2_with fail
          go_meet
          exact ⟨w1.heap.size, rfl, hb1'.size, by simp, by simp [go_sem], by simp [go_sem], by simp [go_sem], (hb1'.alloc hb1'.size _), by simp [World.cell?_alloc_new], by simp [World.cell?_alloc_new], by simp [World.cell?_alloc_new]⟩
        · go_wp2_with fail
          refine ⟨wr.heap.size, (Tin.dl ((Below.refl _ _).alloc (Nat.le_refl _) _)).drew, Nat.le_refl _, ?_⟩
          refine Tin.reg_one 17 _ rfl (by kernel_rfl) ?_
          go_wp2_with (go_at_call 10; refine (rluma_any _ _ _ _).mono ?_; rintro e w1 ⟨rfl, hb1⟩)
          obtain ⟨hc1, hf1⟩ := Tin.bcell hb1
          have hz1 : wr.heap.size + 1 ≤ w1.heap.size := by have := hb1.size; simpa using this
          have hb1' : Below wr.heap.size (wr.alloc (Obj.cells #[Value.int IntKind.i64 0, Value.int IntKind.i64 0, Value.int IntKind.i64 0] 23)).drew w1 := hb1.mono (by simp)
          refine ⟨wr.heap.size, hb1', Nat.le_refl _, ?_⟩
          refine Tin.reg_one 19 _ rfl (by kernel_rfl) ?_
          go_wp2_with fail
          have hst : ∀ W : World, Below wr.heap.size W w1 → Below wr.heap.size W (((w1.setCell ⟨wr.heap.size, 0, none⟩ (.int .i64 (lumY x0 x1 x2))).setCell ⟨wr.heap.size, 1, none⟩ (.int .i64 (lumB x0 x1 x2))).setCell ⟨wr.heap.size, 2, none⟩ (.int .i64 (lumR x0 x1 x2))) := fun W h => ((h.setCell (Nat.le_refl _) _).setCell (Nat.le_refl _) _).setCell (Nat.le_refl _) _
          refine ⟨wr.heap.size, hst w1 (Below.refl _ _), Nat.le_refl _, ?_⟩
          refine Tin.reg_done (by kernel_rfl) ?_
          go_wp2_with fail
          go_meet
          refine ⟨wr.heap.size, rfl, Nat.le_refl _, by simp; omega, by simp [go_sem, hf1], by simp [go_sem, hf1], by simp [go_sem, hf1], hst wr ((((Below.refl _ _).alloc (Nat.le_refl _) _).drew).trans hb1'), ?_, ?_, ?_⟩
          · simp [go_sem, hc1]
          · simp [go_sem, hc1]
          · simp [go_sem, hc1]
      case rest =>
        obtain ⟨g, rfl, hg1, hg2, hfr0, hfr1, hfr2, hbx, d0, d1, d2⟩ := hcut
        go_wp2_with fail
        refine Tin.reg_begin wr.heap.size 19 (by rfl) (by kernel_rfl) ?_
        refine Tin.reg_quiets [0, 1, 2, 3, 4, 5, 6, 7, 8, 9, 10, 11, 12, 13, 14, 15, 16] _ 2 rfl (by simp only [Tin.pick, List.map_cons, List.map_nil, Array.getD_eq_getD_getElem?, List.getElem?_toArray, List.getElem?_cons_zero, List.getElem?_cons_succ, Option.getD_some]; rfl) (by kernel_rfl) (by kernel_rfl) ?_
        have k0 : ∀ p : Tin.Bel wr.heap.size wc.drew, p.w'.cell? ⟨b, off + 3 * k, none⟩ = some (.int .u8 x0) := fun p => (p.h.cell hblt).trans ((hbx.cell hblt).trans c0)
        have k1 : ∀ p : Tin.Bel wr.heap.size wc.drew, p.w'.cell? ⟨b, off + (3 * k + 1), none⟩ = some (.int .u8 x1) := fun p => (p.h.cell hblt).trans ((hbx.cell hblt).trans c1)
        have k2 : ∀ p : Tin.Bel wr.heap.size wc.drew, p.w'.cell? ⟨b, off + (3 * k + 2), none⟩ = some (.int .u8 x2) := fun p => (p.h.cell hblt).trans ((hbx.cell hblt).trans c2)
        repeat (go_big_quiet_step (fail))
        refine wpQuiet_nil ?_
        clear k0 k1 k2 s1 s2 i2 i3 i4 i5
        refine Tin.reg_one 17 _ rfl (by kernel_rfl) ?_
        go_wp2_with (go_at_call 12; refine (rpaint_any _ _ _ _).mono ?_; rintro e w1 ⟨rfl, hb1⟩)
        have e0 : w1.cell? ⟨g, 0, none⟩ = some (.int .i64 (lumY x0 x1 x2)) := (hb1.cell (p := ⟨g, 0, none⟩) hg2).trans d0
        have e1 : w1.cell? ⟨g, 1, none⟩ = some (.int .i64 (lumB x0 x1 x2)) := (hb1.cell (p := ⟨g, 1, none⟩) hg2).trans d1
        have e2 : w1.cell? ⟨g, 2, none⟩ = some (.int .i64 (lumR x0 x1 x2)) := (hb1.cell (p := ⟨g, 2, none⟩) hg2).trans d2
        have f0 : w1.frozen? ⟨g, 0, none⟩ = false := (hb1.frozen (p := ⟨g, 0, none⟩) hg2).trans hfr0
        have f1 : w1.frozen? ⟨g, 1, none⟩ = false := (hb1.frozen (p := ⟨g, 1, none⟩) hg2).trans hfr1
        have f2 : w1.frozen? ⟨g, 2, none⟩ = false := (hb1.frozen (p := ⟨g, 2, none⟩) hg2).trans hfr2
        have hb1' : Below wr.heap.size wr w1 := ⟨(hbx.trans (Below.mono (B := wc.heap.size) ⟨hb1.os, hb1.tape, hb1.output, hb1.size, hb1.block⟩ hbx.size)).os, (hbx.trans (Below.mono (B := wc.heap.size) ⟨hb1.os, hb1.tape, hb1.output, hb1.size, hb1.block⟩ hbx.size)).tape, (hbx.trans (Below.mono (B := wc.heap.size) ⟨hb1.os, hb1.tape, hb1.output, hb1.size, hb1.block⟩ hbx.size)).output, (hbx.trans (Below.mono (B := wc.heap.size) ⟨hb1.os, hb1.tape, hb1.output, hb1.size, hb1.block⟩ hbx.size)).size, (hbx.trans (Below.mono (B := wc.heap.size) ⟨hb1.os, hb1.tape, hb1.output, hb1.size, hb1.block⟩ hbx.size)).block⟩
        refine ⟨wr.heap.size, hb1.mono hbx.size, Nat.le_refl _, ?_⟩
        clear c0 c1 c2 d0 d1 d2 hfr0 hfr1 hfr2
        refine Tin.reg_one 18 _ rfl (by kernel_rfl) ?_
        go_wp2_with fail
        have hst : ∀ W : World, Below wr.heap.size W w1 → Below wr.heap.size W (((w1.setCell ⟨g, 0, none⟩ (.int .i64 (paiR x0 x1 x2))).setCell ⟨g, 1, none⟩ (.int .i64 (paiG x0 x1 x2))).setCell ⟨g, 2, none⟩ (.int .i64 (paiB x0 x1 x2))) := fun W h => ((h.setCell hg1 _).setCell hg1 _).setCell hg1 _
        refine ⟨wr.heap.size, hst w1 (Below.refl _ _), Nat.le_refl _, ?_⟩
        refine Tin.reg_done (by kernel_rfl) ?_
        have hbz := hst wr hb1'
        clear hst
        generalize hwd : ((w1.setCell ⟨g, 0, none⟩ (.int .i64 (paiR x0 x1 x2))).setCell ⟨g, 1, none⟩ (.int .i64 (paiG x0 x1 x2))).setCell ⟨g, 2, none⟩ (.int .i64 (paiB x0 x1 x2)) = w3 at *
        have q0 : w3.cell? ⟨g, 0, none⟩ = some (.int .i64 (paiR x0 x1 x2)) := by rw [← hwd]; simp [go_sem, e0]
        have q1 : w3.cell? ⟨g, 1, none⟩ = some (.int .i64 (paiG x0 x1 x2)) := by rw [← hwd]; simp [go_sem, e1]
        have q2 : w3.cell? ⟨g, 2, none⟩ = some (.int .i64 (paiB x0 x1 x2)) := by rw [← hwd]; simp [go_sem, e2]
        clear hwd e0 e1 e2 f0 f1 f2 hb1 hb1'
        have hown1 : Own .u8 5 w3 w.heap.size u5 (threes true l k) := hown.keep hbz
        have hbel1 : Below w.heap.size w w3 := hbel.trans (hbz.mono hbel.size)
        go_wp2_with (at_builtin; go_loud (refine Tin.wpl_app bt _ rfl _ _ rfl w.heap.size u5 (threes true l k) rfl (hown1.alloc _) (some ⟨w3.heap.size, 0, none⟩) 3 3 [paiR x0 x1 x2, paiG x0 x1 x2, paiB x0 x1 x2] rfl (Sl.new_ _ _ _ _ rfl) rfl (by rw [threes_len]; simp; omega) (by rw [threes_len]; simp; omega) (by simp; have := hbel1.size; omega) ?_); intro v2 w2 hown2 hg2 _)
        go_roundw
        case rel => exact ⟨k + 1, by omega, by go_num, by rw [HT.out]; exact hown2, Own.grown (hown1.alloc _) (hbel1.alloc hbel1.size _) (by simp; have := hbel1.size; omega) hg2⟩
        case measure => simp [intOf]; omega
    · have hE : 3 * k = l.length := by omega
      have hk' : l.length / 3 = k := by omega
      have HE := Lib.hid hk'
      clear hE hk' hb
      go_wp2_with fail
      go_ret
      exact ⟨_, rfl, by rw [HE.out]; exact hown, hbel⟩
end Go.Proofs.Ytknnmgbiondipaa
