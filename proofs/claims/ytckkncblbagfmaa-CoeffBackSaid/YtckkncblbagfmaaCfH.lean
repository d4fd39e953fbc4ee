/- The contract of put: a number that may be told. -/
import Derived.Test.YtckkncblbagfmaaCfG
import Derived.Test.YtckkncblbagfmaaStv
namespace Go.Proofs.Ytckkncblbagfmaa
open Go.RowKit
open Go.Tin
set_option linter.unusedVariables false
set_option linter.unusedSimpArgs false


theorem CS.grow {w w4 : World} {B g : Nat} {A A4 : Option Addr} {n c c4 : Nat} {zs : List Int} {z : Nat} {wr : Bool} (h : CS w B g A n c zs z wr) (x : List Int) (ho : OwnV 45 4 w4 B (.slice A4 (n + 1) c4) (n + 1) (iv zs ++ iv x)) (hg : w.grownBy w4 (Value.slice A n c).ownBlock)
    (how : (Value.slice A4 (n + 1) c4).ownBlock = (Value.slice A n c).ownBlock ∨ ∃ q, (Value.slice A4 (n + 1) c4).ownBlock = some q ∧ w.heap.size ≤ q) (hn : n + 1 ≤ 1000) :
    CS (w4.setCell ⟨g, 0, none⟩ (.slice A4 (n + 1) c4)) B g A4 (n + 1) c4 (zs ++ x) z wr ∧ Fr w (w4.setCell ⟨g, 0, none⟩ (.slice A4 (n + 1) c4)) g (ob A) ∧ How w A A4 := by
  rw [ob_eq, ob_eq] at how
  rw [ob_eq] at hg
  have hlt := row_lt h.row
  have hrow : w4.heap[g]? = some (.cells #[.slice A n c, .int .i64 (z : Int), .bool wr] 50 (0, 0)) := (hg.block g hlt (fun e => h.ne e.symm)).trans h.row
  have hne : ob A4 ≠ some g := by
    rcases how with e | ⟨q, e, hq⟩
    · rw [e]; exact h.ne
    · rw [e]; intro e'; injection e' with e'; omega
  refine ⟨⟨(row_set hrow 0 _).trans rfl, ?_, hne, h.zl, hn, h.bg⟩, ?_, how⟩
  · have := ho.kept (set_grown w4 g 0 (.slice A4 (n + 1) c4)) (.inr (by rw [ob_eq]; exact hne))
    unfold iv
    rw [List.map_append]
    exact this
  · exact ((Fr.refl w g (ob A)).grow hg (.inr (.inr (.inl rfl)))).grow (set_grown w4 g 0 _) (.inl rfl)

theorem CS.grow' {w w4 : World} {B g g4 : Nat} {A : Option Addr} {n c c4 : Nat} {zs : List Int} {z : Nat} {wr : Bool} {q : Obj} (h : CS w B g A n c zs z wr) (x : List Int) (ho : OwnV 45 4 w4 B (.slice (some ⟨g4, 0, none⟩) (n + 1) c4) (n + 1) (iv zs ++ iv x)) (hg : (w.alloc q).drew.grownBy w4 (Value.slice A n c).ownBlock)
    (how : (Value.slice A n c).ownBlock = some g4 ∨ g4 = (w.alloc q).drew.heap.size) (hn : n + 1 ≤ 1000) :
    CS (w4.setCell ⟨g, 0, none⟩ (.slice (some ⟨g4, 0, none⟩) (n + 1) c4)) B g (some ⟨g4, 0, none⟩) (n + 1) c4 (zs ++ x) z wr ∧ Fr w (w4.setCell ⟨g, 0, none⟩ (.slice (some ⟨g4, 0, none⟩) (n + 1) c4)) g (ob A) ∧ How w A (some ⟨g4, 0, none⟩) := by
  have h1 : w.grownBy w4 (Value.slice A n c).ownBlock := World.grownBy.trans (World.grownBy_alloc w q _) ⟨hg.os, hg.tape, hg.output, hg.size, hg.block⟩
  refine h.grow x ho h1 ?_ hn
  rcases how with e | e
  · exact .inl e.symm
  · refine .inr ⟨g4, rfl, ?_⟩
    rw [e]
    show w.heap.size ≤ (w.alloc q).heap.size
    simp

set_option maxRecDepth 100000 in
set_option maxHeartbeats 4000000 in
theorem put_yes (w : World) (B g : Nat) (A : Option Addr) (n c : Nat) (zs : List Int) (z : Nat) (wg : Bool) (h : CS w B g A n c zs z wg) (ac v most : Int) (m : Nat) (wv : (Lit.int .i64 v).wf = true) (hm : most = 10 ∨ most = 11) (hs : szIs v m) (hmm : (m : Int) ≤ most) (hn5 : n + 5 ≤ 1000) :
    Calls Try.prog 21 #[.pointer (some ⟨g, 0, none⟩), .int .i64 ac, .int .i64 v, .int .i64 most] w fun e w' => ∃ A' c', e = .returned (.tuple #[]) ∧ CS w' B g A' (n + z / 16 + 1) c' (zs ++ symL ac z (exV v) m) 0 wg ∧ Fr w w' g (ob A) ∧ How w A A' := by
  have HX := Lib.hid (fun W => extra_any v W wv)
  obtain ⟨e1, e2, e3⟩ := ex_of hs
  rw [e2, e3] at HX
  have H := Lib.hid h
  have hlt := row_lt h.row
  have hz64 := h.zl
  have hm15 : m ≤ 15 := hs.1
  have HlowA := Lib.hid (ownsRow_low h.own)
  clear h wv e1 e2 e3 hs
  generalize exV v = xV at *
  have d1 : decide (most < (m : Int)) = false := decide_eq_false (by omega)
  go_enter Try.func21, Try.ntmps21
  go_wp2_with fail
  refine (HX.out _).mono ?_
  rintro e w2 ⟨rfl, hb2⟩
  obtain ⟨X, hX⟩ : ∃ X, X = w2.heap.size := ⟨_, rfl⟩
  have hbX := ba hb2 (.cells #[.int .i64 xV, .int .i64 (m : Int)] 23)
  have H3 := Lib.hid (H.out.keep hbX)
  have HRX := Lib.hid (heap_alloc_new w2 (.cells #[.int .i64 xV, .int .i64 (m : Int)] 23))
  have HF3 := Lib.hid (fr_below (g := g) (r := ob A) hbX)
  have hgX : g < X := by have := hb2.size; omega
  have hwX : w.heap.size ≤ X := by have := hb2.size; omega
  rw [← hX] at HRX
  clear hb2 hbX
  go_wp2_with fail
  rw [← hX]
  have HXX := Lib.hid hX
  clear hX
  generalize w2.alloc (.cells #[.int .i64 xV, .int .i64 (m : Int)] 23) = w3 at *
  go_loopw [] (fun W => ∃ (j : Nat) (A' : Option Addr) (c' : Nat), 16 * j ≤ z ∧ CS W B g A' (n + j) c' (zs ++ repL ac j) (z - 16 * j) wg ∧ Fr w W g (ob A) ∧ How w A A' ∧ ob A' ≠ some X ∧ W.heap[X]? = some (.cells #[.int .i64 xV, .int .i64 (m : Int)] 23 (0, 0))) (fun W => match W.cell? ⟨g, 1, none⟩ with | some (.int _ x) => x.toNat | _ => 0)
  case atStart => exact ⟨0, A, c, by omega, by simpa [repL] using H3.out, HF3.out, .inl rfl, fun e => by have := (HlowA.out X e).2; omega, HRX.out⟩
  case round =>
    obtain ⟨j, A', c', hj, hcs, hf, hh, hax, hrx⟩ := hrel
    have C := Lib.hid hcs
    have F := Lib.hid hf
    have HH := Lib.hid hh
    have RX := Lib.hid hrx
    have hgr := row_lt hcs.row
    have hBr : B ≤ wr.heap.size := Nat.le_of_lt (Nat.lt_of_le_of_lt hcs.bg hgr)
    have hX9 := row_lt hrx
    have c0 := row_cell hcs.row 0 rfl
    have c1 := row_cell hcs.row 1 rfl
    have z0 := frozen_of_row wr _ 0 _ _ hcs.row
    have z1 := frozen_of_row wr _ 1 _ _ hcs.row
    have hj4 : j ≤ 4 := by omega
    have HXA := Lib.hid (show some X ≠ ob A' from fun e => hax e.symm)
    obtain ⟨k, hk⟩ : ∃ k, k = z - 16 * j := ⟨_, rfl⟩
    rw [← hk] at C c1
    clear hcs hf hh hrx hax H3 HF3 HRX
    have hk64 : k ≤ 64 := by omega
    have HK := Lib.hid hk
    by_cases hk16 : 15 < k
    · have i1 : (15 : Int) < (k : Int) := by omega
      clear hk
      go_wp2_with (at_builtin; refine Tin.wplv_push sv34 _ #[.int .i64 ac, .int .i64 240, .int .i64 0, .int .i64 0] rfl (.tmp 42) (.tmp 45) rfl B A' (n + j) c' (iv (zs ++ repL ac j)) rfl C.out.own hBr rfl rfl (by simp [Value.oneCell']) (by omega) (by omega) ?_; intro A4 c4 w4 ho4 hg4 how4; have G4 := Lib.hid (C.out.grow [ac, 240, 0, 0] ho4 hg4 how4 (by omega)); have hr4 := (hg4.block g hgr (fun e => by rw [ob_eq] at e; exact C.out.ne e.symm)).trans C.out.row; have q0 := row_cell hr4 0 rfl; have q1 := row_cell hr4 1 rfl; have y0 := frozen_of_row w4 _ 0 _ _ hr4; have y1 := frozen_of_row w4 _ 1 _ _ hr4; have HX4 := Lib.hid ((hg4.block X hX9 (fun e => by rw [ob_eq] at e; exact HXA.out e)).trans RX.out); clear ho4 hg4 how4 hr4)
      have hXg : X ≠ g := by omega
      have HC5 := Lib.hid (G4.out.1.count (k - 16) (by omega) ((k : Int) - 16) (by omega))
      have HF5 := Lib.hid ((F.out.comp G4.out.2.1 HH.out).grow (set_grown _ g 1 (.int .i64 ((k : Int) - 16))) (.inl rfl))
      have HH5 := Lib.hid (HH.out.comp G4.out.2.2 F.out.size)
      have HX5 := Lib.hid (show ((w4.setCell ⟨g, 0, none⟩ (.slice A4 (n + j + 1) c4)).setCell ⟨g, 1, none⟩ (.int .i64 ((k : Int) - 16))).heap[X]? = some (.cells #[.int .i64 xV, .int .i64 (m : Int)] 23 (0, 0)) by rw [set_other hXg, set_other hXg]; exact HX4.out)
      have HA5 := Lib.hid (show ob A4 ≠ some X from by
        rcases G4.out.2.2 with e | ⟨q, e, hq⟩
        · rw [e]; exact fun e' => HXA.out e'.symm
        · rw [e]; intro e'; injection e' with e'; omega)
      refine ⟨⟨j + 1, A4, c4, by have := HK.out; omega, ?_, HF5.out, HH5.out, HA5.out, HX5.out⟩, ?_⟩
      · have h5 := HC5.out
        have e5 : k - 16 = z - 16 * (j + 1) := by have := HK.out; omega
        rw [e5] at h5
        rw [repL, ← List.append_assoc]
        exact h5
      · have q5 := row_cell HC5.out.row 1 rfl
        have q6 := row_cell C.out.row 1 rfl
        rw [q5, q6]
        simp
        omega
    · have hkz : k = z % 16 ∧ j = z / 16 := by omega
      have i1 : (k : Int) ≤ 15 := by omega
      clear hk
      have b0 := row_cell RX.out 0 rfl
      have b1 := row_cell RX.out 1 rfl
      have hor := or16 (k : Int) (m : Int) (by omega) (by omega) (by omega) (by omega)
      have hsh : IntKind.i64.wrap ((k : Int) * 16) = (k : Int) * 16 := by rw [wrap_i64]; omega
      have HKZ := Lib.hid hkz
      clear hkz
      go_wp2_with fail
      go_region_law (refine Tin.step_pushv sv34 _ rfl (.tmp 53) (.tmp 65) rfl B A' (n + j) c' (iv (zs ++ repL ac j)) [.int .i64 ac, .int .i64 ((k : Int) * 16 + (m : Int)), .int .i64 xV, .int .i64 (m : Int)] rfl (C.out.own.alloc _).drew wr.heap.size rfl (rng_drew (rng_alloc (w := wr) [.int .i64 ac, .int .i64 ((k : Int) * 16 + (m : Int)), .int .i64 xV, .int .i64 (m : Int)])) rfl (by simp [Value.oneCell']) (by simp; omega) (by omega) (by omega) ?_; intro g4 cap4 w4 ho4 hg4 how4 hlt4; have hr4 := row_push C.out.row hgr hg4 (by rw [ob_eq]; exact C.out.ne); have q0 := row_cell hr4 0 rfl; have q1 := row_cell hr4 1 rfl; have y0 := frozen_of_row w4 _ 0 _ _ hr4; have y1 := frozen_of_row w4 _ 1 _ _ hr4; have G4 := Lib.hid (C.out.grow' [ac, (k : Int) * 16 + (m : Int), xV, (m : Int)] ho4 hg4 how4 (by omega)); clear ho4 hg4 how4 hr4 hlt4)
      all_goals
        have HC5 := Lib.hid (G4.out.1.count 0 (by omega) 0 rfl)
        have HF5 := Lib.hid ((F.out.comp G4.out.2.1 HH.out).grow (set_grown _ g 1 (.int .i64 0)) (.inl rfl))
        have HH5 := Lib.hid (HH.out.comp G4.out.2.2 F.out.size)
        clear G4
        have h6 : CS ((w4.setCell ⟨g, 0, none⟩ (.slice (some ⟨g4, 0, none⟩) (n + j + 1) cap4)).setCell ⟨g, 1, none⟩ (.int .i64 0)) B g (some ⟨g4, 0, none⟩) (n + z / 16 + 1) cap4 (zs ++ symL ac z xV m) 0 wg := by
          have h5 := HC5.out
          obtain ⟨hk1, hj1⟩ := HKZ.out
          unfold symL
          rw [← hk1, ← hj1, ← List.append_assoc]
          exact h5
        have H6 := Lib.hid h6
        clear h6
        go_wp2_with fail
        exact bodyPost_end (v := .tuple #[]) (by simp [results, Try.results21, go_sem]) rfl ⟨some ⟨g4, 0, none⟩, cap4, rfl, H6.out, HF5.out, HH5.out⟩
end Go.Proofs.Ytckkncblbagfmaa
