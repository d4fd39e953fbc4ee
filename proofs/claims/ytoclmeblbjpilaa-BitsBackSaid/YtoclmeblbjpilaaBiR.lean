/- The contract of Put (under way). -/
import Derived.Test.YtoclmeblbjpilaaBiQ
import Derived.Test.YtoclmeblbjpilaaStp
import Derived.Deep.RegionLaw
namespace Go.Proofs.Ytoclmeblbjpilaa
open Go.RowKit
open Go.Tin
set_option linter.unusedVariables false
set_option linter.unusedSimpArgs false


theorem wraps_u32 (n : Int) (h₀ : 0 ≤ n) (h₁ : n < 2 ^ 32) : IntKind.u32.wrap n = n := by rw [IntKind.wrap_u32]; omega
theorem pow16 {n : Nat} (hn : n ≤ 16) : (1 : Int) ≤ 2 ^ n ∧ (2 : Int) ^ n ≤ 65536 := by
  have h1 : (0 : Int) < 2 ^ n := Int.pow_pos (by decide)
  have h2 : (2 : Nat) ^ n ≤ 2 ^ 16 := Nat.pow_le_pow_right (by decide) hn
  have h3 : (2 : Int) ^ n ≤ 2 ^ 16 := by exact_mod_cast h2
  omega
theorem row_push {w w4 : World} {g : Nat} {o q : Obj} {x : Option Nat} (hr : w.heap[g]? = some o) (hlt : g < w.heap.size) (hg : (w.alloc q).drew.grownBy w4 x) (hne : x ≠ some g) : w4.heap[g]? = some o :=
  (hg.block g (by show g < (w.alloc q).heap.size; simp; omega) (fun e => hne e.symm)).trans ((Below.heap_alloc w q g hlt).trans hr)
/-- What Put leaves alone: the blocks other than the writer's and its row's. -/
structure Fr (w w' : World) (g : Nat) (r : Option Nat) : Prop where
  os : w'.os = w.os
  tape : w'.tape = w.tape
  output : w'.output = w.output
  size : w.heap.size ≤ w'.heap.size
  block : ∀ k, k < w.heap.size → k ≠ g → some k ≠ r → w'.heap[k]? = w.heap[k]?
theorem Fr.start {w w' : World} {g : Nat} {r : Option Nat} (h : w.grownBy w' (some g)) : Fr w w' g r :=
  ⟨h.os, h.tape, h.output, h.size, fun k hk hg _ => h.block k hk (fun e => hg (by injection e))⟩
theorem Fr.grow {w w1 w2 : World} {g : Nat} {r x : Option Nat} (h : Fr w w1 g r) (h2 : w1.grownBy w2 x) (hx : x = some g ∨ x = none ∨ x = r ∨ ∃ q, x = some q ∧ w.heap.size ≤ q) : Fr w w2 g r :=
  ⟨h2.os.trans h.os, h2.tape.trans h.tape, h2.output.trans h.output, Nat.le_trans h.size h2.size, fun k hk hg hr => by
    refine (h2.block k (Nat.lt_of_lt_of_le hk h.size) ?_).trans (h.block k hk hg hr)
    rintro e
    rcases hx with hx | hx | hx | ⟨q, hx, hq⟩
    · rw [hx] at e; injection e with e; exact hg e
    · rw [hx] at e; cases e
    · rw [hx] at e; exact hr e
    · rw [hx] at e; injection e with e; omega⟩
/-- The block of a row. -/
def ob (A : Option Addr) : Option Nat := (Value.slice A 0 0).ownBlock
theorem ob_eq (A : Option Addr) (n c : Nat) : (Value.slice A n c).ownBlock = ob A := by cases A <;> rfl
theorem ob_some (g o : Nat) : ob (some ⟨g, o, none⟩) = some g := rfl
/-- The row of the writer is its elder one, or a new one. -/
def How (w : World) (A A' : Option Addr) : Prop := ob A' = ob A ∨ ∃ q, ob A' = some q ∧ w.heap.size ≤ q
theorem How.or {w : World} {A A' : Option Addr} {g : Nat} (h : How w A A') : ob A' = some g ∨ ob A' = none ∨ ob A' = ob A ∨ ∃ q, ob A' = some q ∧ w.heap.size ≤ q := by
  rcases h with h | h
  · exact .inr (.inr (.inl h))
  · exact .inr (.inr (.inr h))
/-- What Put leaves. -/
structure Pt (w w' : World) (B g : Nat) (A : Option Addr) (Z X : List Int) (A' : Option Addr) (c' : Nat) : Prop where
  row : w'.heap[g]? = some (.cells #[.slice A' (Z.length + X.length / 8) c', .int .u32 (numL (X.drop (8 * (X.length / 8)))), .int .i64 ((X.length % 8 : Nat) : Int)] 27 (0, 0))
  own : Own .u8 5 w' B (.slice A' (Z.length + X.length / 8) c') (Z ++ pckN X (X.length / 8))
  ne : ob A' ≠ some g
  fr : Fr w w' g (ob A)
  how : How w A A'
/-- What Put lays into the rest. -/
theorem put_bits (r v : Int) (n : Nat) (hr0 : 0 ≤ r) (hr1 : r ≤ 127) (hn : n ≤ 16) :
    bits .or .u32 (r * 2 ^ n % 4294967296) (bits .and .u32 (v % 4294967296) ((2 ^ n - 1) % 4294967296)) = r * 2 ^ n + v % 2 ^ n := by
  obtain ⟨p1, p2⟩ := pow16 hn
  have hm : v % 4294967296 % 2 ^ n = v % 2 ^ n := by
    refine Int.emod_emod_of_dvd v ?_
    refine ⟨2 ^ (32 - n), ?_⟩
    rw [← Int.pow_add, show n + (32 - n) = 32 by omega]
    rfl
  have h1 : bits .and .u32 (v % 4294967296) ((2 ^ n - 1) % 4294967296) = v % 2 ^ n := by
    rw [Int.emod_eq_of_lt (show (0 : Int) ≤ 2 ^ n - 1 by omega) (by omega), bits_mask .u32 32 (by decide) wraps_u32 n (by omega) _ (by omega) (by omega), hm]
  have e0 := Int.emod_nonneg v (show (2 : Int) ^ n ≠ 0 by omega)
  have e1 := Int.emod_lt_of_pos v (show (0 : Int) < 2 ^ n by omega)
  have e2 : r * 2 ^ n ≤ 127 * 2 ^ n := Int.mul_le_mul_of_nonneg_right hr1 (by omega)
  have e3 : 0 ≤ r * 2 ^ n := Int.mul_nonneg hr0 (by omega)
  have e4 : r * 2 ^ n % 2 ^ n = 0 := Int.mul_emod_left _ _
  rw [h1, Int.emod_eq_of_lt e3 (by omega)]
  exact bits_join .u32 32 (by decide) wraps_u32 n _ _ e3 e4 (by omega) e0 e1 (by omega)

theorem put_rest (X : List Int) (hx : ∀ x ∈ X, x = 0 ∨ x = 1) (R : Int) (hR : numL X = R) (hR1 : R < 8388608) (j k : Nat) (h : 8 * j + k = X.length) (hk : k < 8) : bits .and .u32 R ((2 ^ k - 1) % 4294967296) = numL (X.drop (8 * j)) := by
  have h0 := (numL_bd X hx).1
  obtain ⟨p1, p2⟩ := pow16 (n := k) (by omega)
  rw [hR] at h0
  rw [Int.emod_eq_of_lt (show (0 : Int) ≤ 2 ^ k - 1 by omega) (by omega), bits_mask .u32 32 (by decide) wraps_u32 k (by omega) _ (by omega) (by omega), ← hR, ← numL_mod X hx (8 * j) (by omega), show X.length - 8 * j = k by omega]

set_option maxRecDepth 100000 in
set_option maxHeartbeats 2000000 in
theorem put_yes (w : World) (B g : Nat) (A : Option Addr) (c : Nat) (Z T : List Int) (v : Int) (n : Nat) (hT : ∀ x ∈ T, x = 0 ∨ x = 1) (hTl : T.length ≤ 7) (hn : n ≤ 16) (wv : (Lit.int .i64 v).wf = true)
    (hrow : w.heap[g]? = some (.cells #[.slice A Z.length c, .int .u32 (numL T), .int .i64 (T.length : Int)] 27 (0, 0))) (hown : Own .u8 5 w B (.slice A Z.length c) Z) (hne : ob A ≠ some g) (hZ : Z.length ≤ 200000) (hB : B ≤ w.heap.size) (X : List Int) (hX : X = T ++ low v n) :
    Calls Try.prog 8 #[.pointer (some ⟨g, 0, none⟩), .int .i64 v, .int .i64 (n : Int)] w fun e w' => ∃ A' c', e = .returned (.bool true) ∧ Pt w w' B g A Z X A' c' := by
  have hv := wf64 wv
  have hr := numL_bd T hT
  have hr2 : (2 : Int) ^ T.length ≤ 2 ^ 7 := by
    have : (2 : Nat) ^ T.length ≤ 2 ^ 7 := Nat.pow_le_pow_right (by decide) hTl
    exact_mod_cast this
  have hXl : X.length = T.length + n := by rw [hX, List.length_append, low_len]
  have hXb : ∀ x ∈ X, x = 0 ∨ x = 1 := fun x hx => by
    rw [hX] at hx
    rcases List.mem_append.1 hx with h | h
    · exact hT x h
    · exact low_bit v n x h
  have hXn : numL X = numL T * 2 ^ n + v % 2 ^ n := by rw [hX, numL_app, low_len, numL_low]
  have HXB := Lib.hid hXb
  have HX := Lib.hid hX
  have hXd := numL_bd X hXb
  have hXd2 : (2 : Int) ^ X.length ≤ 2 ^ 23 := by
    have : (2 : Nat) ^ X.length ≤ 2 ^ 23 := Nat.pow_le_pow_right (by decide) (by omega)
    exact_mod_cast this
  have R0 : 0 ≤ numL X := hXd.1
  have R1 : numL X < 8388608 := by have := hXd.2; omega
  have hpb := put_bits (numL T) v n hr.1 (by have := hr.2; omega) hn
  rw [← hXn] at hpb
  have hT0 := hr.1
  have hT1 : numL T ≤ 127 := by have := hr.2; omega
  obtain ⟨m, hm⟩ : ∃ m, m = T.length := ⟨_, rfl⟩
  rw [← hm] at hrow hXl hTl
  have HO := Lib.hid hown
  have HE := Lib.hid hne
  generalize numL T = r at *
  clear hXd hXd2 hXn hr hr2 hXb hT hm hX hown hne
  generalize hR : numL X = R at *
  have HR := Lib.hid hR
  have c0 := row_cell hrow 0 rfl
  have c1 := row_cell hrow 1 rfl
  have c2 := row_cell hrow 2 rfl
  have z1 := frozen_of_row w _ 1 _ _ hrow
  have z2 := frozen_of_row w _ 2 _ _ hrow
  have f1 : decide ((n : Int) < 0) = false := decide_eq_false (by omega)
  have f2 : decide (16 < (n : Int)) = false := decide_eq_false (by omega)
  have HRow := Lib.hid hrow
  clear hrow wv hR
  go_enter Try.func8, Try.ntmps8
  go_wp2_with fail
  go_region
  have hrow2 : (((w.setCell ⟨g, 1, none⟩ (.int .u32 R)).setCell ⟨g, 2, none⟩ (.int .i64 ((m : Int) + (n : Int)))).drew).heap[g]? = some (.cells #[.slice A Z.length c, .int .u32 R, .int .i64 ((m + n : Nat) : Int)] 27 (0, 0)) :=
    (row_set (row_set HRow.out 1 (.int .u32 R)) 2 (.int .i64 ((m : Int) + (n : Int)))).trans rfl
  have hgr : w.grownBy (((w.setCell ⟨g, 1, none⟩ (.int .u32 R)).setCell ⟨g, 2, none⟩ (.int .i64 ((m : Int) + (n : Int)))).drew) (some g) :=
    let h := grown_setCells g [.int .u32 R, .int .i64 ((m : Int) + (n : Int))] 1 w w (World.grownBy.refl w _)
    ⟨h.os, h.tape, h.output, h.size, h.block⟩
  clear hpb c0 c1 c2 z1 z2
  generalize ((w.setCell ⟨g, 1, none⟩ (.int .u32 R)).setCell ⟨g, 2, none⟩ (.int .i64 ((m : Int) + (n : Int)))).drew = W at *
  have hown2 := HO.out.kept hgr (.inr (by rw [ob_eq]; exact HE.out))
  rw [← hXl] at hrow2
  have HG := Lib.hid hgr
  have HXL := Lib.hid hXl
  generalize ((2 : Int) ^ n % 4294967296 - 1) % 4294967296 = q29
  have hXle : X.length ≤ 23 := by omega
  clear hgr hXl
  go_wp2_with fail
  go_loopw [] (fun wr => ∃ (j k : Nat) (A' : Option Addr) (c' : Nat), 8 * j + k = X.length ∧ wr.heap[g]? = some (.cells #[.slice A' (Z.length + j) c', .int .u32 R, .int .i64 (k : Int)] 27 (0, 0)) ∧ Own .u8 5 wr B (.slice A' (Z.length + j) c') (Z ++ pckN X j) ∧ ob A' ≠ some g ∧ Fr w wr g (ob A) ∧ How w A A') (fun wr => match wr.cell? ⟨g, 2, none⟩ with | some (.int _ x) => x.toNat | _ => 0)
  case atStart => exact ⟨0, X.length, A, c, by omega, hrow2, by simpa [pckN] using hown2, HE.out, Fr.start HG.out, .inl rfl⟩
  case round =>
    obtain ⟨j, k, A', c', hjk, hrow3, hown3, hne3, hfr3, hhow3⟩ := hrel
    have F3 := Lib.hid hfr3
    have W3 := Lib.hid hhow3
    have hz3 := hfr3.size
    clear hfr3 hhow3 hrow2 hown2
    have H3 := Lib.hid hrow3
    have O3 := Lib.hid hown3
    have N3 := Lib.hid hne3
    have c0 := row_cell hrow3 0 rfl
    have c1 := row_cell hrow3 1 rfl
    have c2 := row_cell hrow3 2 rfl
    have z0 := frozen_of_row wr _ 0 _ _ hrow3
    have z1 := frozen_of_row wr _ 1 _ _ hrow3
    have z2 := frozen_of_row wr _ 2 _ _ hrow3
    clear hrow3 hown3 hne3
    by_cases hk : 8 ≤ k
    · have i1 : (8 : Int) ≤ (k : Int) := by omega
      have hs3 := row_set H3.out 2 (.int .i64 ((k : Int) - 8))
      have HS3 := Lib.hid hs3
      have hlt3 : g < wr.heap.size := by
        rcases Nat.lt_or_ge g wr.heap.size with h | h
        · exact h
        · have h2 := H3.out; rw [Array.getElem?_eq_none h] at h2; cases h2
      have hg3 : wr.grownBy (wr.setCell ⟨g, 2, none⟩ (.int .i64 ((k : Int) - 8))) (some g) := grown_setCells g [.int .i64 ((k : Int) - 8)] 2 wr wr (World.grownBy.refl wr _)
      have O4 := Lib.hid (O3.out.kept hg3 (.inr (by rw [ob_eq]; exact N3.out)))
      have hlt3' : g < (wr.setCell ⟨g, 2, none⟩ (.int .i64 ((k : Int) - 8))).heap.size := by simpa [World.setCell] using hlt3
      have L4 := Lib.hid (show (Z ++ pckN X j).length = Z.length + j by rw [List.length_append, pckN_len])
      have F4 := Lib.hid (F3.out.grow hg3 (.inl rfl))
      have HJK := Lib.hid hjk
      have hj3 : j ≤ 2 := by omega
      have hk3 : k ≤ 23 := by omega
      clear hs3 hg3 hjk
      go_wp2_with fail
      go_region_law (refine Tin.step_push bt5 _ rfl (.tmp 58) (.tmp 69) rfl B A' (Z.length + j) c' (Z ++ pckN X j) (IntKind.u8.wrap (R / 2 ^ ((k : Int) - 8).toNat)) rfl (O4.out.alloc _).drew _ rfl (by simp [go_sem]) (by simp; omega) (by omega) (by omega) ?_; intro g4 cap4 w4 ho4 hg4 how4 hlt4; have hr4 := Lib.hid (row_push HS3.out hlt3' hg4 (by rw [ob_eq]; exact N3.out)); have hcz4 := row_cell hr4.out 0 rfl; have hfz4 := frozen_of_row w4 _ 0 _ _ hr4.out; have HO4 := Lib.hid ho4; clear ho4)
      all_goals
        have hgs4 : w4.grownBy (w4.setCell ⟨g, 0, none⟩ (.slice (some ⟨g4, 0, none⟩) (Z.length + j + 1) cap4)) (some g) := grown_setCells g [.slice (some ⟨g4, 0, none⟩) (Z.length + j + 1) cap4] 0 w4 w4 (World.grownBy.refl w4 _)
        rw [ob_eq] at hg4 how4
        have hnew : How w A (some ⟨g4, 0, none⟩) := by
          rcases how4 with e | e
          · rcases W3.out with h | ⟨q, h, hq⟩
            · exact .inl ((ob_some _ _).trans (e.symm.trans h))
            · exact .inr ⟨q, (ob_some _ _).trans (e.symm.trans h), hq⟩
          · refine .inr ⟨g4, rfl, ?_⟩
            rw [e]
            show w.heap.size ≤ ((wr.setCell ⟨g, 2, none⟩ (.int .i64 ((k : Int) - 8))).alloc _).heap.size
            simp [World.setCell]
            omega
        have hne4 : ob (some ⟨g4, 0, none⟩) ≠ some g := by
          rw [ob_some]
          intro e
          injection e with e
          rcases how4 with e1 | e1
          · rw [e] at e1; exact N3.out e1
          · have : wr.heap.size < g4 := by
              rw [e1]
              show wr.heap.size < ((wr.setCell ⟨g, 2, none⟩ (.int .i64 ((k : Int) - 8))).alloc _).heap.size
              simp [World.setCell]
            omega
        have hrow5 := (row_set hr4.out 0 (.slice (some ⟨g4, 0, none⟩) (Z.length + j + 1) cap4))
        have hown5 := HO4.out.kept hgs4 (.inr hne4)
        have hfr5 : Fr w (w4.setCell ⟨g, 0, none⟩ (.slice (some ⟨g4, 0, none⟩) (Z.length + j + 1) cap4)) g (ob A) :=
          ((F4.out.grow (World.grownBy_alloc _ _ none) (.inr (.inl rfl))).grow (x := ob A') ⟨hg4.os, hg4.tape, hg4.output, hg4.size, hg4.block⟩ W3.out.or).grow hgs4 (.inl rfl)
        have HB4 := Lib.hid (numL_byte X HXB.out j (by have := HJK.out; omega))
        have hkj : (k : Int) - 8 = ((k - 8 : Nat) : Int) := by omega
        have HV4 : Hid (IntKind.u8.wrap (R / 2 ^ ((k : Int) - 8).toNat) = numL ((X.drop (8 * j)).take 8)) := by
          show IntKind.u8.wrap (R / 2 ^ ((k : Int) - 8).toNat) = numL ((X.drop (8 * j)).take 8)
          rw [← HB4.out, HR.out, show ((k : Int) - 8).toNat = X.length - (8 * j + 8) by have := HJK.out; omega]
          exact IntKind.wrap_u8 _
        have H5 := Lib.hid hrow5
        have O5 := Lib.hid hown5
        have N5 := Lib.hid hne4
        have F5 := Lib.hid hfr5
        have W5 := Lib.hid hnew
        have HKJ := Lib.hid hkj
        clear hrow5 hown5 hne4 hfr5 hnew hgs4 hkj how4 hg4 hcz4 hfz4 hlt4 hlt3'
        go_roundw
        case rel => (repeat apply Exists.intro); exact ⟨⟨j + 1, k - 8, some ⟨g4, 0, none⟩, cap4, by have := HJK.out; omega, by rw [H5.out, ← HKJ.out]; rfl, by rw [pckN_next, ← HV4.out, ← List.append_assoc]; exact O5.out, N5.out, F5.out, W5.out⟩, rfl⟩
        case measure => (have c5 := row_cell H5.out 2 rfl; have c6 := row_cell H3.out 2 rfl; rw [c5, c6]; simp; omega)
    · have i1 : (k : Int) < 8 := by omega
      have i2 : k < 8 := by omega
      have hj8 : j = X.length / 8 := by omega
      have hk8 : k = X.length % 8 := by omega
      have hmask := put_rest X HXB.out R HR.out R1 j k hjk i2
      have hs3 := row_set H3.out 1 (.int .u32 (numL (X.drop (8 * j))))
      have hg3 : wr.grownBy (wr.setCell ⟨g, 1, none⟩ (.int .u32 (numL (X.drop (8 * j))))) (some g) := grown_setCells g [.int .u32 (numL (X.drop (8 * j)))] 1 wr wr (World.grownBy.refl wr _)
      have O4 := O3.out.kept hg3 (.inr (by rw [ob_eq]; exact N3.out))
      have F4 := F3.out.grow hg3 (.inl rfl)
      have HP : Hid (Pt w (wr.setCell ⟨g, 1, none⟩ (.int .u32 (numL (X.drop (8 * j))))) B g A Z X A' c') := by
        show Pt w (wr.setCell ⟨g, 1, none⟩ (.int .u32 (numL (X.drop (8 * j))))) B g A Z X A' c'
        subst hj8; subst hk8
        exact ⟨hs3, O4, N3.out, F4, W3.out⟩
      clear hs3 hg3 O4 F4 hjk hj8 hk8
      generalize numL (X.drop (8 * j)) = R7 at *
      go_wp2_with fail
      go_region
      go_wp2_with fail
      go_ret
      exact ⟨A', c', rfl, HP.out.row, HP.out.own, HP.out.ne, ⟨HP.out.fr.os, HP.out.fr.tape, HP.out.fr.output, HP.out.fr.size, HP.out.fr.block⟩, HP.out.how⟩
end Go.Proofs.Ytoclmeblbjpilaa
