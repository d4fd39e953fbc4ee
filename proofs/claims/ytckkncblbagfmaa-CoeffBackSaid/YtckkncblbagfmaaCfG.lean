/- The contract of put: a number is told by symbols. -/
import Derived.Test.YtckkncblbagfmaaCfF
import Derived.Test.YtckkncblbagfmaaFrm
import Derived.StillTailTactics
import Derived.Deep.RegionLaw
namespace Go.Proofs.Ytckkncblbagfmaa
open Go.RowKit
open Go.Tin
set_option linter.unusedVariables false
set_option linter.unusedSimpArgs false


theorem or16 (z n : Int) (hz : 0 ≤ z) (hz1 : z ≤ 15) (hn : 0 ≤ n) (hn1 : n ≤ 15) : bits .or .i64 (z * 16) n = z * 16 + n :=
  bits_join .i64 63 (by decide) (fun n h0 h1 => by rw [wrap_i64]; have : (2 : Int) ^ 63 = 9223372036854775808 := by decide
                                                   omega) 4 _ _ (by omega) (by omega) (by have : (2 : Int) ^ 63 = 9223372036854775808 := by decide
                                                                                          omega) hn (by have : (2 : Int) ^ 4 = 16 := by decide
                                                                                                        omega) (by have : (2 : Int) ^ 63 = 9223372036854775808 := by decide
                                                                                                                   omega)
/-- Sixteens of noughts, and the symbol of a number. -/
def repL (ac : Int) : Nat → List Int
  | 0 => []
  | k + 1 => repL ac k ++ [ac, 240, 0, 0]
theorem repL_len (ac : Int) : ∀ k, (repL ac k).length = k * 4
  | 0 => rfl
  | k + 1 => by rw [repL, List.length_append, repL_len ac k]; simp; omega
def symL (ac : Int) (z : Nat) (V N : Int) : List Int := repL ac (z / 16) ++ [ac, ((z % 16 : Nat) : Int) * 16 + N, V, N]
theorem symL_len (ac : Int) (z : Nat) (V N : Int) : (symL ac z V N).length = (z / 16 + 1) * 4 := by
  unfold symL
  rw [List.length_append, repL_len]
  simp
  omega
/-- The coder at block g. -/
structure CS (w : World) (B g : Nat) (A : Option Addr) (n c : Nat) (zs : List Int) (z : Nat) (wr : Bool) : Prop where
  row : w.heap[g]? = some (.cells #[.slice A n c, .int .i64 (z : Int), .bool wr] 50 (0, 0))
  own : OwnV 45 4 w B (.slice A n c) n (iv zs)
  ne : ob A ≠ some g
  zl : z ≤ 64
  nl : n ≤ 1000
  bg : B ≤ g
theorem CS.keep {w w' : World} {B g : Nat} {A : Option Addr} {n c : Nat} {zs : List Int} {z : Nat} {wr : Bool} (h : CS w B g A n c zs z wr) (hb : Below w.heap.size w w') : CS w' B g A n c zs z wr :=
  ⟨(hb.block _ (row_lt h.row)).trans h.row, h.own.keep hb, h.ne, h.zl, h.nl, h.bg⟩

theorem set_grown (w : World) (g i : Nat) (v : Value) : w.grownBy (w.setCell ⟨g, i, none⟩ v) (some g) := grown_setCells g [v] i w w (World.grownBy.refl w _)
theorem CS.ownk {w w' : World} {B g : Nat} {A : Option Addr} {n c : Nat} {zs : List Int} {z : Nat} {wr : Bool} (h : CS w B g A n c zs z wr) (hg : w.grownBy w' (some g)) : OwnV 45 4 w' B (.slice A n c) n (iv zs) :=
  h.own.kept hg (.inr (by rw [ob_eq]; exact h.ne))
theorem CS.mark {w : World} {B g : Nat} {A : Option Addr} {n c : Nat} {zs : List Int} {z : Nat} {wr : Bool} (h : CS w B g A n c zs z wr) : CS (w.setCell ⟨g, 2, none⟩ (.bool true)) B g A n c zs z true :=
  ⟨(row_set h.row 2 (.bool true)).trans rfl, h.ownk (set_grown w g 2 _), h.ne, h.zl, h.nl, h.bg⟩
theorem CS.count {w : World} {B g : Nat} {A : Option Addr} {n c : Nat} {zs : List Int} {z : Nat} {wr : Bool} (h : CS w B g A n c zs z wr) (k : Nat) (hk : k ≤ 64) (x : Int) (hx : x = (k : Int)) : CS (w.setCell ⟨g, 1, none⟩ (.int .i64 x)) B g A n c zs k wr := by
  subst hx
  exact ⟨(row_set h.row 1 (.int .i64 (k : Int))).trans rfl, h.ownk (set_grown w g 1 _), h.ne, hk, h.nl, h.bg⟩
theorem fr_below {w w' : World} {g : Nat} {r : Option Nat} (hb : Below w.heap.size w w') : Fr w w' g r := (Fr.refl w g r).bel hb

set_option maxRecDepth 100000 in
set_option maxHeartbeats 2000000 in
theorem put_wrong (w : World) (B g : Nat) (A : Option Addr) (n c : Nat) (zs : List Int) (z : Nat) (wr : Bool) (h : CS w B g A n c zs z wr) (ac v most : Int) (wv : (Lit.int .i64 v).wf = true) (hm : most = 10 ∨ most = 11) (hno : sz v < 0 ∨ most < sz v) :
    Calls Try.prog 21 #[.pointer (some ⟨g, 0, none⟩), .int .i64 ac, .int .i64 v, .int .i64 most] w fun e w' => e = .returned (.tuple #[]) ∧ CS w' B g A n c zs z true ∧ Fr w w' g none := by
  have HX := Lib.hid (fun W => extra_any v W wv)
  have H := Lib.hid h
  have hlt := row_lt h.row
  have hb1 : exB v = true → most < exN v := by
    intro hb
    unfold exB at hb
    unfold exN
    have : 0 ≤ sz v := by simpa using hb
    rw [if_neg (by omega)]
    omega
  clear h wv hno
  generalize exV v = xV at *
  generalize exN v = xN at *
  generalize exB v = xB at *
  cases xB
  · clear hb1
    go_enter Try.func21, Try.ntmps21
    go_wp2_with fail
    refine (HX.out _).mono ?_
    rintro e w2 ⟨rfl, hb2⟩
    have H2 := Lib.hid (H.out.keep (ba hb2 (.cells #[.int .i64 xV, .int .i64 xN] 23)))
    have c2 := row_cell H2.out.row 2 rfl
    have z2 := frozen_of_row _ _ 2 _ _ H2.out.row
    go_wp2_with fail
    exact bodyPost_ret (v := .tuple #[]) (by simp [results, Try.results21, go_sem]) rfl ⟨rfl, H2.out.mark, (fr_below (ba hb2 _)).grow (set_grown _ g 2 _) (.inl rfl)⟩
  · have i1 := hb1 rfl
    clear hb1
    go_enter Try.func21, Try.ntmps21
    go_wp2_with fail
    refine (HX.out _).mono ?_
    rintro e w2 ⟨rfl, hb2⟩
    have H2 := Lib.hid (H.out.keep (ba hb2 (.cells #[.int .i64 xV, .int .i64 xN] 23)))
    have c2 := row_cell H2.out.row 2 rfl
    have z2 := frozen_of_row _ _ 2 _ _ H2.out.row
    have d1 : decide (most < xN) = true := decide_eq_true i1
    go_wp2_with fail
    exact bodyPost_ret (v := .tuple #[]) (by simp [results, Try.results21, go_sem]) rfl ⟨rfl, H2.out.mark, (fr_below (ba hb2 _)).grow (set_grown _ g 2 _) (.inl rfl)⟩
end Go.Proofs.Ytckkncblbagfmaa
