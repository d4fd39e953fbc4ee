/- The chapter's examples hold (awake). -/
import Derived.Test.YtoclmeblbjpilaaBiU
import Derived.Test.YtoclmeblbjpilaaBiX
namespace Go.Proofs.Ytoclmeblbjpilaa
open Go.RowKit
open Go.Tin
set_option linter.unusedVariables false
set_option linter.unusedSimpArgs false


theorem Fr.below {w0 w w' : World} {B g : Nat} {r : Option Nat} (h : Fr w w' g r) (hb : Below B w0 w) (hg : B ≤ g) (hr : ∀ q, r = some q → B ≤ q) (hB : B ≤ w.heap.size) : Below B w0 w' :=
  ⟨h.os.trans hb.os, h.tape.trans hb.tape, h.output.trans hb.output, Nat.le_trans hb.size h.size, fun k hk => (h.block k (by omega) (by omega) (fun e => by have := hr k e.symm; omega)).trans (hb.block k hk)⟩
theorem WS.low {w : World} {B g : Nat} {A : Option Addr} {c : Nat} {L : List Int} (h : WS w B g A c L) : ∀ q, ob A = some q → B ≤ q ∧ q < w.heap.size := by
  intro q hq
  rw [← ob_eq A (L.length / 8) c] at hq
  obtain ⟨h1, h2⟩ := World.ownsRow.lt h.own q hq
  exact ⟨by omega, by omega⟩
theorem WS.kept {w w' : World} {B g : Nat} {A : Option Addr} {c : Nat} {L : List Int} {x : Option Nat} (h : WS w B g A c L) (hg : w.grownBy w' x) (h1 : x ≠ some g) (h2 : x = none ∨ ob A ≠ x) : WS w' B g A c L :=
  ⟨(hg.block g h.gt (fun e => h1 e.symm)).trans h.row, h.own.kept hg (by
    rcases h2 with h2 | h2
    · subst h2
      cases hA : (Value.slice A (L.length / 8) c).ownBlock with
      | none => exact .inl rfl
      | some q => exact .inr (fun e => by cases e)
    · exact .inr (by rw [ob_eq]; exact h2)), h.ne, h.bits, h.len⟩
/-- A writer of the call's own. -/
structure AW (w0 w : World) (B g : Nat) (A : Option Addr) (c : Nat) (L : List Int) : Prop where
  ws : WS w B g A c L
  bel : Below B w0 w
  bg : B ≤ g
theorem AW.keep {w0 w w' : World} {B g : Nat} {A : Option Addr} {c : Nat} {L : List Int} (h : AW w0 w B g A c L) (hb : Below w.heap.size w w') : AW w0 w' B g A c L :=
  ⟨h.ws.keep hb, h.bel.trans (hb.mono (Nat.le_of_lt (Nat.lt_of_le_of_lt h.bg h.ws.gt))), h.bg⟩
theorem AW.new (w0 w : World) (B : Nat) (hb : Below B w0 w) (hB : B ≤ w.heap.size) : AW w0 (w.alloc (.cells #[.slice none 0 0, .int .u32 0, .int .i64 0] 27)) B w.heap.size none 0 [] :=
  ⟨⟨heap_alloc_new w _, Own.nil_ _ _ _ _, by simp [Value.ownBlock], by simp, by simp⟩, hb.alloc hB _, hB⟩
theorem put_aw (w0 w : World) (B g : Nat) (A : Option Addr) (c : Nat) (L : List Int) (h : AW w0 w B g A c L) (v N : Int) (n : Nat) (hN : N = (n : Int)) (hn : n ≤ 16) (wv : (Lit.int .i64 v).wf = true) (hl : L.length + n ≤ 100000) :
    Calls Try.prog 8 #[.pointer (some ⟨g, 0, none⟩), .int .i64 v, .int .i64 N] w fun e w' => ∃ A' c', e = .returned (.bool true) ∧ AW w0 w' B g A' c' (L ++ low v n) ∧ Fr w w' g (ob A) ∧ How w A A' := by
  subst hN
  have hB : B ≤ w.heap.size := Nat.le_of_lt (Nat.lt_of_le_of_lt h.bg h.ws.gt)
  refine (put_any w B g A c L h.ws v n hn wv hl hB).mono ?_
  rintro e w' ⟨A', c', rfl, hw, hf, hh⟩
  exact ⟨A', c', rfl, ⟨hw, hf.below h.bel h.bg (fun q hq => (h.ws.low q hq).1) hB, h.bg⟩, hf, hh⟩
theorem AW.other {w0 w w' : World} {B g q : Nat} {A : Option Addr} {c : Nat} {L : List Int} (h : AW w0 w B g A c L) (hg : w.grownBy w' (some q)) (h1 : q ≠ g) (h2 : ob A ≠ some q) (hq : B ≤ q) : AW w0 w' B g A c L :=
  ⟨h.ws.kept hg (fun e => h1 (by injection e)) (.inr h2), h.bel.grown hg (Nat.le_of_lt (Nat.lt_of_le_of_lt h.bg h.ws.gt)) (fun k hk => by injection hk; omega), h.bg⟩
theorem take_n (w : World) (g : Nat) (A : Option Addr) (c : Nat) (D : List Int) (k n : Nat) (N : Int) (hN : N = (n : Int)) (h : RS w g A c D k) (hn : n ≤ 16) (hk : k + n ≤ 8 * D.length) :
    Calls Try.prog 21 #[.pointer (some ⟨g, 0, none⟩), .int .i64 N] w fun e w' => e = .returned (.tuple #[.int .i64 (numL (((bitsL D).drop k).take n)), .bool true]) ∧ RS w' g A c D (k + n) ∧ w.grownBy w' (some g) := by
  subst hN
  exact take_yes w g A c D k n h hn hk
theorem sl_lit {k : IntKind} (w : World) (e : TypeId) (cs : Array Value) (l : List Int) (h : cs.toList = l.map (Value.int k)) : Sl k (w.alloc (.cells cs e)) (some ⟨w.heap.size, 0, none⟩) l := Sl.new_ w e cs l h
theorem BY.lit {l : List Int} (h : (l.all fun x => decide (0 ≤ x) && decide (x ≤ 255)) = true) : BY l := BY.of fun x hx => by
  rw [List.all_eq_true] at h
  have := h x hx
  simpa using this

theorem wlen_n (w : World) (B g : Nat) (A : Option Addr) (c : Nat) (L : List Int) (h : WS w B g A c L) (N : Int) (hN : (L.length : Int) = N) :
    Calls Try.prog 10 #[.pointer (some ⟨g, 0, none⟩)] w fun e w' => e = .returned (.int .i64 N) ∧ Below w.heap.size w w' := by
  subst hN
  exact wlen_any w B g A c L h
theorem new_n (A : Option Addr) (l : List Int) (n c : Nat) (hn : n = l.length) (D : List Int) (hD : (pln l).1 = D) (w : World) (hs : Sl .u8 w A l) (hl : l.length ≤ 1000000) (hy : BY l) :
    Calls Try.prog 14 #[.slice A n c] w fun e w' => ∃ g A' c', e = .returned (.pointer (some ⟨g, 0, none⟩)) ∧ w.heap.size ≤ g ∧ g < w'.heap.size ∧ RS w' g A' c' D 0 ∧ Below w.heap.size w w' := by
  subst hn; subst hD
  exact new_any A l c w hs hl hy
theorem take_v (w : World) (g : Nat) (A : Option Addr) (c : Nat) (D : List Int) (k n k' : Nat) (N V : Int) (hN : N = (n : Int)) (h : RS w g A c D k) (hn : n ≤ 16) (hk : k + n ≤ 8 * D.length) (hk' : k + n = k') (hV : numL (((bitsL D).drop k).take n) = V) :
    Calls Try.prog 21 #[.pointer (some ⟨g, 0, none⟩), .int .i64 N] w fun e w' => e = .returned (.tuple #[.int .i64 V, .bool true]) ∧ RS w' g A c D k' ∧ w.grownBy w' (some g) := by
  subst hN; subst hk'; subst hV
  exact take_yes w g A c D k n h hn hk
theorem left_v (w : World) (g : Nat) (A : Option Addr) (c : Nat) (D : List Int) (k : Nat) (N : Int) (hN : ((8 * D.length - k : Nat) : Int) = N) (h : RS w g A c D k) :
    Calls Try.prog 23 #[.pointer (some ⟨g, 0, none⟩)] w fun e w' => e = .returned (.int .i64 N) ∧ Below w.heap.size w w' := by
  subst hN
  exact left_any w g A c D k h
theorem same_n (A A' : Option Addr) (l : List Int) (n m c d : Nat) (hn : n = l.length) (hm : m = l.length) (w : World) (hs : Sl .u8 w A l) (ht : Sl .u8 w A' l) :
    Calls Try.prog 11 #[.slice A n c, .slice A' m d] w fun e w' => e = .returned (.bool true) ∧ w = w' := by
  subst hn; subst hm
  exact same_any A A' l c d w hs ht
theorem done_n (w : World) (B g : Nat) (A : Option Addr) (c : Nat) (L : List Int) (h : WS w B g A c L) (l : List Int) (n : Nat) (hl : stf (pck (padL L)) = l) (hn : l.length = n) :
    Calls Try.prog 12 #[.pointer (some ⟨g, 0, none⟩)] w fun e w' => ∃ A' c', e = .returned (.slice A' n c') ∧ Own .u8 5 w' w.heap.size (.slice A' n c') l ∧ Below w.heap.size w w' := by
  subst hl; subst hn
  exact done_any w B g A c L h
theorem stuff_n (A : Option Addr) (l : List Int) (n c : Nat) (hn : n = l.length) (w : World) (hs : Sl .u8 w A l) (hl : l.length ≤ 1000000000) (o : List Int) (m : Nat) (ho : stf l = o) (hm : o.length = m) :
    Calls Try.prog 19 #[.slice A n c] w fun e w' => ∃ A' c', e = .returned (.slice A' m c') ∧ Own .u8 5 w' w.heap.size (.slice A' m c') o ∧ Below w.heap.size w w' := by
  subst hn; subst ho; subst hm
  exact stuff_any A l c w hs hl
theorem bplain_n (A : Option Addr) (l : List Int) (n c : Nat) (hn : n = l.length) (w : World) (hs : Sl .u8 w A l) (hl : l.length ≤ 1000000000) (hy : (pln l).2 < l.length) :
    Calls Try.prog 16 #[.slice A n c] w fun e w' => e = .returned (.tuple #[.slice none 0 0, .bool false]) ∧ Below w.heap.size w w' := by
  subst hn
  exact bplain_no A l c w hs hl hy
theorem RS.gt {w : World} {g : Nat} {A : Option Addr} {c : Nat} {D : List Int} {k : Nat} (h : RS w g A c D k) : g < w.heap.size := by
  rcases Nat.lt_or_ge g w.heap.size with h1 | h1
  · exact h1
  · have := h.row; rw [Array.getElem?_eq_none h1] at this; cases this

set_option maxRecDepth 100000 in
set_option maxHeartbeats 2000000 in
theorem awake_any (w : World) : Calls Try.prog 7 #[] w fun e w' => e = .returned (.bool true) ∧ Below w.heap.size w w' := by
  go_enter Try.func7, Try.ntmps7
  go_wp2_with fail
  have H0 := Lib.hid (AW.new w w w.heap.size (brefl w) (Nat.le_refl _))
  refine (put_aw w _ w.heap.size w.heap.size none 0 [] H0.out 5 3 3 rfl (by decide) (by decide) (by decide)).mono ?_
  rintro e w1 ⟨A1, c1, rfl, h1, -, -⟩
  have H1 := Lib.hid h1
  clear h1
  go_wp2_with fail
  refine (put_aw w w1 w.heap.size w.heap.size A1 c1 _ H1.out 0 0 0 rfl (by decide) (by decide) (by decide)).mono ?_
  rintro e w2 ⟨A2, c2, rfl, h2, -, -⟩
  have H2 := Lib.hid h2
  clear h2
  go_wp2_with fail
  refine (put_aw w w2 w.heap.size w.heap.size A2 c2 _ H2.out 1 2 2 rfl (by decide) (by decide) (by decide)).mono ?_
  rintro e w3 ⟨A3, c3, rfl, h3, -, -⟩
  have H3 := Lib.hid h3
  clear h3
  go_wp2_with fail
  refine (put_aw w w3 w.heap.size w.heap.size A3 c3 _ H3.out (-1) 16 16 rfl (by decide) (by decide) (by decide)).mono ?_
  rintro e w4 ⟨A4, c4, rfl, h4, -, -⟩
  have H4 := Lib.hid h4
  clear h4
  go_wp2_with fail
  refine (put_no w4 w.heap.size 1 17 (by decide)).mono ?_
  rintro e w5 ⟨rfl, hb5⟩
  have H5 := Lib.hid (H4.out.keep hb5)
  clear hb5
  go_wp2_with fail
  refine (wlen_n w5 w.heap.size w.heap.size A4 c4 _ H5.out.ws 21 (by decide)).mono ?_
  rintro e w6 ⟨rfl, hb6⟩
  have H6 := Lib.hid (H5.out.keep hb6)
  clear hb6 H5 H4 H3 H2 H1 H0
  go_wp2_with fail
  have ha := ba (brefl w6) (.cells #[.int .u8 175, .int .u8 255, .int .u8 0, .int .u8 255, .int .u8 217] 5)
  refine (new_n _ [175, 255, 0, 255, 217] 5 5 rfl [175, 255] (by decide) _ (Sl.new_ w6 5 _ [175, 255, 0, 255, 217] rfl) (by decide) (BY.lit (by decide))).mono ?_
  rintro e w7 ⟨g, A7, c7, rfl, hg7, -, hr7, hb7⟩
  have hz6 : w6.heap.size < g := by simp at hg7; omega
  have H7 := Lib.hid (H6.out.keep (bt ha hb7))
  have R7 := Lib.hid hr7
  have hgw : w.heap.size ≠ g := by have := H6.out.ws.gt; omega
  have hgA : ob A4 ≠ some g := fun e => by have := (H6.out.ws.low g e).2; omega
  have hwg : w.heap.size ≤ g := by have := H6.out.ws.gt; omega
  clear hr7 hb7 ha hg7 H6 hz6
  have HN := Lib.hid hgw
  have HA := Lib.hid hgA
  clear hgw hgA
  go_wp2_with fail
  refine (take_v w7 g A7 c7 [175, 255] 0 4 4 4 10 rfl R7.out (by decide) (by decide) rfl (by decide)).mono ?_
  rintro e w8 ⟨rfl, hr8, hg8⟩
  have H8 := Lib.hid (H7.out.other hg8 HN.out.symm HA.out hwg)
  have R8 := Lib.hid hr8
  clear hr8 hg8 H7 R7
  go_wp2_with fail
  refine (take_v w8 g A7 c7 [175, 255] 4 4 8 4 15 rfl R8.out (by decide) (by decide) rfl (by decide)).mono ?_
  rintro e w9 ⟨rfl, hr9, hg9⟩
  have H9 := Lib.hid (H8.out.other hg9 HN.out.symm HA.out hwg)
  have R9 := Lib.hid hr9
  clear hr9 hg9 H8 R8
  go_wp2_with fail
  refine (take_no w9 g A7 c7 [175, 255] 8 16 R9.out (by decide)).mono ?_
  rintro e w10 ⟨rfl, hb10⟩
  have H10 := Lib.hid (H9.out.keep hb10)
  have R10 := Lib.hid (R9.out.keep hb10)
  clear hb10 H9 R9
  go_wp2_with fail
  refine (bplain_n _ [255] 1 1 rfl _ (Sl.new_ w10 5 _ [255] rfl) (by decide) (by decide)).mono ?_
  rintro e w11 ⟨rfl, hb11⟩
  have ha11 := bt (ba (brefl w10) (.cells #[.int .u8 255] 5)) hb11
  have H11 := Lib.hid (H10.out.keep ha11)
  have R11 := Lib.hid (R10.out.keep ha11)
  clear hb11 ha11 H10 R10
  go_wp2_with fail
  refine (done_n w11 w.heap.size w.heap.size A4 c4 _ H11.out.ws [175, 255, 0, 255, 0] 5 (by decide) rfl).mono ?_
  rintro e w12 ⟨A12, c12, rfl, ho12, hb12⟩
  have ha12 := bt hb12 (ba (brefl w12) (.cells #[.int .u8 175, .int .u8 255, .int .u8 0, .int .u8 255, .int .u8 0] 5))
  have H12 := Lib.hid (H11.out.keep ha12)
  have R12 := Lib.hid (R11.out.keep ha12)
  have S12 := Lib.hid ((ho12.alloc (.cells #[.int .u8 175, .int .u8 255, .int .u8 0, .int .u8 255, .int .u8 0] 5)).sl'.2)
  clear hb12 ha12 H11 R11 ho12
  go_wp2_with fail
  refine (same_n A12 _ [175, 255, 0, 255, 0] 5 5 c12 5 rfl rfl _ S12.out (Sl.new_ w12 5 _ [175, 255, 0, 255, 0] rfl)).mono ?_
  rintro e w' ⟨rfl, rfl⟩
  go_wp2_with fail
  refine (left_v _ g A7 c7 [175, 255] 8 8 (by decide) R12.out).mono ?_
  rintro e w13 ⟨rfl, hb13⟩
  have hB13 := H12.out.bel
  have hB14 := bt hB13 hb13
  clear H12 R12 S12 hB13 hb13
  go_wp2_with fail
  refine (stuff_n _ [1, 255] 2 2 rfl _ (Sl.new_ w13 5 _ [1, 255] rfl) (by decide) [1, 255, 0] 3 (by decide) rfl).mono ?_
  rintro e w14 ⟨A14, c14, rfl, ho14, hb14⟩
  have S14 := Lib.hid ((ho14.alloc (.cells #[.int .u8 1, .int .u8 255, .int .u8 0] 5)).sl'.2)
  clear ho14
  go_wp2_with fail
  refine (same_n A14 _ [1, 255, 0] 3 3 c14 3 rfl rfl _ S14.out (Sl.new_ w14 5 _ [1, 255, 0] rfl)).mono ?_
  rintro e w' ⟨rfl, rfl⟩
  go_wp2_with fail
  go_ret
  exact ⟨rfl, bt hB14 (ba (bt (ba (brefl w13) _) hb14) _)⟩
end Go.Proofs.Ytoclmeblbjpilaa
