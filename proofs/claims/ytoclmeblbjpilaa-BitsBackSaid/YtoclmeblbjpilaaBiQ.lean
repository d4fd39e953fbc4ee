/- The contracts of a Writer: Len. -/
import Derived.Test.YtoclmeblbjpilaaBiH
import Derived.Test.YtoclmeblbjpilaaBiP
import Derived.BigRegion
namespace Go.Proofs.Ytoclmeblbjpilaa
open Go.RowKit
open Go.Tin
set_option linter.unusedVariables false
set_option linter.unusedSimpArgs false


/-- The writer at block g has bits L; its bytes lie in a row of the caller's own, from block B on. -/
structure WS (w : World) (B g : Nat) (A : Option Addr) (c : Nat) (L : List Int) : Prop where
  row : w.heap[g]? = some (.cells #[.slice A (L.length / 8) c, .int .u32 (numL (L.drop (8 * (L.length / 8)))), .int .i64 ((L.length % 8 : Nat) : Int)] 27 (0, 0))
  own : Own .u8 5 w B (.slice A (L.length / 8) c) (pck L)
  ne : (Value.slice A (L.length / 8) c).ownBlock ≠ some g
  bits : ∀ x ∈ L, x = 0 ∨ x = 1
  len : L.length ≤ 100000
theorem WS.keep {w w' : World} {B g : Nat} {A : Option Addr} {c : Nat} {L : List Int} (h : WS w B g A c L) (hb : Below w.heap.size w w') : WS w' B g A c L :=
  ⟨(hb.block _ (by rcases Nat.lt_or_ge g w.heap.size with h1 | h1; exact h1; have := h.row; rw [Array.getElem?_eq_none h1] at this; cases this)).trans h.row, h.own.keep hb, h.ne, h.bits, h.len⟩

theorem wlen_any (w : World) (B g : Nat) (A : Option Addr) (c : Nat) (L : List Int) (h : WS w B g A c L) :
    Calls Try.prog 10 #[.pointer (some ⟨g, 0, none⟩)] w fun e w' => e = .returned (.int .i64 (L.length : Int)) ∧ Below w.heap.size w w' := by
  have c0 := row_cell h.row 0 rfl
  have c1 := row_cell h.row 2 rfl
  have l2 := h.len
  obtain ⟨q, hq⟩ : ∃ q, q = L.length / 8 := ⟨_, rfl⟩
  obtain ⟨r, hr⟩ : ∃ r, r = L.length % 8 := ⟨_, rfl⟩
  rw [← hq] at c0
  rw [← hr] at c1
  have e1 : q ≤ 100000 := by omega
  have e2 : r ≤ 8 := by omega
  have HE := Lib.hid (show L.length = 8 * q + r by omega)
  clear h hq hr
  go_enter Try.func10, Try.ntmps10
  go_wp2_with fail
  go_quiet (fail)
  go_wp2_with fail
  go_ret
  exact ⟨ret_int (by rw [HE.out]; omega), bdn (brefl w) _⟩
end Go.Proofs.Ytoclmeblbjpilaa
