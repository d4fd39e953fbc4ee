/- The contract of an entry's bytes. -/
import Derived.Test.YthjmnahmejagmaaEnB
import Derived.Test.YthjmnahmejagmaaOcG
namespace Go.Proofs.Ythjmnahmejagmaa
open Go.RowKit
open Go.Tin
set_option linter.unusedVariables false
set_option linter.unusedSimpArgs false


def szE : List Int := [2, 2, 4, 4]
/-- The bytes of the first numbers, one behind the other; may they all be? -/
def preE (vs : List Int) (o : Int) : Nat → List Int
  | 0 => []
  | i + 1 => preE vs o i ++ putL (nth vs i) (nth szE i) o
def okE (vs : List Int) (o : Int) : Nat → Bool
  | 0 => true
  | i + 1 => okE vs o i && putB (nth vs i) (nth szE i) o
def ewB (a b c d o : Int) : Bool := okE [a, b, c, d] o 4
def ewL (a b c d o : Int) : List Int := if ewB a b c d o then preE [a, b, c, d] o 4 else []
theorem putL_le (n s o : Int) (h : s = 2 ∨ s = 4) : (putL n s o).length ≤ 4 := by
  unfold putL ordL
  split
  · split
    · rw [List.length_reverse, bytesOf_len]; omega
    · rw [bytesOf_len]; omega
  · simp
theorem szE_or (i : Nat) (h : i < 4) : nth szE i = 2 ∨ nth szE i = 4 := by
  rcases (by omega : i = 0 ∨ i = 1 ∨ i = 2 ∨ i = 3) with rfl | rfl | rfl | rfl <;> decide
theorem preE_le (vs : List Int) (o : Int) : ∀ i, i ≤ 4 → (preE vs o i).length ≤ 4 * i
  | 0, _ => by simp [preE]
  | i + 1, h => by
    have := preE_le vs o i (by omega)
    have := putL_le (nth vs i) (nth szE i) o (szE_or i (by omega))
    rw [preE, List.length_append]
    omega
theorem okE_no {vs : List Int} {o : Int} (i : Nat) (h : putB (nth vs i) (nth szE i) o = false) : ∀ j, i < j → okE vs o j = false
  | 0, hj => by omega
  | j + 1, hj => by
    unfold okE
    by_cases hij : i = j
    · subst hij; rw [h]; simp
    · rw [okE_no i h j (by omega)]; rfl
theorem idx4 (a b c d : Int) (i : Nat) (hi : i < 4) (w : World) : (Instr.index 66 (.agg #[.int .i64 a, .int .i64 b, .int .i64 c, .int .i64 d]) (.int .i64 (i : Int))).run Try.prog w = .ok (.int .i64 (nth [a, b, c, d] i)) w := by
  rcases (by omega : i = 0 ∨ i = 1 ∨ i = 2 ∨ i = 3) with rfl | rfl | rfl | rfl <;> kernel_rfl
set_option maxRecDepth 100000 in
set_option maxHeartbeats 8000000 in
theorem ewr_any (a b c d o : Int) (w : World) :
    Calls Try.prog 21 #[.agg (erow a b c d), .int .i64 o] w fun e w' => ∃ A' c', e = .returned (.tuple #[.slice A' (ewL a b c d o).length c', .bool (ewB a b c d o)]) ∧ Own .u8 5 w' w.heap.size (.slice A' (ewL a b c d o).length c') (ewL a b c d o) ∧ Below w.heap.size w w' := by
  obtain ⟨W, hW⟩ : ∃ W, W = (w.alloc (.cells (erow a b c d) 26)).alloc (.cells #[.int .i64 2, .int .i64 2, .int .i64 4, .int .i64 4] 66) := ⟨_, rfl⟩
  have HB := Lib.hid (show Below w.heap.size w W by rw [hW]; exact ba (ba (brefl w) _) _)
  have HX := Lib.hid (show W.heap[w.heap.size]? = some (.cells (erow a b c d) 26 (0, 0)) by rw [hW, Below.heap_alloc _ _ _ (by simp)]; exact heap_alloc_new w _)
  have HR := Lib.hid (show W.heap[w.heap.size + 1]? = some (.cells #[.int .i64 2, .int .i64 2, .int .i64 4, .int .i64 4] 66 (0, 0)) by
    have := heap_alloc_new (w.alloc (.cells (erow a b c d) 26)) (.cells #[.int .i64 2, .int .i64 2, .int .i64 4, .int .i64 4] 66)
    rw [hW]
    simpa using this)
  have HED := Lib.hid (show ewL a b c d o = (if ewB a b c d o then preE [a, b, c, d] o 4 else []) ∧ ewB a b c d o = okE [a, b, c, d] o 4 from ⟨rfl, rfl⟩)
  go_enter Try.func21, Try.ntmps21
  go_wp2_with fail
  rw [← hW]
  clear hW
  go_loopw [6, 22] (fun s6 s22 wr => ∃ (i : Nat) (A : Option Addr) (cc : Nat), i ≤ 4 ∧ s22 = .int .i64 (i : Int) ∧ s6 = .slice A (preE [a, b, c, d] o i).length cc ∧ okE [a, b, c, d] o i = true ∧ Own .u8 5 wr W.heap.size (.slice A (preE [a, b, c, d] o i).length cc) (preE [a, b, c, d] o i) ∧ Below W.heap.size W wr) (fun _ s22 _ => 4 - (intOf s22).toNat)
  case atStart => exact ⟨0, none, 0, by omega, rfl, rfl, rfl, Own.nil_ _ _ _ _, brefl W⟩
  case round =>
    obtain ⟨i, A, cc, hi, rfl, rfl, hok, hown, hb⟩ := hrel
    have HOK := Lib.hid hok
    have HO := Lib.hid hown
    have HB1 := Lib.hid hb
    have hW1 : W.heap.size ≤ wr.heap.size := hb.size
    clear hok hown hb
    by_cases hi4 : i < 4
    · have i1 : (i : Int) < 4 := by omega
      have HI := Lib.hid (fun W => idx4 a b c d i hi4 W)
      have k0 : wr.cell? ⟨w.heap.size + 1, i, none⟩ = some (.int .i64 (nth szE i)) := by
        refine row_cell ((HB1.out.block _ (row_lt HR.out)).trans HR.out) i ?_
        rcases (by omega : i = 0 ∨ i = 1 ∨ i = 2 ∨ i = 3) with rfl | rfl | rfl | rfl <;> rfl
      have HPL := Lib.hid (putL_le (nth [a, b, c, d] i) (nth szE i) o (szE_or i hi4))
      have HPR := Lib.hid (preE_le [a, b, c, d] o i hi)
      have HPS := Lib.hid (show preE [a, b, c, d] o (i + 1) = preE [a, b, c, d] o i ++ putL (nth [a, b, c, d] i) (nth szE i) o ∧ okE [a, b, c, d] o (i + 1) = (okE [a, b, c, d] o i && putB (nth [a, b, c, d] i) (nth szE i) o) from ⟨rfl, rfl⟩)
      have HNO := Lib.hid (fun h => okE_no (vs := [a, b, c, d]) (o := o) i h 4 hi4)
      have HPU := Lib.hid (fun W => put_any (nth [a, b, c, d] i) (nth szE i) o W)
      generalize nth [a, b, c, d] i = V at *
      generalize nth szE i = S at *
      generalize preE [a, b, c, d] o i = PR at *
      go_wp2_with ((with_reducible refine wpl_index ?_ 66 (.tmp 21) (.tmp 22) ?_ _ _ ?_ ?_ _ (HI.out _) ?_); rfl; rfl; rfl; rfl; simp only [Act.put, List.setIfInBounds_toArray, List.set_cons_succ, List.set_cons_zero])
      refine (HPU.out _).mono ?_
      rintro e w2 ⟨A2, c2, rfl, ho2, hb2⟩
      have HO2 := Lib.hid ho2
      have HOb := Lib.hid (HO.out.keep hb2)
      have HB2 := Lib.hid (HB1.out.trans (hb2.mono HB1.out.size))
      have hs2 : wr.heap.size ≤ w2.heap.size := hb2.size
      clear ho2 hb2 HO HPU HI k0
      generalize putL V S o = PL at *
      cases hp : putB V S o with
      | false =>
        have HE := Lib.hid (show ewB a b c d o = false from HED.out.2.trans (HNO.out hp))
        have HE2 := Lib.hid (show ewL a b c d o = [] by rw [HED.out.1, HE.out]; rfl)
        clear hp
        go_wp2_with fail
        go_ret2
        rw [HE.out, HE2.out]
        exact ⟨none, 0, rfl, Own.nil_ _ _ _ _, HB.out.trans (HB2.out.mono HB.out.size)⟩
      | true =>
        have HOK2 := Lib.hid (show okE [a, b, c, d] o (i + 1) = true by rw [HPS.out.2, HOK.out, hp]; rfl)
        clear hp
        go_wp2_with (at_builtin; refine Tin.wpl_app bt5 _ rfl (.tmp 37) (.tmp 38) rfl W.heap.size (.slice A PR.length cc) PR rfl HOb.out A2 PL.length c2 PL rfl HO2.out.sl'.2 rfl (by have := HPL.out; have := HPR.out; omega) (by have := HPL.out; have := HPR.out; omega) (by omega) ?_; intro v3 w3 ho3 hg3 hw3)
        obtain ⟨A3, c3, rfl⟩ := own_form ho3
        have HB3 := HB2.out.grown hg3 HB2.out.size (fun k hk => (World.ownsRow.lt HOb.out k hk).1)
        go_roundw
        case rel =>
          refine ⟨i + 1, A3, c3, by omega, by go_num, ?_, HOK2.out, ?_, HB3⟩
          · rw [HPS.out.1]
          · rw [HPS.out.1]; exact ho3
        case measure => simp [intOf]; omega
    · obtain rfl : i = 4 := by omega
      have HE := Lib.hid (show ewB a b c d o = true from HED.out.2.trans HOK.out)
      have HE2 := Lib.hid (show ewL a b c d o = preE [a, b, c, d] o 4 by rw [HED.out.1, HE.out]; rfl)
      generalize preE [a, b, c, d] o 4 = PR at *
      go_wp2_with fail
      go_ret2
      rw [HE.out, HE2.out]
      exact ⟨A, cc, rfl, HO.out.mono HB.out.size, HB.out.trans (HB1.out.mono HB.out.size)⟩
end Go.Proofs.Ythjmnahmejagmaa
