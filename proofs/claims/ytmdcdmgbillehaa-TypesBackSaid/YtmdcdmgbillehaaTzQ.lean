/- Numbers read: number, its closures, each. -/
import Derived.Test.YtmdcdmgbillehaaTz
import Derived.Test.YtmdcdmgbillehaaTzK
namespace Go.Proofs.Ytmdcdmgbillehaa
open Go.RowKit
open Go.Tin
set_option linter.unusedVariables false
set_option linter.unusedSimpArgs false


/-- The number at a place, as a type has it. -/
def numV (t : Int) (l : List Int) (a : Int) : Int := if sgT t then sgN (getN l a (prT t) 2) (prT t) else getN l a (prT t) 2
set_option maxRecDepth 100000 in
set_option maxHeartbeats 4000000 in
theorem num_any (t a : Int) (A : Option Addr) (l : List Int) (cap : Nat) (w : World) (hs : Sl .u8 w A l) (hl : l.length ≤ 1000000000) (hby : Byts l) :
    Calls Try.prog 52 #[.agg #[.int .i64 (szT t), .int .i64 (prT t), .int .i64 (isT t)], .slice A l.length cap, .int .i64 a] w fun e w' => e = .returned (.int .i64 (numV t l a)) ∧ Below w.heap.size w w' := by
  have HB := Lib.hid (ba (brefl w) (.cells #[.int .i64 (szT t), .int .i64 (prT t), .int .i64 (isT t)] 58))
  have HR := Lib.hid (heap_alloc_new w (.cells #[.int .i64 (szT t), .int .i64 (prT t), .int .i64 (isT t)] 58))
  have HG := Lib.hid (get_any A l cap a (prT t) 2 _ (hs.keep HB.out) hl hby)
  have HV := Lib.hid (show numV t l a = (if sgT t then sgN (getN l a (prT t) 2) (prT t) else getN l a (prT t) 2) from rfl)
  have HSG := Lib.hid (is_sg t)
  have k1 := row_cell (v := .int .i64 (prT t)) HR.out 1 rfl
  generalize getN l a (prT t) 2 = N at *
  generalize getB l.length a (prT t) 2 = NB at *
  clear hs hby
  go_enter Try.func52, Try.ntmps52
  go_wp2_with fail
  refine HG.out.mono ?_
  rintro e w1 ⟨rfl, hb⟩
  replace HR := Lib.hid ((hb.block _ (row_lt HR.out)).trans HR.out)
  replace HB := Lib.hid (HB.out.trans (hb.mono HB.out.size))
  clear hb k1 HG
  have q1 := row_cell (v := .int .i64 (prT t)) HR.out 1 rfl
  have q2 := row_cell (v := .int .i64 (isT t)) HR.out 2 rfl
  cases hsg : sgT t with
  | false =>
    have h2 : (isT t == 2) = false := by
      have := HSG.out; rw [hsg] at this
      cases h : (isT t == 2) with
      | false => rfl
      | true => rw [h] at this; cases this
    have h4 : (isT t == 4) = false := by
      have := HSG.out; rw [hsg, h2] at this; simpa using this
    have HE := Lib.hid (show numV t l a = N by rw [HV.out, hsg]; rfl)
    clear hsg
    go_wp2_with fail
    go_ret
    exact ⟨by rw [HE.out]; rfl, HB.out⟩
  | true =>
    have HE := Lib.hid (show numV t l a = sgN N (prT t) by rw [HV.out, hsg]; rfl)
    have step : (isT t == 2) = true ∨ ((isT t == 2) = false ∧ (isT t == 4) = true) := by
      have := HSG.out; rw [hsg] at this
      cases h : (isT t == 2) with
      | true => exact .inl rfl
      | false => rw [h] at this; exact .inr ⟨rfl, by simpa using this⟩
    clear hsg
    rcases step with s2 | ⟨s2, s4⟩
    all_goals
      go_wp2_with fail
      refine (signed_any N (prT t) _).mono ?_
      rintro e w2 ⟨rfl, hb⟩
      go_wp2_with fail
      go_ret
      exact ⟨by rw [HE.out]; rfl, HB.out.trans (hb.mono HB.out.size)⟩
set_option maxRecDepth 100000 in
set_option maxHeartbeats 4000000 in
theorem c51_any (t a : Int) (g4 g1 : Nat) (c : Int) (A : Option Addr) (l : List Int) (cap : Nat) (w : World) (hg4 : w.heap[g4]? = some (.cells #[.int .i64 (szT t), .int .i64 (prT t), .int .i64 (isT t)] 58 (0, 0))) (hg1 : w.heap[g1]? = some (.cells (vrow t c A l.length cap) 27 (0, 0))) (hs : Sl .u8 w A l) (hl : l.length ≤ 1000000000) (hby : Byts l) :
    Calls Try.prog 51 #[.int .i64 a, .pointer (some ⟨g4, 0, none⟩), .pointer (some ⟨g1, 0, none⟩)] w fun e w' => e = .returned (.int .i64 (numV t l a)) ∧ Below w.heap.size w w' := by
  have HG := Lib.hid (num_any t a A l cap w hs hl hby)
  have HG4 := Lib.hid hg4
  have k2 := row_cell (v := .slice A l.length cap) hg1 2 rfl
  clear hg4 hg1 hs hby
  go_enter Try.func51, Try.ntmps51
  go_wp2_with ((with_reducible refine wpl_load_row rtK ?_ (.tmp 1) ?_ g4 ?_ 58 #[.int .i64 (szT t), .int .i64 (prT t), .int .i64 (isT t)] ?_ HG4.out ?_); rfl; rfl; rfl; rfl; simp only [Act.put, List.setIfInBounds_toArray, List.set_cons_succ, List.set_cons_zero])
  refine HG.out.mono ?_
  rintro e w1 ⟨rfl, hb⟩
  go_wp2_with fail
  go_ret
  exact ⟨rfl, hb⟩
/-- The numbers at the first places, s apart. -/
def atsV (t : Int) (l : List Int) (s : Int) : Nat → List Int
  | 0 => []
  | i + 1 => atsV t l s i ++ [numV t l ((i : Int) * s)]
theorem atsV_len (t : Int) (l : List Int) (s : Int) : ∀ i, (atsV t l s i).length = i
  | 0 => rfl
  | i + 1 => by show (atsV t l s i ++ [_]).length = i + 1; rw [List.length_append, atsV_len t l s i]; rfl
theorem szmul {s : Int} (hs : s = 1 ∨ s = 2 ∨ s = 4 ∨ s = 8) {i m : Nat} (h : i < m) : (i : Int) * s < (m : Int) * s ∧ 0 ≤ (i : Int) * s := by
  rcases hs with rfl | rfl | rfl | rfl <;> omega
theorem szstep {s : Int} (hs : s = 1 ∨ s = 2 ∨ s = 4 ∨ s = 8) (i : Nat) : (i : Int) * s + s = ((i + 1 : Nat) : Int) * s := by
  rcases hs with rfl | rfl | rfl | rfl <;> omega
set_option maxRecDepth 100000 in
set_option maxHeartbeats 8000000 in
theorem each_any (t s : Int) (g4 g1 : Nat) (c : Int) (A : Option Addr) (l : List Int) (cap m : Nat) (w : World) (hg4 : w.heap[g4]? = some (.cells #[.int .i64 (szT t), .int .i64 (prT t), .int .i64 (isT t)] 58 (0, 0))) (hg1 : w.heap[g1]? = some (.cells (vrow t c A l.length cap) 27 (0, 0))) (hs : Sl .u8 w A l) (hl : l.length ≤ 1000000) (hby : Byts l) (hsz : s = 1 ∨ s = 2 ∨ s = 4 ∨ s = 8) (hm : (l.length : Int) = (m : Int) * s) :
    Calls Try.prog 50 #[.slice A l.length cap, .int .i64 s, .func (.func 51) #[] #[.pointer (some ⟨g4, 0, none⟩), .pointer (some ⟨g1, 0, none⟩)]] w fun e w' => ∃ A' c', e = .returned (.slice A' m c') ∧ Own .i64 3 w' w.heap.size (.slice A' m c') (atsV t l s m) ∧ Below w.heap.size w w' := by
  have HG4 := Lib.hid hg4
  have HG1 := Lib.hid hg1
  have HS := Lib.hid hs
  have HBY := Lib.hid hby
  have HM := Lib.hid hm
  have HSZ := Lib.hid hsz
  have HML := Lib.hid (show m ≤ l.length by rcases hsz with rfl | rfl | rfl | rfl <;> omega)
  have hs0 : 0 < s ∧ s ≤ 8 := by rcases hsz with rfl | rfl | rfl | rfl <;> decide
  clear hg4 hg1 hs hby hm hsz
  go_enter Try.func50, Try.ntmps50
  go_wp2_with fail
  go_loopw [7, 8] (fun s7 s8 wr => ∃ (i : Nat) (A1 : Option Addr) (c1 : Nat), i ≤ m ∧ s8 = .int .i64 ((i : Int) * s) ∧ s7 = .slice A1 i c1 ∧ Own .i64 3 wr w.heap.size (.slice A1 i c1) (atsV t l s i) ∧ Below w.heap.size w wr) (fun _ s8 _ => l.length - (intOf s8).toNat)
  case atStart => exact ⟨0, none, 0, by omega, by simp, rfl, Own.nil_ _ _ _ _, brefl w⟩
  case round =>
    obtain ⟨i, A1, c1, hi, rfl, rfl, hown, hb⟩ := hrel
    have HO := Lib.hid hown
    have HB := Lib.hid hb
    clear hown hb
    have HLN := Lib.hid (atsV_len t l s i)
    have HST := Lib.hid (show atsV t l s (i + 1) = atsV t l s i ++ [numV t l ((i : Int) * s)] from rfl)
    have HSP := Lib.hid (szstep HSZ.out i)
    by_cases hil : i < m
    · have HSM := Lib.hid (szmul HSZ.out hil)
      have HC := Lib.hid (c51_any t ((i : Int) * s) g4 g1 c A l cap wr ((HB.out.block _ (row_lt HG4.out)).trans HG4.out) ((HB.out.block _ (row_lt HG1.out)).trans HG1.out) (HS.out.keep HB.out) (by omega) HBY.out)
      have p0 := HSM.out.2
      have p1 : (i : Int) * s < (l.length : Int) := by rw [HM.out]; exact HSM.out.1
      generalize hat : (i : Int) * s = at_ at *
      have HAT := Lib.hid hat
      clear hat
      generalize numV t l at_ = N at *
      go_wp2_with fail
      refine HC.out.mono ?_
      rintro e w1 ⟨rfl, hb1⟩
      replace HO := Lib.hid (HO.out.keep hb1)
      replace HB := Lib.hid (HB.out.trans (hb1.mono HB.out.size))
      clear hb1 HC
      go_wp2_with (at_builtin; refine Tin.wpl_push bt3 w1 w1 N rfl (.tmp 16) (.tmp 20) rfl w.heap.size A1 i c1 (atsV t l s i) rfl HO.out (Below.refl _ _) HB.out.size rfl (by rw [HLN.out]; have := HML.out; omega) (by rw [HLN.out]; have := HML.out; omega) ?_; intro A2 c2 w2 ho2 hb2 hs2 hg2 hw2; rw [← HST.out] at ho2; have HO2 := Lib.hid ho2; have HB2 := Lib.hid (HB.out.trans hb2); clear ho2 hb2 hs2 hg2 hw2)
      have HSP2 := HSP.out
      go_roundw
      case rel => exact ⟨i + 1, A2, c2, by omega, by rw [← HSP2], rfl, HO2.out, HB2.out⟩
      case measure => simp [intOf]; omega
    · obtain rfl : i = m := by omega
      have p1 : ¬ ((i : Int) * s < (l.length : Int)) := by rw [HM.out]; omega
      generalize (i : Int) * s = at_ at *
      go_wp2_with fail
      go_ret
      exact ⟨A1, c1, rfl, HO.out, HB.out⟩
end Go.Proofs.Ytmdcdmgbillehaa
