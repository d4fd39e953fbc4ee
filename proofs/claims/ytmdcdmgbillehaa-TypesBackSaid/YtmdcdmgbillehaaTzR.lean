/- Numbers: the contracts of Numbers and the reference's. -/
import Derived.Test.YtmdcdmgbillehaaTzQ
namespace Go.Proofs.Ytmdcdmgbillehaa
open Go.RowKit
open Go.Tin
set_option linter.unusedVariables false
set_option linter.unusedSimpArgs false


def numB (t c : Int) (l : List Int) : Bool := mayV t c l && decide (isT t ≤ 2)
def numL (t c : Int) (l : List Int) : List Int := if numB t c l then atsV t l (szT t) c.toNat else []
theorem num_no {t c : Int} {l : List Int} (h : numB t c l = false) : numL t c l = [] := by unfold numL; rw [h]; rfl
theorem may_sz {t c : Int} {l : List Int} (h : mayV t c l = true) : (szT t = 1 ∨ szT t = 2 ∨ szT t = 4 ∨ szT t = 8) ∧ (l.length : Int) = (c.toNat : Int) * szT t ∧ 1 ≤ c ∧ c ≤ 65536 := by
  obtain ⟨h1, h2, h3, h4, _⟩ := (mayV_iff t c l).1 h
  refine ⟨?_, ?_, h2, h3⟩
  · rcases szT_cases t with ⟨h, _⟩ | ⟨_, _, h⟩
    · exact absurd h h1
    · exact h
  · rw [h4, Int.toNat_of_nonneg (by omega)]
set_option maxRecDepth 100000 in
set_option maxHeartbeats 8000000 in
theorem nums_any (t c : Int) (A : Option Addr) (l : List Int) (cap : Nat) (w : World) (hs : Sl .u8 w A l) (hl : l.length ≤ 1000000) (hby : Byts l) :
    Calls Try.prog 24 #[.agg #[.int .i64 t, .int .i64 c, .slice A l.length cap]] w fun e w' => ∃ A' c', e = .returned (.tuple #[.slice A' (numL t c l).length c', .bool (numB t c l)]) ∧ Sl .i64 w' A' (numL t c l) ∧ Below w.heap.size w w' := by
  have HB := Lib.hid (ba (brefl w) (.cells (vrow t c A l.length cap) 27))
  have R1 := Lib.hid (heap_alloc_new w (.cells (vrow t c A l.length cap) 27))
  have HS := Lib.hid (hs.keep HB.out)
  have HBY := Lib.hid hby
  have k0 := row_cell (v := .int .i64 t) R1.out 0 rfl
  have HNO := Lib.hid (fun h => num_no (t := t) (c := c) (l := l) h)
  have HDE := Lib.hid (show numB t c l = (mayV t c l && decide (isT t ≤ 2)) ∧ numL t c l = (if numB t c l then atsV t l (szT t) c.toNat else []) from ⟨rfl, rfl⟩)
  have HMS := Lib.hid (fun h => may_sz (t := t) (c := c) (l := l) h)
  clear hs hby
  go_enter Try.func24, Try.ntmps24
  go_wp2_with fail
  refine (of_any t _).mono ?_
  rintro e w1 ⟨rfl, hb⟩
  replace R1 := Lib.hid ((hb.block _ (row_lt R1.out)).trans R1.out)
  replace HB := Lib.hid (HB.out.trans (hb.mono HB.out.size))
  replace HS := Lib.hid (HS.out.keep hb)
  clear hb k0
  have hb2 := ba (brefl w1) (.cells #[.int .i64 (szT t), .int .i64 (prT t), .int .i64 (isT t)] 58)
  have R4 := Lib.hid (heap_alloc_new w1 (.cells #[.int .i64 (szT t), .int .i64 (prT t), .int .i64 (isT t)] 58))
  replace R1 := Lib.hid ((hb2.block _ (row_lt R1.out)).trans R1.out)
  replace HB := Lib.hid (HB.out.trans (hb2.mono HB.out.size))
  replace HS := Lib.hid (HS.out.keep hb2)
  clear hb2
  go_wp2_with ((with_reducible refine wpl_load_row rtV ?_ (.tmp 1) ?_ (w.heap.size) ?_ 27 (vrow t c A l.length cap) ?_ R1.out ?_); rfl; rfl; rfl; rfl; simp only [Act.put, List.setIfInBounds_toArray, List.set_cons_succ, List.set_cons_zero])
  refine (vmay_any t c A l cap _ HS.out (by omega) HBY.out).mono ?_
  rintro e w2 ⟨rfl, hb⟩
  replace R1 := Lib.hid ((hb.block _ (row_lt R1.out)).trans R1.out)
  replace R4 := Lib.hid ((hb.block _ (row_lt R4.out)).trans R4.out)
  replace HB := Lib.hid (HB.out.trans (hb.mono HB.out.size))
  replace HS := Lib.hid (HS.out.keep hb)
  clear hb
  have k0 := row_cell (v := .int .i64 (szT t)) R4.out 0 rfl
  have k2 := row_cell (v := .int .i64 (isT t)) R4.out 2 rfl
  have k3 := row_cell (v := .slice A l.length cap) R1.out 2 rfl
  cases hmv : mayV t c l with
  | false =>
    have HE := Lib.hid (show numB t c l = false by rw [HDE.out.1, hmv]; rfl)
    clear hmv
    go_wp2_with fail
    go_ret2
    rw [HE.out, HNO.out HE.out]
    exact ⟨none, 0, rfl, .inl rfl, HB.out⟩
  | true =>
    obtain ⟨hz, hlen, -, -⟩ := HMS.out hmv
    by_cases h2 : 2 < isT t
    · have HE := Lib.hid (show numB t c l = false by rw [HDE.out.1, decide_eq_false (by omega)]; simp)
      clear hmv hz hlen
      have d2 : decide (2 < isT t) = true := by simpa using h2
      clear h2
      go_wp2_with fail
      go_ret2
      rw [HE.out, HNO.out HE.out]
      exact ⟨none, 0, rfl, .inl rfl, HB.out⟩
    · have HE := Lib.hid (show numB t c l = true by rw [HDE.out.1, hmv, decide_eq_true (show isT t ≤ 2 by omega)]; rfl)
      have HL := Lib.hid (show numL t c l = atsV t l (szT t) c.toNat by rw [HDE.out.2, HE.out]; rfl)
      have HC := Lib.hid (each_any t (szT t) w1.heap.size w.heap.size c A l cap c.toNat w2 R4.out R1.out HS.out hl HBY.out hz hlen)
      have HLN := Lib.hid (atsV_len t l (szT t) c.toNat)
      have d2 : decide (2 < isT t) = false := by simpa using h2
      clear hmv hz hlen h2
      go_wp2_with fail
      refine HC.out.mono ?_
      rintro e w3 ⟨A3, c3, rfl, ho3, hb3⟩
      have HO3 := Lib.hid ho3
      replace HB := Lib.hid (HB.out.trans (hb3.mono HB.out.size))
      clear ho3 hb3 HC k0 k2 k3
      generalize c.toNat = m at *
      go_wp2_with fail
      go_ret2
      rw [HE.out, HL.out, HLN.out]
      exact ⟨A3, c3, rfl, HO3.out.sl'.2, HB.out⟩
set_option maxRecDepth 100000 in
set_option maxHeartbeats 8000000 in
theorem rall_any (t c : Int) (A : Option Addr) (l : List Int) (cap m : Nat) (w : World) (hs : Sl .u8 w A l) (hl : l.length ≤ 1000000) (hby : Byts l) (hsz : prT t = 1 ∨ prT t = 2 ∨ prT t = 4 ∨ prT t = 8) (hm : (l.length : Int) = (m : Int) * prT t) :
    Calls Try.prog 53 #[.agg #[.int .i64 t, .int .i64 c, .slice A l.length cap]] w fun e w' => ∃ A' c', e = .returned (.slice A' m c') ∧ Own .i64 3 w' w.heap.size (.slice A' m c') (atsV t l (prT t) m) ∧ Below w.heap.size w w' := by
  have HB := Lib.hid (ba (brefl w) (.cells (vrow t c A l.length cap) 27))
  have R1 := Lib.hid (heap_alloc_new w (.cells (vrow t c A l.length cap) 27))
  have HS := Lib.hid (hs.keep HB.out)
  have HBY := Lib.hid hby
  have HM := Lib.hid hm
  have HSZ := Lib.hid hsz
  have HML := Lib.hid (show m ≤ l.length by rcases hsz with h | h | h | h <;> rw [h] at hm <;> omega)
  have hs0 : 0 < prT t ∧ prT t ≤ 8 := by rcases hsz with h | h | h | h <;> rw [h] <;> decide
  have k0 := row_cell (v := .int .i64 t) R1.out 0 rfl
  clear hs hby hm hsz
  go_enter Try.func53, Try.ntmps53
  go_wp2_with fail
  refine (rpart_any t _).mono ?_
  rintro e w' ⟨rfl, rfl⟩
  go_wp2_with fail
  generalize (w.alloc (.cells (vrow t c A l.length cap) 27)) = W at *
  clear k0
  have HBW := Lib.hid (brefl W)
  go_loopw [3, 5] (fun s3 s5 wr => ∃ (i : Nat) (A1 : Option Addr) (c1 : Nat), i ≤ m ∧ s5 = .int .i64 ((i : Int) * prT t) ∧ s3 = .slice A1 i c1 ∧ Own .i64 3 wr W.heap.size (.slice A1 i c1) (atsV t l (prT t) i) ∧ Below W.heap.size W wr) (fun _ s5 _ => l.length - (intOf s5).toNat)
  case atStart => exact ⟨0, none, 0, by omega, by simp, rfl, Own.nil_ _ _ _ _, brefl W⟩
  case round =>
    obtain ⟨i, A1, c1, hi, rfl, rfl, hown, hb⟩ := hrel
    have HO := Lib.hid hown
    replace HBW := Lib.hid hb
    have k0 := row_cell (v := .int .i64 t) ((hb.block _ (row_lt R1.out)).trans R1.out) 0 rfl
    have k2 := row_cell (v := .slice A l.length cap) ((hb.block _ (row_lt R1.out)).trans R1.out) 2 rfl
    clear hown hb
    have HLN := Lib.hid (atsV_len t l (prT t) i)
    have HST := Lib.hid (show atsV t l (prT t) (i + 1) = atsV t l (prT t) i ++ [numV t l ((i : Int) * prT t)] from rfl)
    have HSP := Lib.hid (szstep HSZ.out i)
    have HV := Lib.hid (show numV t l ((i : Int) * prT t) = (if sgT t then sgN (getN l ((i : Int) * prT t) (prT t) 2) (prT t) else getN l ((i : Int) * prT t) (prT t) 2) from rfl)
    by_cases hil : i < m
    · have HSM := Lib.hid (szmul HSZ.out hil)
      have HC := Lib.hid (rget_any A l cap ((i : Int) * prT t) (prT t) 2 wr (HS.out.keep HBW.out) (by omega) HBY.out)
      have p0 := HSM.out.2
      have p1 : (i : Int) * prT t < (l.length : Int) := by rw [HM.out]; exact HSM.out.1
      generalize hat : (i : Int) * prT t = at_ at *
      have HAT := Lib.hid hat
      clear hat
      generalize getN l at_ (prT t) 2 = N at *
      generalize getB l.length at_ (prT t) 2 = NB at *
      generalize numV t l at_ = V at *
      go_wp2_with fail
      refine HC.out.mono ?_
      rintro e w1 ⟨rfl, hb1⟩
      replace HO := Lib.hid (HO.out.keep hb1)
      replace HBW := Lib.hid (HBW.out.trans (hb1.mono HBW.out.size))
      clear hb1 HC k0 k2
      have q0 := row_cell (v := .int .i64 t) ((HBW.out.block _ (row_lt R1.out)).trans R1.out) 0 rfl
      go_wp2_with fail
      refine (rsgn_any t _).mono ?_
      rintro e w' ⟨rfl, rfl⟩
      cases hsg : sgT t with
      | false =>
        have HE := Lib.hid (show V = N by rw [HV.out, hsg]; rfl)
        clear hsg
        go_wp2_with (at_builtin; refine Tin.wpl_push bt3 w1 w1 N rfl (.tmp 36) (.tmp 38) rfl W.heap.size A1 i c1 (atsV t l (prT t) i) rfl HO.out (Below.refl _ _) HBW.out.size rfl (by rw [HLN.out]; have := HML.out; omega) (by rw [HLN.out]; have := HML.out; omega) ?_; intro A2 c2 w2 ho2 hb2 hs2 hg2 hw2; rw [← HE.out, ← HST.out] at ho2; have HO2 := Lib.hid ho2; have HB2 := Lib.hid (HBW.out.trans hb2); clear ho2 hb2 hs2 hg2 hw2)
        have HSP2 := HSP.out
        go_roundw
        case rel => exact ⟨i + 1, A2, c2, by omega, by rw [← HSP2], rfl, HO2.out, HB2.out⟩
        case measure => simp [intOf]; omega
      | true =>
        have HE := Lib.hid (show V = sgN N (prT t) by rw [HV.out, hsg]; rfl)
        clear hsg
        go_wp2_with fail
        refine (rsigned_any N (prT t) _).mono ?_
        rintro e w' ⟨rfl, rfl⟩
        rw [← HE.out]
        go_wp2_with (at_builtin; refine Tin.wpl_push bt3 w1 w1 V rfl (.tmp 36) (.tmp 38) rfl W.heap.size A1 i c1 (atsV t l (prT t) i) rfl HO.out (Below.refl _ _) HBW.out.size rfl (by rw [HLN.out]; have := HML.out; omega) (by rw [HLN.out]; have := HML.out; omega) ?_; intro A2 c2 w2 ho2 hb2 hs2 hg2 hw2; rw [← HST.out] at ho2; have HO2 := Lib.hid ho2; have HB2 := Lib.hid (HBW.out.trans hb2); clear ho2 hb2 hs2 hg2 hw2)
        have HSP2 := HSP.out
        go_roundw
        case rel => exact ⟨i + 1, A2, c2, by omega, by rw [← HSP2], rfl, HO2.out, HB2.out⟩
        case measure => simp [intOf]; omega
    · obtain rfl : i = m := by omega
      have p1 : ¬ ((i : Int) * prT t < (l.length : Int)) := by rw [HM.out]; omega
      generalize (i : Int) * prT t = at_ at *
      go_wp2_with fail
      go_ret
      exact ⟨A1, c1, rfl, HO.out.mono HB.out.size, HB.out.trans (HBW.out.mono HB.out.size)⟩
end Go.Proofs.Ytmdcdmgbillehaa
