/- Ratios and the reference's. -/
import Derived.Test.YtmdcdmgbillehaaTzS
import Derived.Test.YtmdcdmgbillehaaTzM
import Derived.Test.YtmdcdmgbillehaaTzN
namespace Go.Proofs.Ytmdcdmgbillehaa
open Go.RowKit
open Go.Tin
set_option linter.unusedVariables false
set_option linter.unusedSimpArgs false


theorem ats_two (t : Int) (l : List Int) (i : Nat) : atsV t l 4 ((i + 1) * 2) = atsV t l 4 (i * 2) ++ [numV t l ((i : Int) * 8), numV t l ((i : Int) * 8 + 4)] := by
  have e1 : atsV t l 4 ((i + 1) * 2) = atsV t l 4 (i * 2) ++ [numV t l (((i * 2 : Nat) : Int) * 4)] ++ [numV t l (((i * 2 + 1 : Nat) : Int) * 4)] := by
    rw [show (i + 1) * 2 = i * 2 + 1 + 1 by omega]; rfl
  rw [e1, List.append_assoc, show (((i * 2 : Nat) : Int) * 4) = (i : Int) * 8 by omega, show (((i * 2 + 1 : Nat) : Int) * 4) = (i : Int) * 8 + 4 by omega]
  rfl
set_option maxRecDepth 100000 in
set_option maxHeartbeats 8000000 in
theorem eachr_any (t : Int) (g4 g1 : Nat) (c : Int) (A : Option Addr) (l : List Int) (cap m : Nat) (w : World) (hg4 : w.heap[g4]? = some (.cells #[.int .i64 (szT t), .int .i64 (prT t), .int .i64 (isT t)] 58 (0, 0))) (hg1 : w.heap[g1]? = some (.cells (vrow t c A l.length cap) 27 (0, 0))) (hs : Sl .u8 w A l) (hl : l.length ≤ 1000000) (hby : Byts l) (hp : prT t = 4) (hm : l.length = m * 8) :
    Calls Try.prog 54 #[.slice A l.length cap, .int .i64 8, .func (.func 55) #[] #[.pointer (some ⟨g4, 0, none⟩), .pointer (some ⟨g1, 0, none⟩)]] w fun e w' => ∃ A' c', e = .returned (.slice A' m c') ∧ OwnV 55 2 w' w.heap.size (.slice A' m c') m (iv (atsV t l 4 (m * 2))) ∧ Below w.heap.size w w' := by
  have HG4 := Lib.hid hg4
  have HG1 := Lib.hid hg1
  have HS := Lib.hid hs
  have HBY := Lib.hid hby
  have HM := Lib.hid hm
  have HPT := Lib.hid hp
  have hml : m ≤ 125000 := by omega
  have hli : (l.length : Int) = (m : Int) * 8 := by omega
  have HLI := Lib.hid hli
  clear hg4 hg1 hs hby hm hp hli
  go_enter Try.func54, Try.ntmps54
  go_wp2_with fail
  go_loopw [7, 8] (fun s7 s8 wr => ∃ (i : Nat) (A1 : Option Addr) (c1 : Nat), i ≤ m ∧ s8 = .int .i64 ((i : Int) * 8) ∧ s7 = .slice A1 i c1 ∧ OwnV 55 2 wr w.heap.size (.slice A1 i c1) i (iv (atsV t l 4 (i * 2))) ∧ Below w.heap.size w wr) (fun _ s8 _ => l.length - (intOf s8).toNat)
  case atStart => exact ⟨0, none, 0, by omega, by simp, rfl, OwnV.nil_ _ _ _ _, brefl w⟩
  case round =>
    obtain ⟨i, A1, c1, hi, rfl, rfl, hown, hb⟩ := hrel
    have HO := Lib.hid hown
    have HB := Lib.hid hb
    clear hown hb
    have HST := Lib.hid (ats_two t l i)
    by_cases hil : i < m
    · have HC := Lib.hid (c55_any t ((i : Int) * 8) g4 g1 c A l cap wr ((HB.out.block _ (row_lt HG4.out)).trans HG4.out) ((HB.out.block _ (row_lt HG1.out)).trans HG1.out) (HS.out.keep HB.out) (by omega) HBY.out (by omega) (by omega) (by rw [HPT.out]; decide) (by rw [HPT.out]; decide))
      rw [HPT.out] at HC
      have p1 : (i : Int) * 8 < (l.length : Int) := by rw [HLI.out]; omega
      have p2 : (i : Int) * 8 ≤ 1000000 := by omega
      generalize numV t l ((i : Int) * 8) = N0 at *
      generalize numV t l ((i : Int) * 8 + 4) = N1 at *
      go_wp2_with fail
      refine HC.out.mono ?_
      rintro e w1 ⟨rfl, hb1⟩
      replace HO := Lib.hid (HO.out.keep hb1)
      replace HB := Lib.hid (HB.out.trans (hb1.mono HB.out.size))
      clear hb1 HC
      go_wp2_with (at_builtin; refine Tin.wplv_push sv_ratio w1 #[.int .i64 N0, .int .i64 N1] rfl (.tmp 16) (.tmp 20) rfl w.heap.size A1 i c1 (iv (atsV t l 4 (i * 2))) rfl HO.out HB.out.size rfl rfl (by intro u hu; simp at hu; rcases hu with rfl | rfl <;> rfl) (by omega) (by omega) ?_; intro A2 c2 w2 ho2 hg2 hw2; have hb2 : Below w.heap.size w w2 := HB.out.grown hg2 HB.out.size (fun q hq => (World.ownsRow.lt HO.out q hq).1); have HO2 := Lib.hid ho2; have HB2 := Lib.hid hb2; clear ho2 hg2 hw2 hb2)
      go_roundw
      case rel => exact ⟨i + 1, A2, c2, by omega, by go_num, rfl, by rw [HST.out]; simpa using HO2.out, HB2.out⟩
      case measure => simp [intOf]; omega
    · obtain rfl : i = m := by omega
      have p1 : ¬ ((i : Int) * 8 < (l.length : Int)) := by rw [HLI.out]; omega
      go_wp2_with fail
      go_ret
      exact ⟨A1, c1, rfl, HO.out, HB.out⟩
def ratB (t c : Int) (l : List Int) : Bool := mayV t c l && decide (t = 5 ∨ t = 10)
def ratN (t c : Int) (l : List Int) : Nat := if ratB t c l then c.toNat else 0
def ratL (t c : Int) (l : List Int) : List Int := if ratB t c l then atsV t l 4 (c.toNat * 2) else []
theorem rat_no {t c : Int} {l : List Int} (h : ratB t c l = false) : ratL t c l = [] ∧ ratN t c l = 0 := by unfold ratL ratN; rw [h]; exact ⟨rfl, rfl⟩
theorem rat_yes {t c : Int} {l : List Int} (h : ratB t c l = true) : ratL t c l = atsV t l 4 (c.toNat * 2) ∧ ratN t c l = c.toNat := by unfold ratL ratN; rw [h]; exact ⟨rfl, rfl⟩
theorem ratN_le {t c : Int} {l : List Int} : ratN t c l ≤ 65536 := by
  unfold ratN
  split
  · rename_i h
    unfold ratB at h
    rw [Bool.and_eq_true] at h
    have := (may_sz h.1).2.2.2
    omega
  · omega
theorem ratL_len (t c : Int) (l : List Int) : (ratL t c l).length = ratN t c l * 2 := by
  cases h : ratB t c l with
  | true => rw [(rat_yes h).1, (rat_yes h).2, atsV_len]
  | false => rw [(rat_no h).1, (rat_no h).2]; rfl
theorem is_rat (t : Int) : ((isT t != 3) && (isT t != 4)) = !decide (t = 5 ∨ t = 10) := ra_is t
theorem rat_sz {t : Int} (h : t = 5 ∨ t = 10) : szT t = 8 ∧ prT t = 4 := by rcases h with rfl | rfl <;> exact ⟨rfl, rfl⟩
set_option maxRecDepth 100000 in
set_option maxHeartbeats 8000000 in
theorem rats_any (t c : Int) (A : Option Addr) (l : List Int) (cap : Nat) (w : World) (hs : Sl .u8 w A l) (hl : l.length ≤ 1000000) (hby : Byts l) :
    Calls Try.prog 26 #[.agg #[.int .i64 t, .int .i64 c, .slice A l.length cap]] w fun e w' => ∃ A' c', e = .returned (.tuple #[.slice A' (ratN t c l) c', .bool (ratB t c l)]) ∧ SlV w' A' (iv (ratL t c l)) ∧ Below w.heap.size w w' := by
  have HB := Lib.hid (ba (brefl w) (.cells (vrow t c A l.length cap) 27))
  have R1 := Lib.hid (heap_alloc_new w (.cells (vrow t c A l.length cap) 27))
  have HS := Lib.hid (hs.keep HB.out)
  have HBY := Lib.hid hby
  have HNO := Lib.hid (fun h => rat_no (t := t) (c := c) (l := l) h)
  have HYE := Lib.hid (fun h => rat_yes (t := t) (c := c) (l := l) h)
  have HD := Lib.hid (show ratB t c l = (mayV t c l && decide (t = 5 ∨ t = 10)) from rfl)
  have HMS := Lib.hid (fun h => may_sz (t := t) (c := c) (l := l) h)
  have HIS := Lib.hid (is_rat t)
  clear hs hby
  go_enter Try.func26, Try.ntmps26
  have k0 := row_cell (v := .int .i64 t) R1.out 0 rfl
  go_wp2_with fail
  refine (of_any t _).mono ?_
  rintro e w1 ⟨rfl, hb⟩
  replace R1 := Lib.hid ((hb.block _ (row_lt R1.out)).trans R1.out)
  replace HB := Lib.hid (HB.out.trans (hb.mono HB.out.size))
  replace HS := Lib.hid (HS.out.keep hb)
  clear hb k0
  have hb2 := ba (brefl w1) (.cells #[.int .i64 (szT t), .int .i64 (prT t), .int .i64 (isT t)] 58)
  have R4 := Lib.hid (heap_alloc_new w1 (.cells #[.int .i64 (szT t), .int .i64 (prT t), .int .i64 (isT t)] 58))
  replace R1 := Lib.hid ((hb2.block _ (row_lt R1.out)).trans R1.out)
  replace HB := Lib.hid (HB.out.trans (hb2.mono HB.out.size))
  replace HS := Lib.hid (HS.out.keep hb2)
  clear hb2
  go_wp2_with ((with_reducible refine wpl_load_row rtV ?_ (.tmp 1) ?_ (w.heap.size) ?_ 27 (vrow t c A l.length cap) ?_ R1.out ?_); rfl; rfl; rfl; rfl; simp only [Act.put, List.setIfInBounds_toArray, List.set_cons_succ, List.set_cons_zero])
  refine (vmay_any t c A l cap _ HS.out (by omega) HBY.out).mono ?_
  rintro e w2 ⟨rfl, hb⟩
  replace R1 := Lib.hid ((hb.block _ (row_lt R1.out)).trans R1.out)
  replace R4 := Lib.hid ((hb.block _ (row_lt R4.out)).trans R4.out)
  replace HB := Lib.hid (HB.out.trans (hb.mono HB.out.size))
  replace HS := Lib.hid (HS.out.keep hb)
  clear hb
  have k0 := row_cell (v := .int .i64 (szT t)) R4.out 0 rfl
  have k2 := row_cell (v := .int .i64 (isT t)) R4.out 2 rfl
  have k3 := row_cell (v := .slice A l.length cap) R1.out 2 rfl
  cases hmv : mayV t c l with
  | false =>
    have HE := Lib.hid (show ratB t c l = false by rw [HD.out, hmv]; rfl)
    clear hmv
    go_wp2_with fail
    go_ret2
    rw [HE.out, (HNO.out HE.out).1, (HNO.out HE.out).2]
    exact ⟨none, 0, rfl, .inl rfl, HB.out⟩
  | true =>
    obtain ⟨hz, hlen, hc1, hc2⟩ := HMS.out hmv
    have step : ((isT t != 3) = true ∧ (isT t != 4) = true) ∨ (isT t != 3) = false ∨ ((isT t != 3) = true ∧ (isT t != 4) = false) := by
      cases (isT t != 3) <;> cases (isT t != 4) <;> simp
    rcases step with ⟨s3, s4⟩ | s3 | ⟨s3, s4⟩
    · have HE := Lib.hid (show ratB t c l = false by
        have h := HIS.out
        rw [s3, s4] at h
        rw [HD.out, show decide (t = 5 ∨ t = 10) = false by simpa using h]; simp)
      clear hmv hz hlen hc1 hc2
      go_wp2_with fail
      go_ret2
      rw [HE.out, (HNO.out HE.out).1, (HNO.out HE.out).2]
      exact ⟨none, 0, rfl, .inl rfl, HB.out⟩
    all_goals
      have hq : decide (t = 5 ∨ t = 10) = true := by
        have h := HIS.out
        rw [s3] at h
        try rw [s4] at h
        cases hd : decide (t = 5 ∨ t = 10) with
        | true => rfl
        | false => rw [hd] at h; cases h
      have HE := Lib.hid (show ratB t c l = true by rw [HD.out, hmv, hq]; rfl)
      obtain ⟨e8, e4⟩ := rat_sz (of_decide_eq_true hq)
      have HC := Lib.hid (eachr_any t w1.heap.size w.heap.size c A l cap c.toNat w2 R4.out R1.out HS.out hl HBY.out e4 (by rw [e8] at hlen; omega))
      rw [e8] at k0
      clear hmv hz hlen hq e8 e4 hc1 hc2
      go_wp2_with fail
      refine HC.out.mono ?_
      rintro e w3 ⟨A3, c3, rfl, ho3, hb3⟩
      have HO3 := Lib.hid ho3
      replace HB := Lib.hid (HB.out.trans (hb3.mono HB.out.size))
      clear ho3 hb3 HC k0 k2 k3
      generalize c.toNat = m at *
      go_wp2_with fail
      go_ret2
      rw [HE.out, (HYE.out HE.out).1, (HYE.out HE.out).2]
      exact ⟨A3, c3, rfl, HO3.out.sl'.2.1, HB.out⟩
set_option maxRecDepth 100000 in
set_option maxHeartbeats 8000000 in
theorem rrats_any (t c : Int) (A : Option Addr) (l : List Int) (cap : Nat) (w : World) (hs : Sl .u8 w A l) (hl : l.length ≤ 1000000) (hby : Byts l) :
    Calls Try.prog 27 #[.agg #[.int .i64 t, .int .i64 c, .slice A l.length cap]] w fun e w' => ∃ A' c', e = .returned (.tuple #[.slice A' (ratN t c l) c', .bool (ratB t c l)]) ∧ SlV w' A' (iv (ratL t c l)) ∧ Below w.heap.size w w' := by
  have HB := Lib.hid (ba (brefl w) (.cells (vrow t c A l.length cap) 27))
  have R1 := Lib.hid (heap_alloc_new w (.cells (vrow t c A l.length cap) 27))
  have HS := Lib.hid (hs.keep HB.out)
  have HBY := Lib.hid hby
  have HNO := Lib.hid (fun h => rat_no (t := t) (c := c) (l := l) h)
  have HYE := Lib.hid (fun h => rat_yes (t := t) (c := c) (l := l) h)
  have HD := Lib.hid (show ratB t c l = (mayV t c l && decide (t = 5 ∨ t = 10)) from rfl)
  have HMS := Lib.hid (fun h => may_sz (t := t) (c := c) (l := l) h)
  have HIS := Lib.hid (is_rat t)
  clear hs hby
  go_enter Try.func27, Try.ntmps27
  go_wp2_with ((with_reducible refine wpl_load_row rtV ?_ (.tmp 1) ?_ (w.heap.size) ?_ 27 (vrow t c A l.length cap) ?_ R1.out ?_); rfl; rfl; rfl; rfl; simp only [Act.put, List.setIfInBounds_toArray, List.set_cons_succ, List.set_cons_zero])
  refine (rmay_any t c A l cap _ HS.out (by omega) HBY.out).mono ?_
  rintro e w2 ⟨rfl, hb⟩
  replace R1 := Lib.hid ((hb.block _ (row_lt R1.out)).trans R1.out)
  replace HB := Lib.hid (HB.out.trans (hb.mono HB.out.size))
  replace HS := Lib.hid (HS.out.keep hb)
  clear hb
  have k0 := row_cell (v := .int .i64 t) R1.out 0 rfl
  cases hmv : mayV t c l with
  | false =>
    have HE := Lib.hid (show ratB t c l = false by rw [HD.out, hmv]; rfl)
    clear hmv
    go_wp2_with fail
    go_ret2
    rw [HE.out, (HNO.out HE.out).1, (HNO.out HE.out).2]
    exact ⟨none, 0, rfl, .inl rfl, HB.out⟩
  | true =>
    obtain ⟨hz, hlen, hc1, hc2⟩ := HMS.out hmv
    have step : ((t != 5) = true ∧ (t != 10) = true) ∨ (t != 5) = false ∨ ((t != 5) = true ∧ (t != 10) = false) := by
      cases (t != 5) <;> cases (t != 10) <;> simp
    rcases step with ⟨s3, s4⟩ | s3 | ⟨s3, s4⟩
    · have HE := Lib.hid (show ratB t c l = false by
        rw [HD.out, decide_eq_false (by simp at s3 s4; rintro (h | h); exact s3 h; exact s4 h)]; simp)
      clear hmv hz hlen hc1 hc2
      go_wp2_with fail
      go_ret2
      rw [HE.out, (HNO.out HE.out).1, (HNO.out HE.out).2]
      exact ⟨none, 0, rfl, .inl rfl, HB.out⟩
    all_goals
      have hq : t = 5 ∨ t = 10 := by first | (simp at s4; exact .inr s4) | (simp at s3; exact .inl s3)
      have HE := Lib.hid (show ratB t c l = true by rw [HD.out, hmv, decide_eq_true hq]; rfl)
      obtain ⟨e8, e4⟩ := rat_sz hq
      have hl8 : l.length = c.toNat * 8 := by rw [e8] at hlen; omega
      have HC := Lib.hid (rall_any t c A l cap (c.toNat * 2) w2 HS.out hl HBY.out (by rw [e4]; decide) (by rw [e4]; omega))
      rw [e4] at HC
      have HLN := Lib.hid (atsV_len t l 4 (c.toNat * 2))
      have HMB := Lib.hid (show c.toNat ≤ 65536 by omega)
      clear hmv hz hlen hq e8 e4 hc1 hc2 hl8
      go_wp2_with ((with_reducible refine wpl_load_row rtV ?_ (.tmp 1) ?_ (w.heap.size) ?_ 27 (vrow t c A l.length cap) ?_ R1.out ?_); rfl; rfl; rfl; rfl; simp only [Act.put, List.setIfInBounds_toArray, List.set_cons_succ, List.set_cons_zero])
      refine HC.out.mono ?_
      rintro e w3 ⟨A3, c3, rfl, ho3, hb3⟩
      have HO3 := Lib.hid ho3
      replace HB := Lib.hid (HB.out.trans (hb3.mono HB.out.size))
      clear ho3 hb3 HC k0
      have hsl := HO3.out.sl'.2
      generalize hZ : atsV t l 4 (c.toNat * 2) = ZS at *
      have HZ := Lib.hid hZ
      have HSL := Lib.hid hsl
      clear hZ hsl HO3
      have HYE2 := Lib.hid (HYE.out HE.out)
      clear HYE HZ
      generalize c.toNat = m at *
      have hmb := HMB.out
      go_wp2_with fail
      go_loopw [5, 6] (fun s5 s6 wr => ∃ (i : Nat) (A1 : Option Addr) (c1 : Nat), i ≤ m ∧ s6 = .int .i64 ((i : Int) * 2) ∧ s5 = .slice A1 i c1 ∧ OwnV 55 2 wr w3.heap.size (.slice A1 i c1) i (iv (ZS.take (i * 2))) ∧ Below w3.heap.size w3 wr) (fun _ s6 _ => m * 2 - (intOf s6).toNat)
      case atStart => exact ⟨0, none, 0, by omega, by simp, rfl, by simpa using OwnV.nil_ _ _ _ _, brefl w3⟩
      case round =>
        obtain ⟨i, A1, c1, hi, rfl, rfl, hown, hb⟩ := hrel
        have HO := Lib.hid hown
        have HBW := Lib.hid hb
        clear hown hb
        by_cases hil : i < m
        · have h2 : i * 2 + 2 ≤ ZS.length := by rw [HLN.out]; omega
          have HTK := Lib.hid (take_two h2)
          obtain ⟨q, off, rfl, hql, hcell⟩ := HSL.out.at_ (by omega)
          have HC0 := Lib.hid (show w3.cell? ⟨q, off + i * 2, none⟩ = some (.int .i64 (nth ZS (i * 2))) ∧ w3.cell? ⟨q, off + (i * 2 + 1), none⟩ = some (.int .i64 (nth ZS (i * 2 + 1))) from ⟨hcell (i * 2) (by omega), hcell (i * 2 + 1) (by omega)⟩)
          clear h2 hcell
          generalize nth ZS (i * 2) = Z0 at *
          generalize nth ZS (i * 2 + 1) = Z1 at *
          have t1 : ((i : Int) * 2).toNat = i * 2 := by omega
          have t2 : ((i : Int) * 2 + 1).toNat = i * 2 + 1 := by omega
          have q0 : ∀ p : Bel w3.heap.size wr.drew, p.w'.cell? ⟨q, off + i * 2, none⟩ = some (.int .i64 Z0) := fun p => ((HBW.out.trans (ud p.h)).cell (p := ⟨q, off + i * 2, none⟩) hql).trans HC0.out.1
          have q1 : ∀ p : Bel w3.heap.size wr.drew, p.w'.cell? ⟨q, off + (i * 2 + 1), none⟩ = some (.int .i64 Z1) := fun p => ((HBW.out.trans (ud p.h)).cell (p := ⟨q, off + (i * 2 + 1), none⟩) hql).trans HC0.out.2
          go_wp2_with fail
          refine Tin.reg_begin w3.heap.size 14 (by rfl) (by kernel_rfl) ?_
          refine Tin.reg_quiets [0, 1, 2, 3, 4, 5, 6, 7, 8, 9, 10] _ 3 rfl (by simp only [Tin.pick, List.map_cons, List.map_nil, Array.getD_eq_getD_getElem?, List.getElem?_toArray, List.getElem?_cons_zero, List.getElem?_cons_succ, Option.getD_some]; rfl) (by kernel_rfl) (by kernel_rfl) ?_
          repeat (first | go_big_quiet_step (fail))
          refine wpQuiet_nil ?_
          clear q0 q1 t1 t2
          refine Tin.reg_one 11 _ rfl (by kernel_rfl) ?_
          try simp only [List.getElem_toArray, List.getElem_cons_succ, List.getElem_cons_zero]
          go_wp2_with fail
          have hW3 : w3.heap.size ≤ wr.heap.size := HBW.out.size
          have HX := Lib.hid ((ba (brefl wr) (.cells #[.int .i64 Z0, .int .i64 Z1] 55)).mono hW3)
          refine ⟨w3.heap.size, ⟨HX.out.os, HX.out.tape, HX.out.output, HX.out.size, HX.out.block⟩, Nat.le_refl _, ?_⟩
          have HO4 := Lib.hid (HO.out.alloc (.cells #[.int .i64 Z0, .int .i64 Z1] 55)).drew
          have HBW4 := Lib.hid (ud' (HBW.out.trans HX.out))
          have HNS := Lib.hid (show SlV ((wr.alloc (.cells #[.int .i64 Z0, .int .i64 Z1] 55)).drew) (some ⟨wr.heap.size, 0, none⟩) (iv [Z0, Z1]) from SlV.new_ wr _ _)
          refine Tin.reg_one 12 _ rfl (by kernel_rfl) ?_
          try simp only [List.getElem_toArray, List.getElem_cons_succ, List.getElem_cons_zero]
          go_wp2_with (at_builtin; refine Tin.wplv_app sv_ratio _ rfl (.tmp 28) (.tmp 39) rfl w3.heap.size (.slice A1 i c1) i (iv (ZS.take (i * 2))) rfl HO4.out (some ⟨wr.heap.size, 0, none⟩) 1 1 (iv [Z0, Z1]) rfl rfl HNS.out (by intro u hu; simp at hu; rcases hu with rfl | rfl <;> rfl) (by omega) (by omega) (by show w3.heap.size ≤ (wr.alloc _).heap.size; simp; omega) ?_; intro A5 c5 w5 ho5 hg5 hw5; rw [← List.map_append, ← HTK.out] at ho5; have HO5 := Lib.hid ho5; have HG5 := Lib.hid hg5; clear ho5 hg5 hw5)
          have hlow : ∀ g, (Value.slice A1 i c1).ownBlock = some g → w3.heap.size ≤ g := fun g hg => (World.ownsRow.lt HO4.out g hg).1
          have HBW5 := Lib.hid (HBW4.out.grown HG5.out HBW4.out.size hlow)
          refine ⟨w3.heap.size, (Below.refl _ _).grown HG5.out (by show w3.heap.size ≤ (wr.alloc _).heap.size; simp; omega) hlow, Nat.le_refl _, ?_⟩
          refine Tin.reg_quiets [13] _ 0 rfl (by simp only [Tin.pick, List.map_cons, List.map_nil, Array.getD_eq_getD_getElem?, List.getElem?_toArray, List.getElem?_cons_zero, List.getElem?_cons_succ, Option.getD_some]; rfl) (by kernel_rfl) (by kernel_rfl) ?_
          repeat (first | go_big_quiet_step (fail))
          refine wpQuiet_nil ?_
          refine Tin.reg_done (by kernel_rfl) ?_
          clear hlow hW3
          go_wp2_with fail
          go_roundw
          case rel => exact ⟨i + 1, A5, c5, by omega, by go_num, rfl, HO5.out, HBW5.out⟩
          case measure => simp [intOf]; omega
        · obtain rfl : i = m := by omega
          have HTL := Lib.hid (show ZS.take (i * 2) = ZS by rw [← HLN.out, List.take_length])
          go_wp2_with fail
          go_ret2
          rw [HE.out, HYE2.out.1, HYE2.out.2]
          rw [HTL.out] at HO
          exact ⟨A1, c1, rfl, HO.out.sl'.2.1, HB.out.trans (HBW.out.mono HB.out.size)⟩
end Go.Proofs.Ytmdcdmgbillehaa
