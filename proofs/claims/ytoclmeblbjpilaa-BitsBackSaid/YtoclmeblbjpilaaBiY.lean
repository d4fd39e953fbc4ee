/- The walk of BitsReads. -/
import Derived.Test.YtoclmeblbjpilaaBiV
namespace Go.Proofs.Ytoclmeblbjpilaa
open Go.RowKit
open Go.Tin
set_option linter.unusedVariables false
set_option linter.unusedSimpArgs false


theorem Fr.refl (w : World) (g : Nat) (r : Option Nat) : Fr w w g r := ⟨rfl, rfl, rfl, Nat.le_refl _, fun _ _ _ _ => rfl⟩
theorem Fr.bel {w w1 w2 : World} {g : Nat} {r : Option Nat} (h : Fr w w1 g r) (hb : Below w1.heap.size w1 w2) : Fr w w2 g r :=
  h.grow (x := none) ⟨hb.os, hb.tape, hb.output, hb.size, fun k hk _ => hb.block k hk⟩ (.inr (.inl rfl))
theorem Fr.cell {w w' : World} {g b o : Nat} {r : Option Nat} (h : Fr w w' g r) (hb : b < w.heap.size) (h1 : b ≠ g) (h2 : some b ≠ r) : w'.cell? ⟨b, o, none⟩ = w.cell? ⟨b, o, none⟩ := by
  unfold World.cell?
  rw [show w'.heap[(⟨b, o, none⟩ : Addr).block]? = w.heap[(⟨b, o, none⟩ : Addr).block]? from h.block b hb h1 h2]
theorem Sl.fr_lt {k : IntKind} {w0 w w' : World} {A : Option Addr} {l : List Int} {g : Nat} (h : Sl k w0 A l) (hb : Below w0.heap.size w0 w) (hlt : w0.heap.size ≤ g) (hf : Fr w w' g none) : Sl k w' A l := by
  rcases h with h | ⟨b, off, hA, hbl, hc⟩
  · exact .inl h
  · have hz := hb.size
    have hz2 := hf.size
    exact .inr ⟨b, off, hA, by omega, fun i hi => (hf.cell (by omega) (by omega) (by simp)).trans ((hb.cell (p := ⟨b, off + i, none⟩) hbl).trans (hc i hi))⟩
theorem Sl.frN {k : IntKind} {w w' : World} {A : Option Addr} {l : List Int} {g : Nat} (h : Sl k w A l) (hn : ∀ a, A = some a → a.block ≠ g) (hf : w.grownBy w' (some g)) : Sl k w' A l := by
  rcases h with h | ⟨b, off, hA, hbl, hc⟩
  · exact .inl h
  · refine .inr ⟨b, off, hA, Nat.lt_of_lt_of_le hbl hf.size, fun i hi => ?_⟩
    rw [← hc i hi]
    unfold World.cell?
    rw [show w'.heap[(⟨b, off + i, none⟩ : Addr).block]? = w.heap[(⟨b, off + i, none⟩ : Addr).block]? from hf.block b hbl (fun e => hn _ hA (by injection e))]
theorem Sl.cellsI {k : IntKind} {w : World} {A : Option Addr} {l : List Int} (h : Sl k w A l) (h0 : 0 < l.length) : ∃ b off, A = some ⟨b, off, none⟩ ∧ RowKit.Hid (∀ W : World, (∀ o, W.cell? ⟨b, o, none⟩ = w.cell? ⟨b, o, none⟩) → ∀ i, i < l.length → W.cell? ⟨b, off + i, none⟩ = some (.int k (nth l i))) := by
  obtain ⟨b, off, rfl, hlt, hc⟩ := h.at_ h0
  exact ⟨b, off, rfl, Lib.hid fun W hW i hi => (hW _).trans (hc i hi)⟩

theorem Sl.frcells {k : IntKind} {w0 w : World} {A : Option Addr} {l : List Int} {g : Nat} (h : Sl k w0 A l) (hb : Below w0.heap.size w0 w) (hlt : w0.heap.size ≤ g) (h0 : 0 < l.length) :
    ∃ b off, A = some ⟨b, off, none⟩ ∧ RowKit.Hid (∀ W : World, Fr w W g none → ∀ i, i < l.length → W.cell? ⟨b, off + i, none⟩ = some (.int k (nth l i))) := by
  obtain ⟨b, off, rfl, hbl, hc⟩ := h.at_ h0
  have hz := hb.size
  exact ⟨b, off, rfl, Lib.hid fun W hf i hi => (hf.cell (by omega) (by omega) (by simp)).trans ((hb.cell (p := ⟨b, off + i, none⟩) hbl).trans (hc i hi))⟩
theorem fil_fold (D : List Int) (K M : Nat) (hM : M = 8 * D.length - K) (o : Bool) (k : Nat) (hk : k = M) (ho : o = (decide (M < 8) && (((bitsL D).drop K).take k).all fun x => x == 1)) : o = filB D K := by
  have hl := bitsL_len D
  subst hk; subst hM
  rw [ho, List.take_of_length_le (by rw [List.length_drop]; omega)]
  rfl
theorem all_snoc (l : List Int) (k : Nat) (h : k < l.length) (p : Bool) : (p && (l.take (k + 1)).all fun x => x == 1) = ((p && (l.take k).all fun x => x == 1) && (nth l k == 1)) := by
  rw [take_snoc_nth l k h, List.all_append]
  simp [Bool.and_assoc]
theorem block_add (a : Addr) (n : Nat) : (a.add n).block = a.block := by unfold Addr.add; split <;> rfl
theorem min8 : IntKind.u8.min = 0 := by kernel_rfl
theorem max8 : IntKind.u8.max = 255 := by kernel_rfl
theorem wf_byte {n : Int} (wf : (Lit.int .u8 n).wf = true) : 0 ≤ n ∧ n ≤ 255 := by
  change (decide (IntKind.u8.min ≤ n) && decide (n ≤ IntKind.u8.max)) = true at wf
  rw [min8, max8, Bool.and_eq_true] at wf
  exact ⟨of_decide_eq_true wf.1, of_decide_eq_true wf.2⟩
set_option maxRecDepth 100000 in
set_option maxHeartbeats 4000000 in
theorem reads_any (A : Option Addr) (len cap : Nat) (zs : List Int) (A1 : Option Addr) (len1 cap1 : Nat) (zs1 : List Int) (w : World) (hr : IsRow .u8 w A len cap zs) (hr1 : IsRow .i64 w A1 len1 cap1 zs1) :
    Calls Try.prog 4 #[.slice A len cap, .slice A1 len1 cap1] w fun e w' => e = .returned (.bool true) ∧ Below w.heap.size w w' := by
  obtain ⟨hs, hlen, hlc, hcm, hwf⟩ := Sl.of_row hr
  obtain ⟨hs1, hlen1, hlc1, hcm1, hwf1⟩ := Sl.of_row hr1
  have hby : BY (zs.take len) := BY.of fun x hx => wf_byte (hwf x hx)
  generalize zs.take len = l at *
  generalize zs1.take len1 = ms at *
  subst hlen
  subst hlen1
  unfold maxLen at hcm hcm1
  have HS := Lib.hid hs
  have HS1 := Lib.hid hs1
  have HY := Lib.hid hby
  have HW1 := Lib.hid hwf1
  clear hwf hr hr1 hs hs1 hby hwf1
  by_cases hbig : 300 < l.length ∨ 200 < ms.length
  · rcases hbig with h3 | h3
    · have h4 : (300 : Int) < (l.length : Int) := by omega
      go_enter Try.func4, Try.ntmps4
      go_wp2_with fail
      refine (awake_any w).mono ?_
      rintro e w1 ⟨rfl, hb⟩
      go_wp2_with fail
      go_ret
      exact ⟨rfl, hb⟩
    · by_cases h5 : 300 < l.length
      · have h4 : (300 : Int) < (l.length : Int) := by omega
        go_enter Try.func4, Try.ntmps4
        go_wp2_with fail
        refine (awake_any w).mono ?_
        rintro e w1 ⟨rfl, hb⟩
        go_wp2_with fail
        go_ret
        exact ⟨rfl, hb⟩
      · have h4 : (200 : Int) < (ms.length : Int) := by omega
        have h6 : (l.length : Int) ≤ 300 := by omega
        go_enter Try.func4, Try.ntmps4
        go_wp2_with fail
        refine (awake_any w).mono ?_
        rintro e w1 ⟨rfl, hb⟩
        go_wp2_with fail
        go_ret
        exact ⟨rfl, hb⟩
  · have h3 : (l.length : Int) ≤ 300 := by omega
    have h4 : (ms.length : Int) ≤ 200 := by omega
    have d3 : decide ((300 : Int) < (l.length : Int)) = false := decide_eq_false (by omega)
    have d4 : decide ((200 : Int) < (ms.length : Int)) = false := decide_eq_false (by omega)
    clear hbig
    have hpl := pln_le _ l (Nat.le_refl _)
    obtain ⟨D, hD⟩ : ∃ D, D = (pln l).1 := ⟨_, rfl⟩
    obtain ⟨u, hu⟩ : ∃ u, u = (pln l).2 := ⟨_, rfl⟩
    rw [← hD, ← hu] at hpl
    have hD3 : D.length ≤ 300 := by omega
    have HD := Lib.hid hD
    have HU := Lib.hid hu
    clear hD hu
    go_enter Try.func4, Try.ntmps4
    have hown0 := Own.new0 (k := .u8) (e := 5) w
    have hb1 : Below w.heap.size w (w.alloc (.cells #[] 5)) := ba (brefl w) _
    go_wp2_with (at_builtin; refine Tin.wpl_app bt5 _ rfl (.tmp 26) (.tmp 27) rfl w.heap.size _ [] rfl hown0 A l.length cap l rfl (HS.out.keep hb1) rfl (by rw [List.length_nil]; omega) (by rw [List.length_nil]; omega) (by simp) ?_; intro v1 w1 hown1 hg1 how1; simp only [List.nil_append] at hown1; have hb2 := hown0.grown hb1 (by simp) hg1; obtain ⟨A5, c5, rfl⟩ := own_form hown1; clear hg1 how1 hown0 hb1)
    have S5 := Lib.hid hown1.sl'.2
    clear hown1
    refine (new_n A5 l l.length c5 rfl D HD.out.symm w1 S5.out (by omega) HY.out).mono ?_
    rintro e w2 ⟨g, A6, c6, rfl, hg2, hg3, hrs, hbn⟩
    have R2 := Lib.hid hrs
    clear hrs
    go_wp2_with fail
    have HW2 := Lib.hid (bt hb2 hbn)
    refine (rbits_any A l cap w2 (HS.out.keep (bt hb2 hbn)) (by omega) hlc hcm HY.out).mono ?_
    rw [← HD.out]
    rintro e w3 ⟨A7, c7, rfl, ho7, hc7, hc7m, hb3⟩
    have S7 := Lib.hid ho7.sl'.2
    have N7 := Lib.hid (show ∀ a, A7 = some a → a.block ≠ g from fun a ha => by
      obtain ⟨A9, c9, h9, -, -, -, h10⟩ := ho7.sl
      injection h9 with h11 _ _
      subst h11
      rcases h10 with ⟨h10, _⟩ | ⟨q, h10, h12, _⟩
      · rw [h10] at ha; cases ha
      · rw [h10] at ha
        injection ha with ha
        subst ha
        show q ≠ g
        omega)
    have hz3 := hb3.size
    clear ho7
    go_wp2_with fail
    by_cases hw : u = l.length
    · refine (bplain_yes A5 l c5 w3 (S5.out.keep (bt hbn hb3)) (by omega) (by rw [← HU.out]; exact hw)).mono ?_
      rw [← HD.out]
      rintro e w4 ⟨A9, c9, rfl, ho9, hb4⟩
      have S9 := Lib.hid ho9.sl'.2
      clear ho9
      have hBr := Lib.hid (show bar l = D by have h := bar_pln _ l (Nat.le_refl _); rw [← HU.out, ← HD.out, hw, List.take_length] at h; exact h)
      have du : ((u : Int) == (l.length : Int)) = true := by simp [hw]
      have HW := Lib.hid hw
      clear hw
      go_wp2_with fail
      refine (data_any A l cap w4 (HS.out.keep (bt (bt hb2 hbn) (bt hb3 hb4))) (by omega)).mono ?_
      rw [← HU.out]
      rintro e w' ⟨rfl, rfl⟩
      go_wp2_with fail
      have HB := Lib.hid (bare_any A l cap w4 (HS.out.keep (bt (bt hb2 hbn) (bt hb3 hb4))) (by omega))
      rw [hBr.out] at HB
      refine HB.out.mono ?_
      rintro e w5 ⟨A10, c10, rfl, ho10, hb5⟩
      have S10 := Lib.hid ho10.sl'.2
      clear ho10
      go_wp2_with fail
      refine (same_any A9 A10 D c9 c10 w5 (S9.out.keep hb5) S10.out).mono ?_
      rintro e w' ⟨rfl, rfl⟩
      go_wp2_with fail
      refine (stuff_n A5 l l.length c5 rfl w5 (S5.out.keep (bt hbn (bt hb3 (bt hb4 hb5)))) (by omega) (stf l) _ rfl rfl).mono ?_
      rintro e w6 ⟨A11, c11, rfl, ho11, hb6⟩
      have S11 := Lib.hid ho11.sl'.2
      clear ho11
      generalize hsl : (stf l).length = nsl
      have HSL := Lib.hid hsl
      clear hsl
      go_wp2_with fail
      refine (rstuff_any A l cap w6 (HS.out.keep (bt (bt hb2 hbn) (bt (bt hb3 (bt hb4 hb5)) hb6))) (by omega)).mono ?_
      rw [HSL.out]
      rintro e w7 ⟨A12, c12, rfl, ho12, hb7⟩
      have S12 := Lib.hid ho12.sl'.2
      clear ho12
      go_wp2_with fail
      refine (same_n A11 A12 (stf l) nsl nsl c11 c12 HSL.out.symm HSL.out.symm w7 (S11.out.keep hb7) S12.out).mono ?_
      rintro e w' ⟨rfl, rfl⟩
      have hbq := bt hbn (bt (bt hb3 (bt hb4 hb5)) (bt hb6 hb7))
      have hq2 := bt (bt hb3 (bt hb4 hb5)) (bt hb6 hb7)
      clear S11 S12 HSL
      go_wp2_with fail
      have RQ := Lib.hid (R2.out.keep hq2)
      have S7q := Lib.hid (S7.out.keep (bt (bt (bt hb4 hb5) hb6) hb7))
      have HBQ := Lib.hid hbq
      have HB0 := Lib.hid (bt hb2 hbq)
      clear hb3 hb6 hb7 hbq hq2 hb4 hb5
      obtain ⟨wq, rfl⟩ : ∃ wq, wq = w7 := ⟨_, rfl⟩
      have hwl : w1.heap.size ≤ g := hg2
      have HF0 := Lib.hid (Fr.refl wq g none)
      have hd0 : D.length ≤ 300 := by omega
      clear hg2 hg3 hpl
      go_loopw [7, 11] (fun s7 s11 wr => ∃ (i K : Nat) (A7 : Option Addr) (c7 : Nat), i ≤ ms.length ∧ K ≤ 8 * D.length ∧ s11 = .int .i64 (i : Int) ∧ s7 = .slice A7 (8 * D.length - K) c7 ∧ 8 * D.length - K ≤ c7 ∧ c7 ≤ maxLen ∧ Sl .i64 wr A7 ((bitsL D).drop K) ∧ (∀ a, A7 = some a → a.block ≠ g) ∧ RS wr g A6 c6 D K ∧ Fr wq wr g none) (fun _ s11 _ => ms.length - (intOf s11).toNat)
      case atStart => exact ⟨0, 0, A7, c7, by omega, by omega, rfl, rfl, by omega, hc7m, by rw [List.drop_zero]; exact S7q.out, N7.out, RQ.out, HF0.out⟩
      case round =>
        obtain ⟨i, K, A8, c8, hi, hK, rfl, rfl, hc8, hc8m, hs8, hn8, hR8, hF8⟩ := hrel
        have S8 := Lib.hid hs8
        have N8 := Lib.hid hn8
        have R8 := Lib.hid hR8
        have F8 := Lib.hid hF8
        unfold maxLen at hc8m
        clear hs8 hn8 hR8 hF8 HF0 hc7 hc7m
        have HLD := Lib.hid (bitsL_len D)
        obtain ⟨M, hM⟩ : ∃ M, M = 8 * D.length - K := ⟨_, rfl⟩
        rw [← hM] at hc8 ⊢
        have hMle : M ≤ 8000 := by omega
        have HM := Lib.hid hM
        have HK8 := Lib.hid hK
        clear hM hK
        by_cases him : i < ms.length
        · have i1 : (i : Int) < (ms.length : Int) := by omega
          obtain ⟨bm, om, rfl, KM⟩ := Sl.frcells HS1.out HB0.out (Nat.le_trans hb2.size hwl) (by omega)
          have n1 := (wf64 (HW1.out _ (mem_nth ms i him))).1
          have n2 := (wf64 (HW1.out _ (mem_nth ms i him))).2
          have m0 := KM.out wr F8.out i him
          generalize hnm : nth ms i = n at *
          have HNM := Lib.hid hnm
          clear hnm
          by_cases h1 : n < 0
          · have d1 : decide (n < 0) = true := by simpa using h1
            have HT := Lib.hid (take_no wr g A6 c6 D K n R8.out (by rw [← HM.out]; omega))
            go_wp2_with fail
            refine HT.out.mono ?_
            rintro e w8 ⟨rfl, hb8⟩
            have F9 := Lib.hid (F8.out.bel hb8)
            have S9 := Lib.hid (S8.out.keep hb8)
            have R9 := Lib.hid (R8.out.keep hb8)
            have m1 := KM.out w8 F9.out i him
            rw [HNM.out] at m1
            clear hb8 HT m0
            go_wp2_with fail
            have HM9 := HM
            have HK9 := HK8
            have N9 := N8
            have hc9 := hc8
            have hcm9 : c8 ≤ maxLen := by unfold maxLen; omega
            go_loop [15, 16] (fun s15 s16 => ∃ (k : Nat) (o : Bool), k ≤ M ∧ s16 = .int .i64 (k : Int) ∧ s15 = .bool o ∧ o = (decide (M < 8) && (((bitsL D).drop K).take k).all fun x => x == 1)) (fun _ s16 => M - (intOf s16).toNat)
            case atStart => exact ⟨0, _, by omega, rfl, rfl, by simp; omega⟩
            case round =>
              obtain ⟨k, o, hkM, rfl, rfl, ho⟩ := hrel
              have HO := Lib.hid ho
              clear ho
              by_cases hk : k < M
              · have j1 : (k : Int) < (M : Int) := by omega
                have HLX := Lib.hid (show ((bitsL D).drop K).length = M by rw [List.length_drop, HLD.out, HM9.out])
                obtain ⟨b9, o9, h9, K9⟩ := Sl.cellsI S9.out (by rw [HLX.out]; omega)
                subst h9
                have k9 := K9.out w8 (fun _ => rfl) k (by rw [HLX.out]; exact hk)
                have HS := Lib.hid (all_snoc ((bitsL D).drop K) k (by rw [HLX.out]; exact hk) (decide (M < 8)))
                rw [← HO.out] at HS
                generalize hx : nth ((bitsL D).drop K) k = x at *
                clear hx
                cases o
                · go_wp2_with fail
                  go_round
                  case rel => exact ⟨k + 1, _, by omega, by go_num, rfl, by rw [HS.out]; rfl⟩
                  case measure => simp [intOf]; omega
                · by_cases hx1 : x = 1
                  · have dx : (x == 1) = true := by simp [hx1]
                    rw [dx] at HS
                    clear hx1
                    go_wp2_with fail
                    go_round
                    case rel => exact ⟨k + 1, _, by omega, by go_num, rfl, by rw [HS.out]; rfl⟩
                    case measure => simp [intOf]; omega
                  · have dx : (x == 1) = false := by simp [hx1]
                    rw [dx] at HS
                    clear hx1
                    go_wp2_with fail
                    go_round
                    case rel => exact ⟨k + 1, _, by omega, by go_num, rfl, by rw [HS.out]; rfl⟩
                    case measure => simp [intOf]; omega
              · have hfil := fil_fold D K M HM9.out o k (by omega) HO.out
                clear HO
                subst hfil
                have HLF := Lib.hid (left_v w8 g A6 c6 D K (M : Int) (by rw [HM9.out]) R9.out)
                generalize hfo : filB D K = fo at *
                have HFO := Lib.hid hfo
                clear hfo
                go_wp2_with fail
                refine HLF.out.mono ?_
                rintro e w9 ⟨rfl, hb9⟩
                go_wp2_with fail
                refine (filled_any w9 g A6 c6 D K (R9.out.keep hb9)).mono ?_
                rw [HFO.out]
                rintro e w10 ⟨rfl, hb10⟩
                have hb11 := bt hb9 hb10
                have F11 := Lib.hid (F9.out.bel hb11)
                have S11 := Lib.hid (S9.out.keep hb11)
                have R11 := Lib.hid (R9.out.keep hb11)
                clear hb9 hb10 hb11
                cases fo
                all_goals
                  go_wp2_with fail
                  go_roundw
                  case rel => exact ⟨i + 1, K, A8, c8, by omega, HK9.out, by go_num, by rw [← HM9.out], by rw [← HM9.out]; exact hc9, hcm9, S11.out, N9.out, R11.out, F11.out⟩
                  case measure => simp [intOf]; omega
          have d1 : decide (n < 0) = false := by simpa using h1
          by_cases h2 : 16 < n
          · have d2 : decide (16 < n) = true := by simpa using h2
            have HT := Lib.hid (take_no wr g A6 c6 D K n R8.out (by rw [← HM.out]; omega))
            go_wp2_with fail
            refine HT.out.mono ?_
            rintro e w8 ⟨rfl, hb8⟩
            have F9 := Lib.hid (F8.out.bel hb8)
            have S9 := Lib.hid (S8.out.keep hb8)
            have R9 := Lib.hid (R8.out.keep hb8)
            have m1 := KM.out w8 F9.out i him
            rw [HNM.out] at m1
            clear hb8 HT m0
            go_wp2_with fail
            have HM9 := HM
            have HK9 := HK8
            have N9 := N8
            have hc9 := hc8
            have hcm9 : c8 ≤ maxLen := by unfold maxLen; omega
            go_loop [15, 16] (fun s15 s16 => ∃ (k : Nat) (o : Bool), k ≤ M ∧ s16 = .int .i64 (k : Int) ∧ s15 = .bool o ∧ o = (decide (M < 8) && (((bitsL D).drop K).take k).all fun x => x == 1)) (fun _ s16 => M - (intOf s16).toNat)
            case atStart => exact ⟨0, _, by omega, rfl, rfl, by simp; omega⟩
            case round =>
              obtain ⟨k, o, hkM, rfl, rfl, ho⟩ := hrel
              have HO := Lib.hid ho
              clear ho
              by_cases hk : k < M
              · have j1 : (k : Int) < (M : Int) := by omega
                have HLX := Lib.hid (show ((bitsL D).drop K).length = M by rw [List.length_drop, HLD.out, HM9.out])
                obtain ⟨b9, o9, h9, K9⟩ := Sl.cellsI S9.out (by rw [HLX.out]; omega)
                subst h9
                have k9 := K9.out w8 (fun _ => rfl) k (by rw [HLX.out]; exact hk)
                have HS := Lib.hid (all_snoc ((bitsL D).drop K) k (by rw [HLX.out]; exact hk) (decide (M < 8)))
                rw [← HO.out] at HS
                generalize hx : nth ((bitsL D).drop K) k = x at *
                clear hx
                cases o
                · go_wp2_with fail
                  go_round
                  case rel => exact ⟨k + 1, _, by omega, by go_num, rfl, by rw [HS.out]; rfl⟩
                  case measure => simp [intOf]; omega
                · by_cases hx1 : x = 1
                  · have dx : (x == 1) = true := by simp [hx1]
                    rw [dx] at HS
                    clear hx1
                    go_wp2_with fail
                    go_round
                    case rel => exact ⟨k + 1, _, by omega, by go_num, rfl, by rw [HS.out]; rfl⟩
                    case measure => simp [intOf]; omega
                  · have dx : (x == 1) = false := by simp [hx1]
                    rw [dx] at HS
                    clear hx1
                    go_wp2_with fail
                    go_round
                    case rel => exact ⟨k + 1, _, by omega, by go_num, rfl, by rw [HS.out]; rfl⟩
                    case measure => simp [intOf]; omega
              · have hfil := fil_fold D K M HM9.out o k (by omega) HO.out
                clear HO
                subst hfil
                have HLF := Lib.hid (left_v w8 g A6 c6 D K (M : Int) (by rw [HM9.out]) R9.out)
                generalize hfo : filB D K = fo at *
                have HFO := Lib.hid hfo
                clear hfo
                go_wp2_with fail
                refine HLF.out.mono ?_
                rintro e w9 ⟨rfl, hb9⟩
                go_wp2_with fail
                refine (filled_any w9 g A6 c6 D K (R9.out.keep hb9)).mono ?_
                rw [HFO.out]
                rintro e w10 ⟨rfl, hb10⟩
                have hb11 := bt hb9 hb10
                have F11 := Lib.hid (F9.out.bel hb11)
                have S11 := Lib.hid (S9.out.keep hb11)
                have R11 := Lib.hid (R9.out.keep hb11)
                clear hb9 hb10 hb11
                cases fo
                all_goals
                  go_wp2_with fail
                  go_roundw
                  case rel => exact ⟨i + 1, K, A8, c8, by omega, HK9.out, by go_num, by rw [← HM9.out], by rw [← HM9.out]; exact hc9, hcm9, S11.out, N9.out, R11.out, F11.out⟩
                  case measure => simp [intOf]; omega
          have d2 : decide (16 < n) = false := by simpa using h2
          by_cases h3 : (M : Int) < n
          · have d3 : decide ((M : Int) < n) = true := by simpa using h3
            have HT := Lib.hid (take_no wr g A6 c6 D K n R8.out (by rw [← HM.out]; omega))
            go_wp2_with fail
            refine HT.out.mono ?_
            rintro e w8 ⟨rfl, hb8⟩
            have F9 := Lib.hid (F8.out.bel hb8)
            have S9 := Lib.hid (S8.out.keep hb8)
            have R9 := Lib.hid (R8.out.keep hb8)
            have m1 := KM.out w8 F9.out i him
            rw [HNM.out] at m1
            clear hb8 HT m0
            go_wp2_with fail
            have HM9 := HM
            have HK9 := HK8
            have N9 := N8
            have hc9 := hc8
            have hcm9 : c8 ≤ maxLen := by unfold maxLen; omega
            go_loop [15, 16] (fun s15 s16 => ∃ (k : Nat) (o : Bool), k ≤ M ∧ s16 = .int .i64 (k : Int) ∧ s15 = .bool o ∧ o = (decide (M < 8) && (((bitsL D).drop K).take k).all fun x => x == 1)) (fun _ s16 => M - (intOf s16).toNat)
            case atStart => exact ⟨0, _, by omega, rfl, rfl, by simp; omega⟩
            case round =>
              obtain ⟨k, o, hkM, rfl, rfl, ho⟩ := hrel
              have HO := Lib.hid ho
              clear ho
              by_cases hk : k < M
              · have j1 : (k : Int) < (M : Int) := by omega
                have HLX := Lib.hid (show ((bitsL D).drop K).length = M by rw [List.length_drop, HLD.out, HM9.out])
                obtain ⟨b9, o9, h9, K9⟩ := Sl.cellsI S9.out (by rw [HLX.out]; omega)
                subst h9
                have k9 := K9.out w8 (fun _ => rfl) k (by rw [HLX.out]; exact hk)
                have HS := Lib.hid (all_snoc ((bitsL D).drop K) k (by rw [HLX.out]; exact hk) (decide (M < 8)))
                rw [← HO.out] at HS
                generalize hx : nth ((bitsL D).drop K) k = x at *
                clear hx
                cases o
                · go_wp2_with fail
                  go_round
                  case rel => exact ⟨k + 1, _, by omega, by go_num, rfl, by rw [HS.out]; rfl⟩
                  case measure => simp [intOf]; omega
                · by_cases hx1 : x = 1
                  · have dx : (x == 1) = true := by simp [hx1]
                    rw [dx] at HS
                    clear hx1
                    go_wp2_with fail
                    go_round
                    case rel => exact ⟨k + 1, _, by omega, by go_num, rfl, by rw [HS.out]; rfl⟩
                    case measure => simp [intOf]; omega
                  · have dx : (x == 1) = false := by simp [hx1]
                    rw [dx] at HS
                    clear hx1
                    go_wp2_with fail
                    go_round
                    case rel => exact ⟨k + 1, _, by omega, by go_num, rfl, by rw [HS.out]; rfl⟩
                    case measure => simp [intOf]; omega
              · have hfil := fil_fold D K M HM9.out o k (by omega) HO.out
                clear HO
                subst hfil
                have HLF := Lib.hid (left_v w8 g A6 c6 D K (M : Int) (by rw [HM9.out]) R9.out)
                generalize hfo : filB D K = fo at *
                have HFO := Lib.hid hfo
                clear hfo
                go_wp2_with fail
                refine HLF.out.mono ?_
                rintro e w9 ⟨rfl, hb9⟩
                go_wp2_with fail
                refine (filled_any w9 g A6 c6 D K (R9.out.keep hb9)).mono ?_
                rw [HFO.out]
                rintro e w10 ⟨rfl, hb10⟩
                have hb11 := bt hb9 hb10
                have F11 := Lib.hid (F9.out.bel hb11)
                have S11 := Lib.hid (S9.out.keep hb11)
                have R11 := Lib.hid (R9.out.keep hb11)
                clear hb9 hb10 hb11
                cases fo
                all_goals
                  go_wp2_with fail
                  go_roundw
                  case rel => exact ⟨i + 1, K, A8, c8, by omega, HK9.out, by go_num, by rw [← HM9.out], by rw [← HM9.out]; exact hc9, hcm9, S11.out, N9.out, R11.out, F11.out⟩
                  case measure => simp [intOf]; omega
          have d3 : decide ((M : Int) < n) = false := by simpa using h3
          obtain ⟨nn, rfl⟩ := Int.eq_ofNat_of_zero_le (show 0 ≤ n by omega)
          have hn16 : nn ≤ 16 := by omega
          have hnM : nn ≤ M := by omega
          have hnc : (nn : Int) ≤ (c8 : Int) := by omega
          have hk9 : K + nn ≤ 8 * D.length := by have h1 := HM.out; have h2 := HK8.out; omega
          have HT := Lib.hid (take_yes wr g A6 c6 D K nn R8.out hn16 hk9)
          have HTL := Lib.hid (show (((bitsL D).drop K).take nn).length = nn by rw [List.length_take, List.length_drop, HLD.out]; omega)
          have q1 : (0 : Int) ≤ (nn : Int) := by omega
          have q2 : (nn : Int) ≤ 16 := by omega
          have q3 : (nn : Int) ≤ (M : Int) := by omega
          have q5 : decide (nn ≤ M) = true := decide_eq_true hnM
          go_wp2_with fail
          refine HT.out.mono ?_
          rintro e w8 ⟨rfl, hr8, hg8⟩
          have F9 := Lib.hid (F8.out.grow hg8 (.inl rfl))
          have S9 := Lib.hid (Sl.frN S8.out N8.out hg8)
          have R9 := Lib.hid hr8
          have m1 := KM.out w8 F9.out i him
          rw [HNM.out] at m1
          have HX := Lib.hid (show ∀ x ∈ ((bitsL D).drop K).take nn, x = 0 ∨ x = 1 from fun x hx => bitsL_bit D x (List.mem_of_mem_drop (List.mem_of_mem_take hx)))
          have HNB := Lib.hid (number_any A8 (((bitsL D).drop K).take nn) c8 w8 (S9.out.take nn) (by rw [HTL.out]; omega) HX.out)
          rw [HTL.out] at HNB
          clear hr8 hg8 HT m0
          generalize hV : numL (((bitsL D).drop K).take nn) = V at *
          clear hV
          go_wp2_with fail
          refine HNB.out.mono ?_
          rintro e w' ⟨rfl, rfl⟩
          go_wp2_with fail
          all_goals
            have hM9 : M - nn = 8 * D.length - (K + nn) := by have h1 := HM.out; have h2 := HK8.out; omega
            have HK9 := Lib.hid hk9
            have hS9 := Sl.cut' (S9.out) (c := c8) (j := nn) (by rw [List.length_drop, HLD.out, ← HM.out]; exact hc8)
            rw [List.drop_drop] at hS9
            obtain ⟨M9, hMM⟩ : ∃ M9, M9 = M - nn := ⟨_, rfl⟩
            rw [← hMM] at hM9 ⊢
            have HM9 := Lib.hid hM9
            have hMle9 : M9 ≤ 8000 := by omega
            clear S9
          · have hcn : c8 = nn := by assumption
            rw [if_pos hcn] at hS9
            have S9 := Lib.hid hS9
            have N9 := N8
            have hc9 : M9 ≤ 0 := by omega
            have hcm9 : 0 ≤ maxLen := by unfold maxLen; omega
            clear hS9 hMM hM9
            go_loop [15, 16] (fun s15 s16 => ∃ (k : Nat) (o : Bool), k ≤ M9 ∧ s16 = .int .i64 (k : Int) ∧ s15 = .bool o ∧ o = (decide (M9 < 8) && (((bitsL D).drop (K + nn)).take k).all fun x => x == 1)) (fun _ s16 => M9 - (intOf s16).toNat)
            case atStart => exact ⟨0, _, by omega, rfl, rfl, by simp; omega⟩
            case round =>
              obtain ⟨k, o, hkM, rfl, rfl, ho⟩ := hrel
              have HO := Lib.hid ho
              clear ho
              by_cases hk : k < M9
              · have j1 : (k : Int) < (M9 : Int) := by omega
                have HLX := Lib.hid (show ((bitsL D).drop (K + nn)).length = M9 by rw [List.length_drop, HLD.out, HM9.out])
                obtain ⟨b9, o9, h9, K9⟩ := Sl.cellsI S9.out (by rw [HLX.out]; omega)
                subst h9
                have k9 := K9.out w8 (fun _ => rfl) k (by rw [HLX.out]; exact hk)
                have HS := Lib.hid (all_snoc ((bitsL D).drop (K + nn)) k (by rw [HLX.out]; exact hk) (decide (M9 < 8)))
                rw [← HO.out] at HS
                generalize hx : nth ((bitsL D).drop (K + nn)) k = x at *
                clear hx
                cases o
                · go_wp2_with fail
                  go_round
                  case rel => exact ⟨k + 1, _, by omega, by go_num, rfl, by rw [HS.out]; rfl⟩
                  case measure => simp [intOf]; omega
                · by_cases hx1 : x = 1
                  · have dx : (x == 1) = true := by simp [hx1]
                    rw [dx] at HS
                    clear hx1
                    go_wp2_with fail
                    go_round
                    case rel => exact ⟨k + 1, _, by omega, by go_num, rfl, by rw [HS.out]; rfl⟩
                    case measure => simp [intOf]; omega
                  · have dx : (x == 1) = false := by simp [hx1]
                    rw [dx] at HS
                    clear hx1
                    go_wp2_with fail
                    go_round
                    case rel => exact ⟨k + 1, _, by omega, by go_num, rfl, by rw [HS.out]; rfl⟩
                    case measure => simp [intOf]; omega
              · have hfil := fil_fold D (K + nn) M9 HM9.out o k (by omega) HO.out
                clear HO
                subst hfil
                have HLF := Lib.hid (left_v w8 g A6 c6 D (K + nn) (M9 : Int) (by rw [HM9.out]) R9.out)
                generalize hfo : filB D (K + nn) = fo at *
                have HFO := Lib.hid hfo
                clear hfo
                go_wp2_with fail
                refine HLF.out.mono ?_
                rintro e w9 ⟨rfl, hb9⟩
                go_wp2_with fail
                refine (filled_any w9 g A6 c6 D (K + nn) (R9.out.keep hb9)).mono ?_
                rw [HFO.out]
                rintro e w10 ⟨rfl, hb10⟩
                have hb11 := bt hb9 hb10
                have F11 := Lib.hid (F9.out.bel hb11)
                have S11 := Lib.hid (S9.out.keep hb11)
                have R11 := Lib.hid (R9.out.keep hb11)
                clear hb9 hb10 hb11
                cases fo
                all_goals
                  go_wp2_with fail
                  go_roundw
                  case rel => exact ⟨i + 1, (K + nn), A8, 0, by omega, HK9.out, by go_num, by rw [← HM9.out], by rw [← HM9.out]; exact hc9, hcm9, S11.out, N9.out, R11.out, F11.out⟩
                  case measure => simp [intOf]; omega

          · have hcn : ¬ c8 = nn := by assumption
            rw [if_neg hcn] at hS9
            have N9 := Lib.hid (show ∀ a, Option.map (fun x : Addr => x.add nn) A8 = some a → a.block ≠ g from fun a ha => by
              cases hA : A8 with
              | none => rw [hA] at ha; cases ha
              | some a0 =>
                rw [hA] at ha
                injection ha with ha
                subst ha
                rw [block_add]
                exact N8.out _ hA)
            have S9 := Lib.hid hS9
            have hc9 : M9 ≤ c8 - nn := by omega
            have hcm9 : c8 - nn ≤ maxLen := by unfold maxLen; omega
            clear hS9 hM9 hMM
            generalize Option.map (fun x : Addr => x.add nn) A8 = A10 at *
            generalize c8 - nn = c10 at *
            go_loop [15, 16] (fun s15 s16 => ∃ (k : Nat) (o : Bool), k ≤ M9 ∧ s16 = .int .i64 (k : Int) ∧ s15 = .bool o ∧ o = (decide (M9 < 8) && (((bitsL D).drop (K + nn)).take k).all fun x => x == 1)) (fun _ s16 => M9 - (intOf s16).toNat)
            case atStart => exact ⟨0, _, by omega, rfl, rfl, by simp; omega⟩
            case round =>
              obtain ⟨k, o, hkM, rfl, rfl, ho⟩ := hrel
              have HO := Lib.hid ho
              clear ho
              by_cases hk : k < M9
              · have j1 : (k : Int) < (M9 : Int) := by omega
                have HLX := Lib.hid (show ((bitsL D).drop (K + nn)).length = M9 by rw [List.length_drop, HLD.out, HM9.out])
                obtain ⟨b9, o9, h9, K9⟩ := Sl.cellsI S9.out (by rw [HLX.out]; omega)
                subst h9
                have k9 := K9.out w8 (fun _ => rfl) k (by rw [HLX.out]; exact hk)
                have HS := Lib.hid (all_snoc ((bitsL D).drop (K + nn)) k (by rw [HLX.out]; exact hk) (decide (M9 < 8)))
                rw [← HO.out] at HS
                generalize hx : nth ((bitsL D).drop (K + nn)) k = x at *
                clear hx
                cases o
                · go_wp2_with fail
                  go_round
                  case rel => exact ⟨k + 1, _, by omega, by go_num, rfl, by rw [HS.out]; rfl⟩
                  case measure => simp [intOf]; omega
                · by_cases hx1 : x = 1
                  · have dx : (x == 1) = true := by simp [hx1]
                    rw [dx] at HS
                    clear hx1
                    go_wp2_with fail
                    go_round
                    case rel => exact ⟨k + 1, _, by omega, by go_num, rfl, by rw [HS.out]; rfl⟩
                    case measure => simp [intOf]; omega
                  · have dx : (x == 1) = false := by simp [hx1]
                    rw [dx] at HS
                    clear hx1
                    go_wp2_with fail
                    go_round
                    case rel => exact ⟨k + 1, _, by omega, by go_num, rfl, by rw [HS.out]; rfl⟩
                    case measure => simp [intOf]; omega
              · have hfil := fil_fold D (K + nn) M9 HM9.out o k (by omega) HO.out
                clear HO
                subst hfil
                have HLF := Lib.hid (left_v w8 g A6 c6 D (K + nn) (M9 : Int) (by rw [HM9.out]) R9.out)
                generalize hfo : filB D (K + nn) = fo at *
                have HFO := Lib.hid hfo
                clear hfo
                go_wp2_with fail
                refine HLF.out.mono ?_
                rintro e w9 ⟨rfl, hb9⟩
                go_wp2_with fail
                refine (filled_any w9 g A6 c6 D (K + nn) (R9.out.keep hb9)).mono ?_
                rw [HFO.out]
                rintro e w10 ⟨rfl, hb10⟩
                have hb11 := bt hb9 hb10
                have F11 := Lib.hid (F9.out.bel hb11)
                have S11 := Lib.hid (S9.out.keep hb11)
                have R11 := Lib.hid (R9.out.keep hb11)
                clear hb9 hb10 hb11
                cases fo
                all_goals
                  go_wp2_with fail
                  go_roundw
                  case rel => exact ⟨i + 1, (K + nn), A10, c10, by omega, HK9.out, by go_num, by rw [← HM9.out], by rw [← HM9.out]; exact hc9, hcm9, S11.out, N9.out, R11.out, F11.out⟩
                  case measure => simp [intOf]; omega

        · have HLF := Lib.hid (left_v wr g A6 c6 D K (M : Int) (by rw [HM.out]) R8.out)
          have hw1 : w.heap.size ≤ g := Nat.le_trans hb2.size hwl
          go_wp2_with fail
          refine HLF.out.mono ?_
          rintro e w9 ⟨rfl, hb9⟩
          have F9 := Lib.hid (F8.out.bel hb9)
          clear hb9
          go_wp2_with fail
          refine (same_any A5 A l c5 cap w9 (Sl.fr_lt S5.out HBQ.out hwl F9.out) (Sl.fr_lt HS.out HB0.out hw1 F9.out)).mono ?_
          rintro e w' ⟨rfl, rfl⟩
          go_wp2_with fail
          refine (awake_any w9).mono ?_
          rintro e w10 ⟨rfl, hb10⟩
          have HF := Lib.hid ((F9.out.below HB0.out hw1 (fun q h => by cases h) HB0.out.size).trans (hb10.mono (Nat.le_trans HB0.out.size F9.out.size)))
          clear hb10
          go_wp2_with fail
          go_ret
          exact ⟨rfl, HF.out⟩

    · refine (bplain_no A5 l c5 w3 (S5.out.keep (bt hbn hb3)) (by omega) (by rw [← HU.out]; omega)).mono ?_
      rintro e w4 ⟨rfl, hb4⟩
      have du : ((u : Int) == (l.length : Int)) = false := by simp; omega
      have HW := Lib.hid hw
      clear hw
      go_wp2_with fail
      refine (data_any A l cap w4 (HS.out.keep (bt (bt hb2 hbn) (bt hb3 hb4))) (by omega)).mono ?_
      rw [← HU.out]
      rintro e w' ⟨rfl, rfl⟩
      go_wp2_with fail
      refine (stuff_n A5 l l.length c5 rfl w4 (S5.out.keep (bt hbn (bt hb3 hb4))) (by omega) (stf l) _ rfl rfl).mono ?_
      rintro e w6 ⟨A11, c11, rfl, ho11, hb6⟩
      have S11 := Lib.hid ho11.sl'.2
      clear ho11
      generalize hsl : (stf l).length = nsl
      have HSL := Lib.hid hsl
      clear hsl
      go_wp2_with fail
      refine (rstuff_any A l cap w6 (HS.out.keep (bt (bt hb2 hbn) (bt (bt hb3 hb4) hb6))) (by omega)).mono ?_
      rw [HSL.out]
      rintro e w7 ⟨A12, c12, rfl, ho12, hb7⟩
      have S12 := Lib.hid ho12.sl'.2
      clear ho12
      go_wp2_with fail
      refine (same_n A11 A12 (stf l) nsl nsl c11 c12 HSL.out.symm HSL.out.symm w7 (S11.out.keep hb7) S12.out).mono ?_
      rintro e w' ⟨rfl, rfl⟩
      have hbq := bt hbn (bt (bt hb3 hb4) (bt hb6 hb7))
      have hq2 := bt (bt hb3 hb4) (bt hb6 hb7)
      clear S11 S12 HSL
      go_wp2_with fail
      have RQ := Lib.hid (R2.out.keep hq2)
      have S7q := Lib.hid (S7.out.keep (bt (bt hb4 hb6) hb7))
      have HBQ := Lib.hid hbq
      have HB0 := Lib.hid (bt hb2 hbq)
      clear hb3 hb6 hb7 hbq hq2 hb4
      obtain ⟨wq, rfl⟩ : ∃ wq, wq = w7 := ⟨_, rfl⟩
      have hwl : w1.heap.size ≤ g := hg2
      have HF0 := Lib.hid (Fr.refl wq g none)
      have hd0 : D.length ≤ 300 := by omega
      clear hg2 hg3 hpl
      go_loopw [7, 11] (fun s7 s11 wr => ∃ (i K : Nat) (A7 : Option Addr) (c7 : Nat), i ≤ ms.length ∧ K ≤ 8 * D.length ∧ s11 = .int .i64 (i : Int) ∧ s7 = .slice A7 (8 * D.length - K) c7 ∧ 8 * D.length - K ≤ c7 ∧ c7 ≤ maxLen ∧ Sl .i64 wr A7 ((bitsL D).drop K) ∧ (∀ a, A7 = some a → a.block ≠ g) ∧ RS wr g A6 c6 D K ∧ Fr wq wr g none) (fun _ s11 _ => ms.length - (intOf s11).toNat)
      case atStart => exact ⟨0, 0, A7, c7, by omega, by omega, rfl, rfl, by omega, hc7m, by rw [List.drop_zero]; exact S7q.out, N7.out, RQ.out, HF0.out⟩
      case round =>
        obtain ⟨i, K, A8, c8, hi, hK, rfl, rfl, hc8, hc8m, hs8, hn8, hR8, hF8⟩ := hrel
        have S8 := Lib.hid hs8
        have N8 := Lib.hid hn8
        have R8 := Lib.hid hR8
        have F8 := Lib.hid hF8
        unfold maxLen at hc8m
        clear hs8 hn8 hR8 hF8 HF0 hc7 hc7m
        have HLD := Lib.hid (bitsL_len D)
        obtain ⟨M, hM⟩ : ∃ M, M = 8 * D.length - K := ⟨_, rfl⟩
        rw [← hM] at hc8 ⊢
        have hMle : M ≤ 8000 := by omega
        have HM := Lib.hid hM
        have HK8 := Lib.hid hK
        clear hM hK
        by_cases him : i < ms.length
        · have i1 : (i : Int) < (ms.length : Int) := by omega
          obtain ⟨bm, om, rfl, KM⟩ := Sl.frcells HS1.out HB0.out (Nat.le_trans hb2.size hwl) (by omega)
          have n1 := (wf64 (HW1.out _ (mem_nth ms i him))).1
          have n2 := (wf64 (HW1.out _ (mem_nth ms i him))).2
          have m0 := KM.out wr F8.out i him
          generalize hnm : nth ms i = n at *
          have HNM := Lib.hid hnm
          clear hnm
          by_cases h1 : n < 0
          · have d1 : decide (n < 0) = true := by simpa using h1
            have HT := Lib.hid (take_no wr g A6 c6 D K n R8.out (by rw [← HM.out]; omega))
            go_wp2_with fail
            refine HT.out.mono ?_
            rintro e w8 ⟨rfl, hb8⟩
            have F9 := Lib.hid (F8.out.bel hb8)
            have S9 := Lib.hid (S8.out.keep hb8)
            have R9 := Lib.hid (R8.out.keep hb8)
            have m1 := KM.out w8 F9.out i him
            rw [HNM.out] at m1
            clear hb8 HT m0
            go_wp2_with fail
            have HM9 := HM
            have HK9 := HK8
            have N9 := N8
            have hc9 := hc8
            have hcm9 : c8 ≤ maxLen := by unfold maxLen; omega
            go_loop [15, 16] (fun s15 s16 => ∃ (k : Nat) (o : Bool), k ≤ M ∧ s16 = .int .i64 (k : Int) ∧ s15 = .bool o ∧ o = (decide (M < 8) && (((bitsL D).drop K).take k).all fun x => x == 1)) (fun _ s16 => M - (intOf s16).toNat)
            case atStart => exact ⟨0, _, by omega, rfl, rfl, by simp; omega⟩
            case round =>
              obtain ⟨k, o, hkM, rfl, rfl, ho⟩ := hrel
              have HO := Lib.hid ho
              clear ho
              by_cases hk : k < M
              · have j1 : (k : Int) < (M : Int) := by omega
                have HLX := Lib.hid (show ((bitsL D).drop K).length = M by rw [List.length_drop, HLD.out, HM9.out])
                obtain ⟨b9, o9, h9, K9⟩ := Sl.cellsI S9.out (by rw [HLX.out]; omega)
                subst h9
                have k9 := K9.out w8 (fun _ => rfl) k (by rw [HLX.out]; exact hk)
                have HS := Lib.hid (all_snoc ((bitsL D).drop K) k (by rw [HLX.out]; exact hk) (decide (M < 8)))
                rw [← HO.out] at HS
                generalize hx : nth ((bitsL D).drop K) k = x at *
                clear hx
                cases o
                · go_wp2_with fail
                  go_round
                  case rel => exact ⟨k + 1, _, by omega, by go_num, rfl, by rw [HS.out]; rfl⟩
                  case measure => simp [intOf]; omega
                · by_cases hx1 : x = 1
                  · have dx : (x == 1) = true := by simp [hx1]
                    rw [dx] at HS
                    clear hx1
                    go_wp2_with fail
                    go_round
                    case rel => exact ⟨k + 1, _, by omega, by go_num, rfl, by rw [HS.out]; rfl⟩
                    case measure => simp [intOf]; omega
                  · have dx : (x == 1) = false := by simp [hx1]
                    rw [dx] at HS
                    clear hx1
                    go_wp2_with fail
                    go_round
                    case rel => exact ⟨k + 1, _, by omega, by go_num, rfl, by rw [HS.out]; rfl⟩
                    case measure => simp [intOf]; omega
              · have hfil := fil_fold D K M HM9.out o k (by omega) HO.out
                clear HO
                subst hfil
                have HLF := Lib.hid (left_v w8 g A6 c6 D K (M : Int) (by rw [HM9.out]) R9.out)
                generalize hfo : filB D K = fo at *
                have HFO := Lib.hid hfo
                clear hfo
                go_wp2_with fail
                refine HLF.out.mono ?_
                rintro e w9 ⟨rfl, hb9⟩
                go_wp2_with fail
                refine (filled_any w9 g A6 c6 D K (R9.out.keep hb9)).mono ?_
                rw [HFO.out]
                rintro e w10 ⟨rfl, hb10⟩
                have hb11 := bt hb9 hb10
                have F11 := Lib.hid (F9.out.bel hb11)
                have S11 := Lib.hid (S9.out.keep hb11)
                have R11 := Lib.hid (R9.out.keep hb11)
                clear hb9 hb10 hb11
                cases fo
                all_goals
                  go_wp2_with fail
                  go_roundw
                  case rel => exact ⟨i + 1, K, A8, c8, by omega, HK9.out, by go_num, by rw [← HM9.out], by rw [← HM9.out]; exact hc9, hcm9, S11.out, N9.out, R11.out, F11.out⟩
                  case measure => simp [intOf]; omega
          have d1 : decide (n < 0) = false := by simpa using h1
          by_cases h2 : 16 < n
          · have d2 : decide (16 < n) = true := by simpa using h2
            have HT := Lib.hid (take_no wr g A6 c6 D K n R8.out (by rw [← HM.out]; omega))
            go_wp2_with fail
            refine HT.out.mono ?_
            rintro e w8 ⟨rfl, hb8⟩
            have F9 := Lib.hid (F8.out.bel hb8)
            have S9 := Lib.hid (S8.out.keep hb8)
            have R9 := Lib.hid (R8.out.keep hb8)
            have m1 := KM.out w8 F9.out i him
            rw [HNM.out] at m1
            clear hb8 HT m0
            go_wp2_with fail
            have HM9 := HM
            have HK9 := HK8
            have N9 := N8
            have hc9 := hc8
            have hcm9 : c8 ≤ maxLen := by unfold maxLen; omega
            go_loop [15, 16] (fun s15 s16 => ∃ (k : Nat) (o : Bool), k ≤ M ∧ s16 = .int .i64 (k : Int) ∧ s15 = .bool o ∧ o = (decide (M < 8) && (((bitsL D).drop K).take k).all fun x => x == 1)) (fun _ s16 => M - (intOf s16).toNat)
            case atStart => exact ⟨0, _, by omega, rfl, rfl, by simp; omega⟩
            case round =>
              obtain ⟨k, o, hkM, rfl, rfl, ho⟩ := hrel
              have HO := Lib.hid ho
              clear ho
              by_cases hk : k < M
              · have j1 : (k : Int) < (M : Int) := by omega
                have HLX := Lib.hid (show ((bitsL D).drop K).length = M by rw [List.length_drop, HLD.out, HM9.out])
                obtain ⟨b9, o9, h9, K9⟩ := Sl.cellsI S9.out (by rw [HLX.out]; omega)
                subst h9
                have k9 := K9.out w8 (fun _ => rfl) k (by rw [HLX.out]; exact hk)
                have HS := Lib.hid (all_snoc ((bitsL D).drop K) k (by rw [HLX.out]; exact hk) (decide (M < 8)))
                rw [← HO.out] at HS
                generalize hx : nth ((bitsL D).drop K) k = x at *
                clear hx
                cases o
                · go_wp2_with fail
                  go_round
                  case rel => exact ⟨k + 1, _, by omega, by go_num, rfl, by rw [HS.out]; rfl⟩
                  case measure => simp [intOf]; omega
                · by_cases hx1 : x = 1
                  · have dx : (x == 1) = true := by simp [hx1]
                    rw [dx] at HS
                    clear hx1
                    go_wp2_with fail
                    go_round
                    case rel => exact ⟨k + 1, _, by omega, by go_num, rfl, by rw [HS.out]; rfl⟩
                    case measure => simp [intOf]; omega
                  · have dx : (x == 1) = false := by simp [hx1]
                    rw [dx] at HS
                    clear hx1
                    go_wp2_with fail
                    go_round
                    case rel => exact ⟨k + 1, _, by omega, by go_num, rfl, by rw [HS.out]; rfl⟩
                    case measure => simp [intOf]; omega
              · have hfil := fil_fold D K M HM9.out o k (by omega) HO.out
                clear HO
                subst hfil
                have HLF := Lib.hid (left_v w8 g A6 c6 D K (M : Int) (by rw [HM9.out]) R9.out)
                generalize hfo : filB D K = fo at *
                have HFO := Lib.hid hfo
                clear hfo
                go_wp2_with fail
                refine HLF.out.mono ?_
                rintro e w9 ⟨rfl, hb9⟩
                go_wp2_with fail
                refine (filled_any w9 g A6 c6 D K (R9.out.keep hb9)).mono ?_
                rw [HFO.out]
                rintro e w10 ⟨rfl, hb10⟩
                have hb11 := bt hb9 hb10
                have F11 := Lib.hid (F9.out.bel hb11)
                have S11 := Lib.hid (S9.out.keep hb11)
                have R11 := Lib.hid (R9.out.keep hb11)
                clear hb9 hb10 hb11
                cases fo
                all_goals
                  go_wp2_with fail
                  go_roundw
                  case rel => exact ⟨i + 1, K, A8, c8, by omega, HK9.out, by go_num, by rw [← HM9.out], by rw [← HM9.out]; exact hc9, hcm9, S11.out, N9.out, R11.out, F11.out⟩
                  case measure => simp [intOf]; omega
          have d2 : decide (16 < n) = false := by simpa using h2
          by_cases h3 : (M : Int) < n
          · have d3 : decide ((M : Int) < n) = true := by simpa using h3
            have HT := Lib.hid (take_no wr g A6 c6 D K n R8.out (by rw [← HM.out]; omega))
            go_wp2_with fail
            refine HT.out.mono ?_
            rintro e w8 ⟨rfl, hb8⟩
            have F9 := Lib.hid (F8.out.bel hb8)
            have S9 := Lib.hid (S8.out.keep hb8)
            have R9 := Lib.hid (R8.out.keep hb8)
            have m1 := KM.out w8 F9.out i him
            rw [HNM.out] at m1
            clear hb8 HT m0
            go_wp2_with fail
            have HM9 := HM
            have HK9 := HK8
            have N9 := N8
            have hc9 := hc8
            have hcm9 : c8 ≤ maxLen := by unfold maxLen; omega
            go_loop [15, 16] (fun s15 s16 => ∃ (k : Nat) (o : Bool), k ≤ M ∧ s16 = .int .i64 (k : Int) ∧ s15 = .bool o ∧ o = (decide (M < 8) && (((bitsL D).drop K).take k).all fun x => x == 1)) (fun _ s16 => M - (intOf s16).toNat)
            case atStart => exact ⟨0, _, by omega, rfl, rfl, by simp; omega⟩
            case round =>
              obtain ⟨k, o, hkM, rfl, rfl, ho⟩ := hrel
              have HO := Lib.hid ho
              clear ho
              by_cases hk : k < M
              · have j1 : (k : Int) < (M : Int) := by omega
                have HLX := Lib.hid (show ((bitsL D).drop K).length = M by rw [List.length_drop, HLD.out, HM9.out])
                obtain ⟨b9, o9, h9, K9⟩ := Sl.cellsI S9.out (by rw [HLX.out]; omega)
                subst h9
                have k9 := K9.out w8 (fun _ => rfl) k (by rw [HLX.out]; exact hk)
                have HS := Lib.hid (all_snoc ((bitsL D).drop K) k (by rw [HLX.out]; exact hk) (decide (M < 8)))
                rw [← HO.out] at HS
                generalize hx : nth ((bitsL D).drop K) k = x at *
                clear hx
                cases o
                · go_wp2_with fail
                  go_round
                  case rel => exact ⟨k + 1, _, by omega, by go_num, rfl, by rw [HS.out]; rfl⟩
                  case measure => simp [intOf]; omega
                · by_cases hx1 : x = 1
                  · have dx : (x == 1) = true := by simp [hx1]
                    rw [dx] at HS
                    clear hx1
                    go_wp2_with fail
                    go_round
                    case rel => exact ⟨k + 1, _, by omega, by go_num, rfl, by rw [HS.out]; rfl⟩
                    case measure => simp [intOf]; omega
                  · have dx : (x == 1) = false := by simp [hx1]
                    rw [dx] at HS
                    clear hx1
                    go_wp2_with fail
                    go_round
                    case rel => exact ⟨k + 1, _, by omega, by go_num, rfl, by rw [HS.out]; rfl⟩
                    case measure => simp [intOf]; omega
              · have hfil := fil_fold D K M HM9.out o k (by omega) HO.out
                clear HO
                subst hfil
                have HLF := Lib.hid (left_v w8 g A6 c6 D K (M : Int) (by rw [HM9.out]) R9.out)
                generalize hfo : filB D K = fo at *
                have HFO := Lib.hid hfo
                clear hfo
                go_wp2_with fail
                refine HLF.out.mono ?_
                rintro e w9 ⟨rfl, hb9⟩
                go_wp2_with fail
                refine (filled_any w9 g A6 c6 D K (R9.out.keep hb9)).mono ?_
                rw [HFO.out]
                rintro e w10 ⟨rfl, hb10⟩
                have hb11 := bt hb9 hb10
                have F11 := Lib.hid (F9.out.bel hb11)
                have S11 := Lib.hid (S9.out.keep hb11)
                have R11 := Lib.hid (R9.out.keep hb11)
                clear hb9 hb10 hb11
                cases fo
                all_goals
                  go_wp2_with fail
                  go_roundw
                  case rel => exact ⟨i + 1, K, A8, c8, by omega, HK9.out, by go_num, by rw [← HM9.out], by rw [← HM9.out]; exact hc9, hcm9, S11.out, N9.out, R11.out, F11.out⟩
                  case measure => simp [intOf]; omega
          have d3 : decide ((M : Int) < n) = false := by simpa using h3
          obtain ⟨nn, rfl⟩ := Int.eq_ofNat_of_zero_le (show 0 ≤ n by omega)
          have hn16 : nn ≤ 16 := by omega
          have hnM : nn ≤ M := by omega
          have hnc : (nn : Int) ≤ (c8 : Int) := by omega
          have hk9 : K + nn ≤ 8 * D.length := by have h1 := HM.out; have h2 := HK8.out; omega
          have HT := Lib.hid (take_yes wr g A6 c6 D K nn R8.out hn16 hk9)
          have HTL := Lib.hid (show (((bitsL D).drop K).take nn).length = nn by rw [List.length_take, List.length_drop, HLD.out]; omega)
          have q1 : (0 : Int) ≤ (nn : Int) := by omega
          have q2 : (nn : Int) ≤ 16 := by omega
          have q3 : (nn : Int) ≤ (M : Int) := by omega
          have q5 : decide (nn ≤ M) = true := decide_eq_true hnM
          go_wp2_with fail
          refine HT.out.mono ?_
          rintro e w8 ⟨rfl, hr8, hg8⟩
          have F9 := Lib.hid (F8.out.grow hg8 (.inl rfl))
          have S9 := Lib.hid (Sl.frN S8.out N8.out hg8)
          have R9 := Lib.hid hr8
          have m1 := KM.out w8 F9.out i him
          rw [HNM.out] at m1
          have HX := Lib.hid (show ∀ x ∈ ((bitsL D).drop K).take nn, x = 0 ∨ x = 1 from fun x hx => bitsL_bit D x (List.mem_of_mem_drop (List.mem_of_mem_take hx)))
          have HNB := Lib.hid (number_any A8 (((bitsL D).drop K).take nn) c8 w8 (S9.out.take nn) (by rw [HTL.out]; omega) HX.out)
          rw [HTL.out] at HNB
          clear hr8 hg8 HT m0
          generalize hV : numL (((bitsL D).drop K).take nn) = V at *
          clear hV
          go_wp2_with fail
          refine HNB.out.mono ?_
          rintro e w' ⟨rfl, rfl⟩
          go_wp2_with fail
          all_goals
            have hM9 : M - nn = 8 * D.length - (K + nn) := by have h1 := HM.out; have h2 := HK8.out; omega
            have HK9 := Lib.hid hk9
            have hS9 := Sl.cut' (S9.out) (c := c8) (j := nn) (by rw [List.length_drop, HLD.out, ← HM.out]; exact hc8)
            rw [List.drop_drop] at hS9
            obtain ⟨M9, hMM⟩ : ∃ M9, M9 = M - nn := ⟨_, rfl⟩
            rw [← hMM] at hM9 ⊢
            have HM9 := Lib.hid hM9
            have hMle9 : M9 ≤ 8000 := by omega
            clear S9
          · have hcn : c8 = nn := by assumption
            rw [if_pos hcn] at hS9
            have S9 := Lib.hid hS9
            have N9 := N8
            have hc9 : M9 ≤ 0 := by omega
            have hcm9 : 0 ≤ maxLen := by unfold maxLen; omega
            clear hS9 hMM hM9
            go_loop [15, 16] (fun s15 s16 => ∃ (k : Nat) (o : Bool), k ≤ M9 ∧ s16 = .int .i64 (k : Int) ∧ s15 = .bool o ∧ o = (decide (M9 < 8) && (((bitsL D).drop (K + nn)).take k).all fun x => x == 1)) (fun _ s16 => M9 - (intOf s16).toNat)
            case atStart => exact ⟨0, _, by omega, rfl, rfl, by simp; omega⟩
            case round =>
              obtain ⟨k, o, hkM, rfl, rfl, ho⟩ := hrel
              have HO := Lib.hid ho
              clear ho
              by_cases hk : k < M9
              · have j1 : (k : Int) < (M9 : Int) := by omega
                have HLX := Lib.hid (show ((bitsL D).drop (K + nn)).length = M9 by rw [List.length_drop, HLD.out, HM9.out])
                obtain ⟨b9, o9, h9, K9⟩ := Sl.cellsI S9.out (by rw [HLX.out]; omega)
                subst h9
                have k9 := K9.out w8 (fun _ => rfl) k (by rw [HLX.out]; exact hk)
                have HS := Lib.hid (all_snoc ((bitsL D).drop (K + nn)) k (by rw [HLX.out]; exact hk) (decide (M9 < 8)))
                rw [← HO.out] at HS
                generalize hx : nth ((bitsL D).drop (K + nn)) k = x at *
                clear hx
                cases o
                · go_wp2_with fail
                  go_round
                  case rel => exact ⟨k + 1, _, by omega, by go_num, rfl, by rw [HS.out]; rfl⟩
                  case measure => simp [intOf]; omega
                · by_cases hx1 : x = 1
                  · have dx : (x == 1) = true := by simp [hx1]
                    rw [dx] at HS
                    clear hx1
                    go_wp2_with fail
                    go_round
                    case rel => exact ⟨k + 1, _, by omega, by go_num, rfl, by rw [HS.out]; rfl⟩
                    case measure => simp [intOf]; omega
                  · have dx : (x == 1) = false := by simp [hx1]
                    rw [dx] at HS
                    clear hx1
                    go_wp2_with fail
                    go_round
                    case rel => exact ⟨k + 1, _, by omega, by go_num, rfl, by rw [HS.out]; rfl⟩
                    case measure => simp [intOf]; omega
              · have hfil := fil_fold D (K + nn) M9 HM9.out o k (by omega) HO.out
                clear HO
                subst hfil
                have HLF := Lib.hid (left_v w8 g A6 c6 D (K + nn) (M9 : Int) (by rw [HM9.out]) R9.out)
                generalize hfo : filB D (K + nn) = fo at *
                have HFO := Lib.hid hfo
                clear hfo
                go_wp2_with fail
                refine HLF.out.mono ?_
                rintro e w9 ⟨rfl, hb9⟩
                go_wp2_with fail
                refine (filled_any w9 g A6 c6 D (K + nn) (R9.out.keep hb9)).mono ?_
                rw [HFO.out]
                rintro e w10 ⟨rfl, hb10⟩
                have hb11 := bt hb9 hb10
                have F11 := Lib.hid (F9.out.bel hb11)
                have S11 := Lib.hid (S9.out.keep hb11)
                have R11 := Lib.hid (R9.out.keep hb11)
                clear hb9 hb10 hb11
                cases fo
                all_goals
                  go_wp2_with fail
                  go_roundw
                  case rel => exact ⟨i + 1, (K + nn), A8, 0, by omega, HK9.out, by go_num, by rw [← HM9.out], by rw [← HM9.out]; exact hc9, hcm9, S11.out, N9.out, R11.out, F11.out⟩
                  case measure => simp [intOf]; omega

          · have hcn : ¬ c8 = nn := by assumption
            rw [if_neg hcn] at hS9
            have N9 := Lib.hid (show ∀ a, Option.map (fun x : Addr => x.add nn) A8 = some a → a.block ≠ g from fun a ha => by
              cases hA : A8 with
              | none => rw [hA] at ha; cases ha
              | some a0 =>
                rw [hA] at ha
                injection ha with ha
                subst ha
                rw [block_add]
                exact N8.out _ hA)
            have S9 := Lib.hid hS9
            have hc9 : M9 ≤ c8 - nn := by omega
            have hcm9 : c8 - nn ≤ maxLen := by unfold maxLen; omega
            clear hS9 hM9 hMM
            generalize Option.map (fun x : Addr => x.add nn) A8 = A10 at *
            generalize c8 - nn = c10 at *
            go_loop [15, 16] (fun s15 s16 => ∃ (k : Nat) (o : Bool), k ≤ M9 ∧ s16 = .int .i64 (k : Int) ∧ s15 = .bool o ∧ o = (decide (M9 < 8) && (((bitsL D).drop (K + nn)).take k).all fun x => x == 1)) (fun _ s16 => M9 - (intOf s16).toNat)
            case atStart => exact ⟨0, _, by omega, rfl, rfl, by simp; omega⟩
            case round =>
              obtain ⟨k, o, hkM, rfl, rfl, ho⟩ := hrel
              have HO := Lib.hid ho
              clear ho
              by_cases hk : k < M9
              · have j1 : (k : Int) < (M9 : Int) := by omega
                have HLX := Lib.hid (show ((bitsL D).drop (K + nn)).length = M9 by rw [List.length_drop, HLD.out, HM9.out])
                obtain ⟨b9, o9, h9, K9⟩ := Sl.cellsI S9.out (by rw [HLX.out]; omega)
                subst h9
                have k9 := K9.out w8 (fun _ => rfl) k (by rw [HLX.out]; exact hk)
                have HS := Lib.hid (all_snoc ((bitsL D).drop (K + nn)) k (by rw [HLX.out]; exact hk) (decide (M9 < 8)))
                rw [← HO.out] at HS
                generalize hx : nth ((bitsL D).drop (K + nn)) k = x at *
                clear hx
                cases o
                · go_wp2_with fail
                  go_round
                  case rel => exact ⟨k + 1, _, by omega, by go_num, rfl, by rw [HS.out]; rfl⟩
                  case measure => simp [intOf]; omega
                · by_cases hx1 : x = 1
                  · have dx : (x == 1) = true := by simp [hx1]
                    rw [dx] at HS
                    clear hx1
                    go_wp2_with fail
                    go_round
                    case rel => exact ⟨k + 1, _, by omega, by go_num, rfl, by rw [HS.out]; rfl⟩
                    case measure => simp [intOf]; omega
                  · have dx : (x == 1) = false := by simp [hx1]
                    rw [dx] at HS
                    clear hx1
                    go_wp2_with fail
                    go_round
                    case rel => exact ⟨k + 1, _, by omega, by go_num, rfl, by rw [HS.out]; rfl⟩
                    case measure => simp [intOf]; omega
              · have hfil := fil_fold D (K + nn) M9 HM9.out o k (by omega) HO.out
                clear HO
                subst hfil
                have HLF := Lib.hid (left_v w8 g A6 c6 D (K + nn) (M9 : Int) (by rw [HM9.out]) R9.out)
                generalize hfo : filB D (K + nn) = fo at *
                have HFO := Lib.hid hfo
                clear hfo
                go_wp2_with fail
                refine HLF.out.mono ?_
                rintro e w9 ⟨rfl, hb9⟩
                go_wp2_with fail
                refine (filled_any w9 g A6 c6 D (K + nn) (R9.out.keep hb9)).mono ?_
                rw [HFO.out]
                rintro e w10 ⟨rfl, hb10⟩
                have hb11 := bt hb9 hb10
                have F11 := Lib.hid (F9.out.bel hb11)
                have S11 := Lib.hid (S9.out.keep hb11)
                have R11 := Lib.hid (R9.out.keep hb11)
                clear hb9 hb10 hb11
                cases fo
                all_goals
                  go_wp2_with fail
                  go_roundw
                  case rel => exact ⟨i + 1, (K + nn), A10, c10, by omega, HK9.out, by go_num, by rw [← HM9.out], by rw [← HM9.out]; exact hc9, hcm9, S11.out, N9.out, R11.out, F11.out⟩
                  case measure => simp [intOf]; omega

        · have HLF := Lib.hid (left_v wr g A6 c6 D K (M : Int) (by rw [HM.out]) R8.out)
          have hw1 : w.heap.size ≤ g := Nat.le_trans hb2.size hwl
          go_wp2_with fail
          refine HLF.out.mono ?_
          rintro e w9 ⟨rfl, hb9⟩
          have F9 := Lib.hid (F8.out.bel hb9)
          clear hb9
          go_wp2_with fail
          refine (same_any A5 A l c5 cap w9 (Sl.fr_lt S5.out HBQ.out hwl F9.out) (Sl.fr_lt HS.out HB0.out hw1 F9.out)).mono ?_
          rintro e w' ⟨rfl, rfl⟩
          go_wp2_with fail
          refine (awake_any w9).mono ?_
          rintro e w10 ⟨rfl, hb10⟩
          have HF := Lib.hid ((F9.out.below HB0.out hw1 (fun q h => by cases h) HB0.out.size).trans (hb10.mono (Nat.le_trans HB0.out.size F9.out.size)))
          clear hb10
          go_wp2_with fail
          go_ret
          exact ⟨rfl, HF.out⟩
end Go.Proofs.Ytoclmeblbjpilaa
