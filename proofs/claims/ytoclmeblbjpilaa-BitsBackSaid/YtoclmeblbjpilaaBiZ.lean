/- The walk of BitsWrites. -/
import Derived.Test.YtoclmeblbjpilaaBiY
import Derived.Test.YtoclmeblbjpilaaFlt
namespace Go.Proofs.Ytoclmeblbjpilaa
open Go.RowKit
open Go.Tin
set_option linter.unusedVariables false
set_option linter.unusedSimpArgs false


theorem Own.keepFr {k : IntKind} {e : TypeId} {w w' : World} {B g : Nat} {r : Option Nat} {v : Value} {l : List Int} (h : Own k e w B v l) (hf : Fr w w' g r) (h1 : v.ownBlock ≠ some g) (h2 : v.ownBlock = none ∨ v.ownBlock ≠ r) : Own k e w' B v l := by
  obtain ⟨h3, h4⟩ := h
  refine ⟨h3, ?_⟩
  rcases h4 with h4 | ⟨q, cap, cur, hv, hBg, hh, hr⟩
  · exact .inl h4
  · refine .inr ⟨q, cap, cur, hv, hBg, ?_, hr⟩
    subst hv
    have hlt : q < w.heap.size := by
      rcases Nat.lt_or_ge q w.heap.size with h | h
      · exact h
      · rw [Array.getElem?_eq_none h] at hh; cases hh
    rw [hf.block q hlt (fun e => h1 (by simp [Value.ownBlock, e])) (fun e => by
      rcases h2 with h2 | h2
      · simp [Value.ownBlock] at h2
      · exact h2 (by simpa [Value.ownBlock] using e))]
    exact hh
theorem AW.grown {w0 w w' : World} {B g : Nat} {A : Option Addr} {c : Nat} {L : List Int} {x : Option Nat} (h : AW w0 w B g A c L) (hg : w.grownBy w' x) (h1 : x ≠ some g) (h2 : x = none ∨ ob A ≠ x) (hx : ∀ k, x = some k → B ≤ k) : AW w0 w' B g A c L :=
  ⟨h.ws.kept hg h1 h2, h.bel.grown hg (Nat.le_of_lt (Nat.lt_of_le_of_lt h.bg h.ws.gt)) hx, h.bg⟩
theorem ud {B : Nat} {w x : World} (h : Below B w.drew x) : Below B w x := ⟨h.os, h.tape, h.output, h.size, h.block⟩
theorem Own.low {k : IntKind} {e : TypeId} {w : World} {B n c : Nat} {A : Option Addr} {l : List Int} (h : Own k e w B (.slice A n c) l) : ∀ q, ob A = some q → B ≤ q ∧ q < w.heap.size := by
  intro q hq
  rw [← ob_eq A n c] at hq
  obtain ⟨h1, h2⟩ := World.ownsRow.lt h q hq
  exact ⟨by omega, by omega⟩

set_option maxRecDepth 100000 in
set_option maxHeartbeats 4000000 in
theorem writes_any (A : Option Addr) (len cap : Nat) (w : World) (ft : Fits w (.slice 2 (.fld 0 0 1 (.int .i64) (.fld 1 1 1 (.int .i64) .unit))) [.slice A len cap]) :
    Calls Try.prog 3 #[.slice A len cap] w fun e w' => e = .returned (.bool true) ∧ Below w.heap.size w w' := by
  obtain ⟨zs, hsl, hzl, hlc, hcm, hwf, -⟩ := flat_of_fits (flat_two w .i64) ft
  clear ft
  unfold maxLen at hcm
  have HS := Lib.hid hsl
  have HZ := Lib.hid hzl
  have HW := Lib.hid hwf
  clear hsl hzl hwf
  by_cases h200 : 200 < len
  · have d1 : decide ((200 : Int) < (len : Int)) = true := decide_eq_true (by omega)
    go_enter Try.func3, Try.ntmps3
    go_wp2_with fail
    refine (awake_any w).mono ?_
    rintro e w1 ⟨rfl, hb⟩
    go_wp2_with fail
    go_ret
    exact ⟨rfl, hb⟩
  · have d1 : decide ((200 : Int) < (len : Int)) = false := decide_eq_false (by omega)
    have hlen : len ≤ 200 := by omega
    clear h200
    go_enter Try.func3, Try.ntmps3
    go_wp2_with fail
    have H0 := Lib.hid (AW.new w w w.heap.size (brefl w) (Nat.le_refl _))
    obtain ⟨g, hg⟩ : ∃ g, g = w.heap.size := ⟨_, rfl⟩
    rw [← hg] at H0 ⊢
    have HG := Lib.hid hg
    clear hg
    go_loopw [4, 5] (fun s4 s5 wr => ∃ (i : Nat) (A4 : Option Addr) (c4 : Nat) (L : List Int) (A5 : Option Addr) (c5 : Nat), i ≤ len ∧ s5 = .int .i64 (i : Int) ∧ s4 = .slice A4 L.length c4 ∧ L.length ≤ 16 * i ∧ Own .i64 3 wr g (.slice A4 L.length c4) L ∧ ob A4 ≠ some g ∧ (ob A4 = none ∨ ob A4 ≠ ob A5) ∧ AW w wr g g A5 c5 L) (fun _ s5 _ => len - (intOf s5).toNat)
    case atStart => exact ⟨0, none, 0, [], none, 0, by omega, rfl, rfl, by simp, Own.nil_ _ _ _ _, by simp [ob, Value.ownBlock], .inl rfl, H0.out⟩
    case round =>
      obtain ⟨i, A4, c4, L, A5, c5, hi, rfl, rfl, hLl, ho, hne, hap, haw⟩ := hrel
      have HO := Lib.hid ho
      have HN := Lib.hid hne
      have HP := Lib.hid hap
      have HA := Lib.hid haw
      clear ho hne hap haw H0
      have hL3 : L.length ≤ 3200 := by omega
      by_cases hil : i < len
      · have i1 : (i : Int) < (len : Int) := by omega
        obtain ⟨b, off, rfl, hbl, hcell⟩ := HS.out.at_ (by rw [HZ.out]; omega)
        have K0 := Lib.hid (show ∀ W : World, Below g w W → W.cell? ⟨b, off + i * 2, none⟩ = some (.int .i64 (nth zs (i * 2))) from fun W h => (h.cell (p := ⟨b, off + i * 2, none⟩) (by rw [HG.out]; exact hbl)).trans (hcell (i * 2) (by rw [HZ.out]; omega)))
        have K1 := Lib.hid (show ∀ W : World, Below g w W → W.cell? ⟨b, off + i * 2 + 1, none⟩ = some (.int .i64 (nth zs (i * 2 + 1))) from fun W h => (h.cell (p := ⟨b, off + i * 2 + 1, none⟩) (by rw [HG.out]; exact hbl)).trans (by rw [Nat.add_assoc]; exact hcell (i * 2 + 1) (by rw [HZ.out]; omega)))
        have HwV := Lib.hid (HW.out _ (mem_nth zs (i * 2) (by rw [HZ.out]; omega)))
        have nb := wf64 (HW.out _ (mem_nth zs (i * 2 + 1) (by rw [HZ.out]; omega)))
        clear hcell
        generalize nth zs (i * 2) = V at *
        generalize nth zs (i * 2 + 1) = N at *
        have c1 := K1.out wr HA.out.bel
        have kb0 : ∀ p : Bel g wr.drew, p.w'.cell? ⟨b, off + i * 2, none⟩ = some (.int .i64 V) := fun p => K0.out _ (HA.out.bel.trans (ud p.h))
        have kb1 : ∀ p : Bel g wr.drew, p.w'.cell? ⟨b, off + i * 2 + 1, none⟩ = some (.int .i64 N) := fun p => K1.out _ (HA.out.bel.trans (ud p.h))
        by_cases h1 : N < 0
        · have d1 : decide (N < 0) = true := by simpa using h1
          have HT := Lib.hid (fun W => put_no W g V N (by omega))
          go_wp2_with fail
          refine Tin.reg_begin g 13 (by rfl) (by kernel_rfl) ?_
          refine Tin.reg_quiets [0, 1, 2, 3, 4, 5, 6, 7, 8, 9, 11] _ 2 rfl (by simp only [Tin.pick, List.map_cons, List.map_nil, Array.getD_eq_getD_getElem?, List.getElem?_toArray, List.getElem?_cons_zero, List.getElem?_cons_succ, Option.getD_some]; rfl) (by kernel_rfl) (by kernel_rfl) ?_
          repeat (first | go_big_quiet_step (fail))
          refine wpQuiet_nil ?_
          refine Tin.reg_one 10 _ rfl (by kernel_rfl) ?_
          try simp only [List.getElem_toArray, List.getElem_cons_succ, List.getElem_cons_zero]
          go_wp2_with fail
          refine Calls.mono (HT.out _) ?_
          rintro e w2 ⟨rfl, hb2⟩
          go_wp2_with fail
          refine ⟨g, (hb2.mono (Nat.le_of_lt HA.out.ws.gt)), Nat.le_refl _, ?_⟩
          have HA2 := Lib.hid (HA.out.keep (ud hb2))
          have HO2 := Lib.hid (HO.out.keep (ud hb2))
          clear hb2 kb0 kb1 HT
          refine Tin.reg_quiets [12] _ 0 rfl (by simp only [Tin.pick, List.map_cons, List.map_nil, Array.getD_eq_getD_getElem?, List.getElem?_toArray, List.getElem?_cons_zero, List.getElem?_cons_succ, Option.getD_some]; rfl) (by kernel_rfl) (by kernel_rfl) ?_
          repeat (first | go_big_quiet_step (fail))
          refine wpQuiet_nil ?_
          refine Tin.reg_done (by kernel_rfl) ?_
          go_wp2_with fail
          have HN2 := Lib.hid (show ob A4 ≠ some g ∧ (ob A4 = none ∨ ob A4 ≠ ob A5) from ⟨HN.out, HP.out⟩)
          have HL2 := Lib.hid (show L.length ≤ 16 * (i + 1) by omega)
          refine (wlen_n w2 g g A5 c5 L HA2.out.ws (L.length : Int) rfl).mono ?_
          rintro e w3 ⟨rfl, hb3⟩
          have HA3 := Lib.hid (HA2.out.keep hb3)
          have HO3 := Lib.hid (Own.keep HO2.out hb3)
          clear hb3 HA2 HO2
          go_wp2_with fail
          refine (done_any w3 g g A5 c5 L HA3.out.ws).mono ?_
          rintro e w4 ⟨AX, cX, rfl, ho8, hb4⟩
          have HA4 := Lib.hid (HA3.out.keep hb4)
          have HO4 := Lib.hid (Own.keep HO3.out hb4)
          have S8 := Lib.hid (Own.sl' ho8).2
          clear hb4 HA3 HO3 ho8
          go_wp2_with fail
          refine (rbytes_any A4 L c4 w4 (Own.sl' HO4.out).2 (by omega) HA4.out.ws.bits).mono ?_
          rintro e w5 ⟨A9, c9, rfl, ho9, hb5⟩
          have HA5 := Lib.hid (HA4.out.keep hb5)
          have HO5 := Lib.hid (Own.keep HO4.out hb5)
          have S9 := Lib.hid (Own.sl' ho9).2
          have S8b := Lib.hid (Sl.keep S8.out hb5)
          clear hb5 HA4 HO4 ho9
          go_wp2_with fail
          refine (same_any AX A9 _ cX c9 w5 S8b.out S9.out).mono ?_
          rintro e w' ⟨rfl, rfl⟩
          go_wp2_with fail
          go_roundw
          case rel => exact ⟨i + 1, A4, c4, L, A5, c5, by omega, by go_num, rfl, HL2.out, HO5.out, HN2.out.1, HN2.out.2, HA5.out⟩
          case measure => simp [intOf]; omega
        have d1 : decide (N < 0) = false := by simpa using h1
        by_cases h2 : 16 < N
        · have d2 : decide (16 < N) = true := by simpa using h2
          have HT := Lib.hid (fun W => put_no W g V N (by omega))
          go_wp2_with fail
          refine Tin.reg_begin g 13 (by rfl) (by kernel_rfl) ?_
          refine Tin.reg_quiets [0, 1, 2, 3, 4, 5, 6, 7, 8, 9, 11] _ 2 rfl (by simp only [Tin.pick, List.map_cons, List.map_nil, Array.getD_eq_getD_getElem?, List.getElem?_toArray, List.getElem?_cons_zero, List.getElem?_cons_succ, Option.getD_some]; rfl) (by kernel_rfl) (by kernel_rfl) ?_
          repeat (first | go_big_quiet_step (fail))
          refine wpQuiet_nil ?_
          refine Tin.reg_one 10 _ rfl (by kernel_rfl) ?_
          try simp only [List.getElem_toArray, List.getElem_cons_succ, List.getElem_cons_zero]
          go_wp2_with fail
          refine Calls.mono (HT.out _) ?_
          rintro e w2 ⟨rfl, hb2⟩
          go_wp2_with fail
          refine ⟨g, (hb2.mono (Nat.le_of_lt HA.out.ws.gt)), Nat.le_refl _, ?_⟩
          have HA2 := Lib.hid (HA.out.keep (ud hb2))
          have HO2 := Lib.hid (HO.out.keep (ud hb2))
          clear hb2 kb0 kb1 HT
          refine Tin.reg_quiets [12] _ 0 rfl (by simp only [Tin.pick, List.map_cons, List.map_nil, Array.getD_eq_getD_getElem?, List.getElem?_toArray, List.getElem?_cons_zero, List.getElem?_cons_succ, Option.getD_some]; rfl) (by kernel_rfl) (by kernel_rfl) ?_
          repeat (first | go_big_quiet_step (fail))
          refine wpQuiet_nil ?_
          refine Tin.reg_done (by kernel_rfl) ?_
          go_wp2_with fail
          have HN2 := Lib.hid (show ob A4 ≠ some g ∧ (ob A4 = none ∨ ob A4 ≠ ob A5) from ⟨HN.out, HP.out⟩)
          have HL2 := Lib.hid (show L.length ≤ 16 * (i + 1) by omega)
          refine (wlen_n w2 g g A5 c5 L HA2.out.ws (L.length : Int) rfl).mono ?_
          rintro e w3 ⟨rfl, hb3⟩
          have HA3 := Lib.hid (HA2.out.keep hb3)
          have HO3 := Lib.hid (Own.keep HO2.out hb3)
          clear hb3 HA2 HO2
          go_wp2_with fail
          refine (done_any w3 g g A5 c5 L HA3.out.ws).mono ?_
          rintro e w4 ⟨AX, cX, rfl, ho8, hb4⟩
          have HA4 := Lib.hid (HA3.out.keep hb4)
          have HO4 := Lib.hid (Own.keep HO3.out hb4)
          have S8 := Lib.hid (Own.sl' ho8).2
          clear hb4 HA3 HO3 ho8
          go_wp2_with fail
          refine (rbytes_any A4 L c4 w4 (Own.sl' HO4.out).2 (by omega) HA4.out.ws.bits).mono ?_
          rintro e w5 ⟨A9, c9, rfl, ho9, hb5⟩
          have HA5 := Lib.hid (HA4.out.keep hb5)
          have HO5 := Lib.hid (Own.keep HO4.out hb5)
          have S9 := Lib.hid (Own.sl' ho9).2
          have S8b := Lib.hid (Sl.keep S8.out hb5)
          clear hb5 HA4 HO4 ho9
          go_wp2_with fail
          refine (same_any AX A9 _ cX c9 w5 S8b.out S9.out).mono ?_
          rintro e w' ⟨rfl, rfl⟩
          go_wp2_with fail
          go_roundw
          case rel => exact ⟨i + 1, A4, c4, L, A5, c5, by omega, by go_num, rfl, HL2.out, HO5.out, HN2.out.1, HN2.out.2, HA5.out⟩
          case measure => simp [intOf]; omega
        have d2 : decide (16 < N) = false := by simpa using h2
        obtain ⟨n, rfl⟩ := Int.eq_ofNat_of_zero_le (show 0 ≤ N by omega)
        have hn16 : n ≤ 16 := by omega
        have hAd : AW w wr.drew g g A5 c5 L := HA.out.keep ⟨rfl, rfl, rfl, Nat.le_refl _, fun _ _ => rfl⟩
        have HT := Lib.hid (put_aw w wr.drew g g A5 c5 L hAd V n n rfl hn16 HwV.out (by omega))
        have HLo := Lib.hid (fun W => lowest_any V n W (by omega) HwV.out)
        clear hAd
        have j0 : (0 : Int) ≤ (n : Int) := by omega
        have j1 : (n : Int) ≤ 16 := by omega
        go_wp2_with fail
        refine Tin.reg_begin g 13 (by rfl) (by kernel_rfl) ?_
        refine Tin.reg_quiets [0, 1, 2, 3, 4, 5, 6, 7, 8, 9, 11] _ 2 rfl (by simp only [Tin.pick, List.map_cons, List.map_nil, Array.getD_eq_getD_getElem?, List.getElem?_toArray, List.getElem?_cons_zero, List.getElem?_cons_succ, Option.getD_some]; rfl) (by kernel_rfl) (by kernel_rfl) ?_
        repeat (first | go_big_quiet_step (fail))
        refine wpQuiet_nil ?_
        refine Tin.reg_one 10 _ rfl (by kernel_rfl) ?_
        try simp only [List.getElem_toArray, List.getElem_cons_succ, List.getElem_cons_zero]
        go_wp2_with fail
        refine Calls.mono HT.out ?_
        rintro e w2 ⟨A6, c6, rfl, h2, hf2, hh2⟩
        go_wp2_with fail
        have hgr : g ≤ wr.heap.size := Nat.le_of_lt HA.out.ws.gt
        have HB2 := Lib.hid (hf2.below (Below.refl g _) (Nat.le_refl _) (fun q hq => (HA.out.ws.low q hq).1) hgr)
        refine ⟨g, HB2.out, Nat.le_refl _, ?_⟩
        have HA2 := Lib.hid h2
        have HO2 := Lib.hid (Own.keepFr (Own.drew HO.out) hf2 (by rw [ob_eq]; exact HN.out) (by rw [ob_eq]; exact HP.out))
        have HP2 := Lib.hid (show ob A4 = none ∨ ob A4 ≠ ob A6 from by
          rcases hh2 with h | ⟨q, h, hq⟩
          · rw [h]; exact HP.out
          · refine .inr fun e => ?_
            rw [h] at e
            have := (Own.low HO.out q e).2
            have hq' : wr.heap.size ≤ q := hq
            omega)
        have hbw := HA2.out.bel
        have kc0 : ∀ p : Bel g w2.drew, p.w'.cell? ⟨b, off + i * 2, none⟩ = some (.int .i64 V) := fun p => K0.out _ (hbw.trans (ud p.h))
        have kc1 : ∀ p : Bel g w2.drew, p.w'.cell? ⟨b, off + i * 2 + 1, none⟩ = some (.int .i64 (n : Int)) := fun p => K1.out _ (hbw.trans (ud p.h))
        clear h2 hf2 hh2 kb0 kb1 HT hgr HB2
        refine Tin.reg_quiets [12] _ 0 rfl (by simp only [Tin.pick, List.map_cons, List.map_nil, Array.getD_eq_getD_getElem?, List.getElem?_toArray, List.getElem?_cons_zero, List.getElem?_cons_succ, Option.getD_some]; rfl) (by kernel_rfl) (by kernel_rfl) ?_
        repeat (first | go_big_quiet_step (fail))
        refine wpQuiet_nil ?_
        refine Tin.reg_done (by kernel_rfl) ?_
        go_wp2_with fail
        refine Tin.reg_begin g 14 (by rfl) (by kernel_rfl) ?_
        refine Tin.reg_quiets [0, 1, 2, 3, 4, 5, 6, 7, 8, 9, 10] _ 3 rfl (by simp only [Tin.pick, List.map_cons, List.map_nil, Array.getD_eq_getD_getElem?, List.getElem?_toArray, List.getElem?_cons_zero, List.getElem?_cons_succ, Option.getD_some]; rfl) (by kernel_rfl) (by kernel_rfl) ?_
        repeat (first | go_big_quiet_step (fail))
        refine wpQuiet_nil ?_
        refine Tin.reg_one 11 _ rfl (by kernel_rfl) ?_
        try simp only [List.getElem_toArray, List.getElem_cons_succ, List.getElem_cons_zero]
        go_wp2_with fail
        refine Calls.mono (HLo.out _) ?_
        rintro e w3 ⟨A7, c7, rfl, ho7, hb7⟩
        go_wp2_with fail
        have hb7' := ud hb7
        have HA3 := Lib.hid (HA2.out.keep hb7')
        have HO3 := Lib.hid (Own.keep HO2.out hb7')
        have S7 := Lib.hid (Own.sl' ho7).2
        refine ⟨g, hb7.mono (Nat.le_of_lt HA2.out.ws.gt), Nat.le_refl _, ?_⟩
        clear ho7 hb7 hb7' HA2 HO2 kc0 kc1 hbw
        refine Tin.reg_one 12 _ rfl (by kernel_rfl) ?_
        try simp only [List.getElem_toArray, List.getElem_cons_succ, List.getElem_cons_zero]
        have hgw3 : g ≤ w3.heap.size := Nat.le_of_lt HA3.out.ws.gt
        have HLL := Lib.hid (low_len V n)
        go_wp2_with (at_builtin; refine Tin.wpl_app bt3 _ rfl (.tmp 45) (.tmp 56) rfl g (.slice A4 L.length c4) L rfl HO3.out A7 n c7 (low V n) rfl S7.out HLL.out.symm (by rw [HLL.out]; omega) (by rw [HLL.out]; omega) hgw3 ?_; intro v8 w8 ho8 hg8 how8; obtain ⟨A8, c8, rfl⟩ := own_form ho8; generalize hL8 : L ++ low V n = L8 at *; have HL8 := Lib.hid hL8; clear hL8)
        rw [ob_eq] at hg8 how8
        rw [ob_eq] at how8
        have hb8 : Below g w3 w8 := (Below.refl g w3).grown hg8 hgw3 (fun k hk => (Own.low HO3.out k hk).1)
        refine ⟨g, hb8, Nat.le_refl _, ?_⟩
        have HA8 := Lib.hid (HA3.out.grown hg8 HN.out (by
          rcases HP2.out with h | h
          · exact .inl h
          · exact .inr (fun e => h e.symm)) (fun k hk => (Own.low HO3.out k hk).1))
        have HN8 := Lib.hid (show ob A8 ≠ some g ∧ (ob A8 = none ∨ ob A8 ≠ ob A6) from by
          rcases how8 with h | h
          · rw [h]; exact ⟨HN.out, HP2.out⟩
          · rw [h]
            have := HA3.out.ws.gt
            refine ⟨fun e => by injection e; omega, .inr fun e => ?_⟩
            have := (HA3.out.ws.low _ e.symm).2
            omega)
        have HO8 := Lib.hid ho8
        clear ho8 hg8 how8 hb8 HA3 HO3 S7 hgw3
        refine Tin.reg_quiets [13] _ 0 rfl (by simp only [Tin.pick, List.map_cons, List.map_nil, Array.getD_eq_getD_getElem?, List.getElem?_toArray, List.getElem?_cons_zero, List.getElem?_cons_succ, Option.getD_some]; rfl) (by kernel_rfl) (by kernel_rfl) ?_
        repeat (first | go_big_quiet_step (fail))
        refine wpQuiet_nil ?_
        refine Tin.reg_done (by kernel_rfl) ?_
        have hl8 : L8.length ≤ 16 * (i + 1) := by rw [← HL8.out, List.length_append, HLL.out]; omega
        have HL2 := Lib.hid hl8
        have hl9 : L8.length ≤ 3300 := by omega
        clear hl8
        have HN2 := HN8
        have HA2 := HA8
        have HO2 := HO8
        clear HN8 HA8 HO8
        go_wp2_with fail
        refine (wlen_n w8 g g A6 c6 L8 HA2.out.ws (L8.length : Int) rfl).mono ?_
        rintro e w3 ⟨rfl, hb3⟩
        have HA3 := Lib.hid (HA2.out.keep hb3)
        have HO3 := Lib.hid (Own.keep HO2.out hb3)
        clear hb3 HA2 HO2
        go_wp2_with fail
        refine (done_any w3 g g A6 c6 L8 HA3.out.ws).mono ?_
        rintro e w4 ⟨AX, cX, rfl, ho8, hb4⟩
        have HA4 := Lib.hid (HA3.out.keep hb4)
        have HO4 := Lib.hid (Own.keep HO3.out hb4)
        have S8 := Lib.hid (Own.sl' ho8).2
        clear hb4 HA3 HO3 ho8
        go_wp2_with fail
        refine (rbytes_any A8 L8 c8 w4 (Own.sl' HO4.out).2 (by omega) HA4.out.ws.bits).mono ?_
        rintro e w5 ⟨A9, c9, rfl, ho9, hb5⟩
        have HA5 := Lib.hid (HA4.out.keep hb5)
        have HO5 := Lib.hid (Own.keep HO4.out hb5)
        have S9 := Lib.hid (Own.sl' ho9).2
        have S8b := Lib.hid (Sl.keep S8.out hb5)
        clear hb5 HA4 HO4 ho9
        go_wp2_with fail
        refine (same_any AX A9 _ cX c9 w5 S8b.out S9.out).mono ?_
        rintro e w' ⟨rfl, rfl⟩
        go_wp2_with fail
        go_roundw
        case rel => exact ⟨i + 1, A8, c8, L8, A6, c6, by omega, by go_num, rfl, HL2.out, HO5.out, HN2.out.1, HN2.out.2, HA5.out⟩
        case measure => simp [intOf]; omega

      · go_wp2_with fail
        refine (wlen_n wr g g A5 c5 L HA.out.ws (L.length : Int) rfl).mono ?_
        rintro e w3 ⟨rfl, hb3⟩
        have HA3 := Lib.hid (HA.out.keep hb3)
        clear hb3
        go_wp2_with fail
        refine (awake_any w3).mono ?_
        rintro e w4 ⟨rfl, hb4⟩
        have HB4 := Lib.hid (HA3.out.bel.trans (hb4.mono (Nat.le_of_lt HA3.out.ws.gt)))
        clear hb4
        go_wp2_with fail
        go_ret
        exact ⟨rfl, HG.out ▸ HB4.out⟩
end Go.Proofs.Ytoclmeblbjpilaa
