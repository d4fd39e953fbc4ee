/- The contract of the reference's Code. -/
import Derived.Test.YtckkncblbagfmaaCfI
namespace Go.Proofs.Ytckkncblbagfmaa
open Go.RowKit
open Go.Tin
set_option linter.unusedVariables false
set_option linter.unusedSimpArgs false


theorem sym_nil (z : Nat) (V N : Int) (i : Nat) (hi : i = z / 16) (y : Int) (hy : y = ((z % 16 : Nat) : Int) * 16 + N) : repL 1 i ++ [1, y, V, N] = symL 1 z V N := by
  subst hi; subst hy; rfl
theorem ini_bad (d : Int) : (ini d).bad = true ↔ (sz d < 0 ∨ 11 < sz d) := by
  unfold ini
  split
  · rename_i h; simp [h]
  · rename_i h; simp [h]

set_option maxRecDepth 100000 in
set_option maxHeartbeats 8000000 in
theorem rcode_any (b : List Int) (hn : b.length = 64) (hwf : ∀ z ∈ b, (Lit.int .i64 z).wf = true) (last : Int) (wl : (Lit.int .i64 last).wf = true) (w : World) :
    Calls Try.prog 15 #[.agg (arr .i64 b), .int .i64 last] w fun e w' => ∃ A n c, e = .returned (.tuple #[.slice A n c, .bool (told b last)]) ∧ n * 4 = (code b last).length ∧ OwnV 45 4 w' w.heap.size (.slice A n c) n (iv (code b last)) ∧ Below w.heap.size w w' := by
  have HN := Lib.hid hn
  have HS1 := Lib.hid (fun W => rsize_any last W wl)
  have HW0 := Lib.hid (hwf _ (mem_nth b 0 (by omega)))
  have HS2 := Lib.hid (fun W => rsize_any (nth b 0) W HW0.out)
  have HWT := Lib.hid (wf_toL hn hwf)
  clear hn hwf wl
  by_cases hl : sz last < 0
  · have HT := Lib.hid (told_no (b := b) (last := last) (.inl hl))
    rw [HT.out.1, HT.out.2]
    go_enter Try.func15, Try.ntmps15
    go_wp2_with fail
    refine (HS1.out _).mono ?_
    rintro e w' ⟨rfl, rfl⟩
    go_wp2_with fail
    go_ret2
    exact ⟨none, 0, 0, rfl, by simp, OwnV.nil_ _ _ _ _, ba (brefl w) _⟩
  by_cases hb0 : sz (nth b 0) < 0
  · have HT := Lib.hid (told_no (b := b) (last := last) (.inr hb0))
    have hl' : 0 ≤ sz last := by omega
    rw [HT.out.1, HT.out.2]
    generalize hx0 : nth b 0 = x0 at *
    have HX0 := Lib.hid hx0
    clear hx0
    go_enter Try.func15, Try.ntmps15
    have HR := Lib.hid (heap_alloc_new w (.cells (arr .i64 b) 33))
    have cb := blk_cell HR.out 0 (by rw [HN.out]; decide)
    rw [HX0.out] at cb
    go_wp2_with fail
    refine (HS1.out _).mono ?_
    rintro e w' ⟨rfl, rfl⟩
    go_wp2_with fail
    refine (HS2.out _).mono ?_
    rintro e w' ⟨rfl, rfl⟩
    go_wp2_with fail
    go_ret2
    exact ⟨none, 0, 0, rfl, by simp, OwnV.nil_ _ _ _ _, ba (brefl w) _⟩
  have hl' : 0 ≤ sz last := by omega
  have hb0' : 0 ≤ sz (nth b 0) := by omega
  have HTO := Lib.hid (told_of hl' hb0')
  have hld := sz_bd hl'
  have hbd := sz_bd hb0'
  have HC0 := Lib.hid (show cod b last 0 = ini (nth b 0 - last) from rfl)
  generalize hx0 : nth b 0 = x0 at *
  have HX0 := Lib.hid hx0
  clear hx0 hl hb0
  have hdw : (Lit.int .i64 (x0 - last)).wf = true := wf_of64 (by omega) (by omega)
  have hsub : IntKind.i64.wrap (x0 - last) = x0 - last := by rw [wrap_i64]; omega
  obtain ⟨d, hd⟩ : ∃ d, d = x0 - last := ⟨_, rfl⟩
  rw [← hd] at hdw hsub HC0
  have HS3 := Lib.hid (fun W => rsize_any d W hdw)
  have HX3 := Lib.hid (fun W h => rextra_any d W hdw h)
  have hd' : x0 - last = d := hd.symm
  clear hdw hd
  by_cases hbad : sz d < 0 ∨ 11 < sz d
  · have HT : Hid (told b last = false ∧ code b last = []) := by
      have h1 : (cod b last 63).bad = true := cod_bad b last 0 (by rw [HC0.out]; exact (ini_bad d).2 hbad) 63
      have h2 : told b last = false := by rw [HTO.out, h1]; rfl
      exact ⟨h2, by unfold code; rw [h2]; rfl⟩
    rw [HT.out.1, HT.out.2]
    have hs3 : sz d < 0 ∨ (0 ≤ sz d ∧ 11 < sz d) := by omega
    generalize sz d = s3 at *
    rcases hs3 with h3 | ⟨h3, h4⟩
    all_goals
      clear hbad
      go_enter Try.func15, Try.ntmps15
      have HR := Lib.hid (heap_alloc_new w (.cells (arr .i64 b) 33))
      have cb := blk_cell HR.out 0 (by rw [HN.out]; decide)
      rw [HX0.out] at cb
      go_wp2_with fail
      refine (HS1.out _).mono ?_
      rintro e w' ⟨rfl, rfl⟩
      go_wp2_with fail
      refine (HS2.out _).mono ?_
      rintro e w' ⟨rfl, rfl⟩
      go_wp2_with fail
      refine (HS3.out _).mono ?_
      rintro e w' ⟨rfl, rfl⟩
      go_wp2_with ((refine (HS3.out _).mono ?_); rintro e w' ⟨rfl, rfl⟩)
      go_ret2
      exact ⟨none, 0, 0, rfl, by simp, OwnV.nil_ _ _ _ _, ba (brefl w) _⟩
  · have h3 : 0 ≤ sz d := by omega
    have h4 : sz d ≤ 11 := by omega
    have HXd := Lib.hid (fun W => HX3.out W h3)
    have hC1 : cod b last 0 = ⟨[0, sz d, exV d, sz d], 0, false⟩ := by
      rw [HC0.out]
      unfold ini
      rw [if_neg hbad]
      simp [symL, repL]
    have HC1 := Lib.hid hC1
    have hEN : exN d = sz d := by unfold exN; rw [if_neg (by omega)]
    rw [hEN] at HXd
    clear hbad hC1 hEN HX3
    generalize sz d = s3 at *
    generalize exV d = xd at *
    go_enter Try.func15, Try.ntmps15
    have HR := Lib.hid (heap_alloc_new w (.cells (arr .i64 b) 33))
    have HB1 := Lib.hid (ba (brefl w) (.cells (arr .i64 b) 33))
    have hw1 : w.heap.size < (w.alloc (.cells (arr .i64 b) 33)).heap.size := by simp
    have cb := blk_cell HR.out 0 (by rw [HN.out]; decide)
    rw [HX0.out] at cb
    go_wp2_with fail
    refine (HS1.out _).mono ?_
    rintro e w' ⟨rfl, rfl⟩
    go_wp2_with fail
    refine (HS2.out _).mono ?_
    rintro e w' ⟨rfl, rfl⟩
    go_wp2_with fail
    refine (HS3.out _).mono ?_
    rintro e w' ⟨rfl, rfl⟩
    go_wp2_with ((refine (HS3.out _).mono ?_); rintro e w' ⟨rfl, rfl⟩)
    refine (HXd.out _).mono ?_
    rintro e w2 ⟨rfl, hb2⟩
    have hbl := bt hb2 (ba (brefl w2) (.cells #[.int .i64 0, .int .i64 s3, .int .i64 xd, .int .i64 s3] 45))
    have O2 := Lib.hid (OwnV.lit (e := 45) (sz := 4) (n := 1) w2 #[.int .i64 0, .int .i64 s3, .int .i64 xd, .int .i64 s3] rfl (by decide))
    have R2 := Lib.hid ((hbl.block _ hw1).trans HR.out)
    have HB2 := Lib.hid (bt HB1.out hbl)
    have hw2 : w.heap.size ≤ w2.heap.size := by have := hb2.size; omega
    clear hb2 hbl
    go_wp2_with (with_reducible refine wpl_load_arr at27 rfl (.tmp 2) rfl w.heap.size rfl 33 HN.out R2.out ?_)
    have hS2 : ((w2.alloc (.cells #[.int .i64 0, .int .i64 s3, .int .i64 xd, .int .i64 s3] 45)).heap.size = w2.heap.size + 1) := by simp
    generalize hw3 : w2.alloc (.cells #[.int .i64 0, .int .i64 s3, .int .i64 xd, .int .i64 s3] 45) = w3 at *
    refine (rto_any b HN.out w3).mono ?_
    rintro e w4 ⟨rfl, hb4⟩
    have O4 := Lib.hid (O2.out.keep hb4)
    have HB4 := Lib.hid (HB2.out.trans (hb4.mono HB2.out.size))
    have TL := Lib.hid (toL_len b)
    have hz4 := hb4.size
    clear hb4 R2 HB2 O2 hw3
    go_wp2_with (with_reducible refine wpl_store_arr at27 rfl (.tmp 8) (.tmp 40) rfl w4.heap.size rfl rfl 33 TL.out _ (by simp) (heap_alloc_new w4 _) ?_; intro w5 hr5 hg5 hs5)
    obtain ⟨q, hq⟩ : ∃ q, q = w4.heap.size := ⟨_, rfl⟩
    have hb45 : Below w4.heap.size w4 w5 := (ba (brefl w4) _).grown hg5 (by simp) (fun k hk => by cases hk; exact Nat.le_refl _)
    have O5 := Lib.hid ((O4.out.keep hb45).mono hw2)
    have HB5 := Lib.hid (HB4.out.trans (hb45.mono HB4.out.size))
    rw [← hq] at hr5 ⊢
    have R5 := Lib.hid hr5
    have hqw : w2.heap.size < q := by omega
    have hw5 : w.heap.size ≤ w5.heap.size := HB5.out.size
    clear hr5 hg5 hs5 hb45 O4 HB4 hz4 hS2 hq
    go_wp2_with fail
    go_loopw [7, 9, 10] (fun s7 s9 s10 W => ∃ (j : Nat) (A : Option Addr) (n c : Nat), j ≤ 63 ∧ s10 = .int .i64 ((j : Int) + 1) ∧ s9 = .int .i64 ((cod b last j).z : Int) ∧ s7 = .slice A n c ∧ OwnV 45 4 W w.heap.size (.slice A n c) n (iv (cod b last j).out) ∧ n * 4 = (cod b last j).out.length ∧ (cod b last j).bad = false ∧ ob A ≠ some q ∧ W.heap[q]? = some (.cells (arr .i64 (toL b)) 33 (0, 0)) ∧ Below w.heap.size w W) (fun _ _ s10 _ => 64 - (intOf s10).toNat)
    case atStart => exact ⟨0, some ⟨w2.heap.size, 0, none⟩, 1, 1, by omega, rfl, by rw [HC1.out]; rfl, rfl, by rw [HC1.out]; exact O5.out, by rw [HC1.out]; rfl, by rw [HC1.out], by rw [ob_some]; intro e; injection e with e; omega, R5.out, HB5.out⟩
    case round =>
      obtain ⟨j, A, n, c, hj, rfl, rfl, rfl, ho, hnl, hbf, hax, hrq, hbw⟩ := hrel
      have O := Lib.hid ho
      have NL := Lib.hid hnl
      have BF := Lib.hid hbf
      have AX := Lib.hid hax
      have RQ := Lib.hid hrq
      have HB := Lib.hid hbw
      have hwr := hbw.size
      have hnz : n + (cod b last j).z ≤ j + 1 := by
        obtain ⟨m, h1, h2⟩ := cod_len b last j
        omega
      have hq9 := row_lt hrq
      clear ho hnl hbf hax hrq hbw O5 R5 HB5
      by_cases hj63 : j < 63
      · have i1 : (j : Int) + 1 < 64 := by omega
        have cv := blk_cell RQ.out (j + 1) (by rw [TL.out]; omega)
        have HST := Lib.hid (show cod b last (j + 1) = stp (cod b last j) (nth (toL b) (j + 1)) from rfl)
        have HWV := Lib.hid (HWT.out (j + 1) (by omega))
        have HBA := Lib.hid (fun (h : (cod b last (j + 1)).bad = true) => (show told b last = false ∧ code b last = [] from by
          have h1 := cod_bad b last (j + 1) h (63 - (j + 1))
          rw [show j + 1 + (63 - (j + 1)) = 63 by omega] at h1
          have h2 : told b last = false := by rw [HTO.out, h1]; rfl
          exact ⟨h2, by unfold code; rw [h2]; rfl⟩))
        generalize hv0 : nth (toL b) (j + 1) = v at *
        have HV0 := Lib.hid hv0
        clear hv0
        generalize cod b last j = s at *
        obtain ⟨so, z, sb⟩ := s
        simp only at O NL BF hnz
        obtain rfl : sb = false := BF.out
        have jx : ((j : Int) + 1).toNat = j + 1 := by omega
        by_cases hv : v = 0
        · subst hv
          rw [stp_zero] at HST
          go_wp2_with fail
          go_roundw
          case rel => exact ⟨j + 1, A, n, c, by omega, by go_num, by rw [HST.out]; go_num, rfl, by rw [HST.out]; exact O.out, by rw [HST.out]; exact NL.out, by rw [HST.out], AX.out, RQ.out, HB.out⟩
          case measure => simp [intOf]; omega
        · have dv : (v == 0) = false := by simp [hv]
          have HSv := Lib.hid (fun W => rsize_any v W HWV.out)
          by_cases hbad : sz v < 0 ∨ 10 < sz v
          · rw [stp_bad' _ v hv hbad] at HST
            have HT := Lib.hid (HBA.out (by rw [HST.out]))
            have hs3 : sz v < 0 ∨ (0 ≤ sz v ∧ 10 < sz v) := by omega
            clear hv hbad
            generalize sz v = sv at *
            rcases hs3 with h5 | ⟨h5, h6⟩
            all_goals
              go_wp2_with fail
              refine (HSv.out _).mono ?_
              rintro e w' ⟨rfl, rfl⟩
              go_wp2_with fail
              go_ret2
              rw [HT.out.1, HT.out.2]
              exact ⟨none, 0, 0, rfl, rfl, OwnV.nil_ _ _ _ _, HB.out⟩
          · obtain ⟨m, hm, hm10⟩ : ∃ m : Nat, sz v = (m : Int) ∧ m ≤ 10 := ⟨(sz v).toNat, by omega, by omega⟩
            rw [stp_yes _ v hv m hm hm10] at HST
            have HXv := Lib.hid (fun W => rextra_any v W HWV.out (by omega))
            have hEN : exN v = (m : Int) := by unfold exN; rw [if_neg (by omega), hm]
            rw [hEN] at HXv
            rw [hm] at HSv
            clear hv hbad hm hEN HBA
            have m0 : (0 : Int) ≤ (m : Int) := by omega
            have m10 : (m : Int) ≤ 10 := by omega
            generalize exV v = xv at *
            go_wp2_with fail
            refine (HSv.out _).mono ?_
            rintro e w' ⟨rfl, rfl⟩
            go_wp2_with fail
            obtain ⟨wo, rfl⟩ : ∃ wo, wo = wr := ⟨_, rfl⟩
            go_loopw [7, 9] (fun s7 s9 W => ∃ (i : Nat) (A' : Option Addr) (c' : Nat), 16 * i ≤ z ∧ s9 = .int .i64 ((z - 16 * i : Nat) : Int) ∧ s7 = .slice A' (n + i) c' ∧ OwnV 45 4 W w.heap.size (.slice A' (n + i) c') (n + i) (iv (so ++ repL 1 i)) ∧ ob A' ≠ some q ∧ W.heap[q]? = some (.cells (arr .i64 (toL b)) 33 (0, 0)) ∧ Below w.heap.size w W) (fun _ s9 _ => (intOf s9).toNat)
            case atStart => exact ⟨0, A, c, by omega, by simp, rfl, by simpa [repL] using O.out, AX.out, RQ.out, HB.out⟩
            case round =>
              obtain ⟨i, A', c', hi, rfl, rfl, ho, hax, hrq, hbw⟩ := hrel
              have O2 := Lib.hid ho
              have AX2 := Lib.hid hax
              have RQ2 := Lib.hid hrq
              have HB2 := Lib.hid hbw
              have hwr2 := hbw.size
              have hq92 := row_lt hrq
              clear ho hax hrq hbw O AX RQ HB hwr hq9 cv
              have hi4 : i ≤ 4 := by omega
              obtain ⟨y, hy⟩ : ∃ y, y = z - 16 * i := ⟨_, rfl⟩
              rw [← hy]
              have HY := Lib.hid hy
              have hy100 : y ≤ 100 := by omega
              by_cases hy16 : 16 ≤ y
              · have i2 : (16 : Int) ≤ (y : Int) := by omega
                have HYY := Lib.hid (show (y : Int) - 16 = ((z - 16 * (i + 1) : Nat) : Int) ∧ 16 * (i + 1) ≤ z by omega)
                clear hy
                go_wp2_with (at_builtin; refine Tin.wplv_push sv34 _ #[.int .i64 1, .int .i64 240, .int .i64 0, .int .i64 0] rfl (.tmp 63) (.tmp 65) rfl w.heap.size A' (n + i) c' (iv (so ++ repL 1 i)) rfl O2.out hwr2 rfl rfl (by simp [Value.oneCell']) (by omega) (by omega) ?_; intro A4 c4 w4 ho4 hg4 how4; rw [ob_eq] at hg4; rw [ob_eq, ob_eq] at how4; have O4 := Lib.hid ho4; have RQ4 := Lib.hid ((hg4.block q hq92 (fun e => AX2.out e.symm)).trans RQ2.out); have HB4 := Lib.hid (HB2.out.grown hg4 hwr2 (fun k hk => (ownsRow_low O2.out k hk).1)); have AX4 := Lib.hid (show ob A4 ≠ some q from by rcases how4 with e | ⟨u, e, hu⟩; (rw [e]; exact AX2.out); (rw [e]; intro e'; injection e' with e'; omega)); clear ho4 hg4 how4)
                go_roundw
                case rel => exact ⟨i + 1, A4, c4, HYY.out.2, congrArg (Value.int .i64) HYY.out.1, rfl, by have h5 := O4.out; unfold iv at h5 ⊢; rw [repL, ← List.append_assoc, List.map_append]; exact h5, AX4.out, RQ4.out, HB4.out⟩
                case measure => simp [intOf]; have := HY.out; omega
              · have i2 : (y : Int) < 16 := by omega
                have hyz : y = z % 16 ∧ i = z / 16 := by omega
                have HYZ := Lib.hid hyz
                have cv2 := blk_cell RQ2.out (j + 1) (by rw [TL.out]; omega)
                rw [HV0.out] at cv2
                have hmul : (16 : Int) * (y : Int) + (m : Int) = ((z % 16 : Nat) : Int) * 16 + (m : Int) := by omega
                have HML := Lib.hid hmul
                clear hy hyz hmul
                go_wp2_with fail
                refine (HXv.out _).mono ?_
                rintro e w3 ⟨rfl, hb3⟩
                have O3 := Lib.hid (O2.out.keep hb3)
                have RQ3 := Lib.hid ((hb3.block q hq92).trans RQ2.out)
                have HB3 := Lib.hid (HB2.out.trans (hb3.mono hwr2))
                have hwr3 : w.heap.size ≤ w3.heap.size := Nat.le_trans hwr2 hb3.size
                have hq93 := row_lt RQ3.out
                clear hb3
                go_wp2_with (at_builtin; refine Tin.wplv_push sv34 _ #[.int .i64 1, .int .i64 (16 * (y : Int) + (m : Int)), .int .i64 xv, .int .i64 (m : Int)] rfl (.tmp 69) (.tmp 79) rfl w.heap.size A' (n + i) c' (iv (so ++ repL 1 i)) rfl O3.out hwr3 rfl rfl (by simp [Value.oneCell']) (by omega) (by omega) ?_; intro A4 c4 w4 ho4 hg4 how4; rw [ob_eq] at hg4; rw [ob_eq, ob_eq] at how4; have O4 := Lib.hid ho4; have RQ4 := Lib.hid ((hg4.block q hq93 (fun e => AX2.out e.symm)).trans RQ3.out); have HB4 := Lib.hid (HB3.out.grown hg4 hwr3 (fun k hk => (ownsRow_low O3.out k hk).1)); have AX4 := Lib.hid (show ob A4 ≠ some q from by rcases how4 with e | ⟨u, e, hu⟩; (rw [e]; exact AX2.out); (rw [e]; intro e'; injection e' with e'; omega)); clear ho4 hg4 how4)
                have HL := Lib.hid (show so ++ repL 1 i ++ [1, 16 * (y : Int) + (m : Int), xv, (m : Int)] = so ++ symL 1 z xv m by rw [List.append_assoc, sym_nil z xv m i HYZ.out.2 _ HML.out])
                go_roundw
                case rel => exact ⟨j + 1, A4, n + i + 1, c4, by omega, by go_num, by rw [HST.out]; rfl, rfl, by rw [HST.out]; have h5 := O4.out; unfold iv at h5 ⊢; rw [← HL.out, List.map_append]; exact h5, by rw [HST.out]; simp only [List.length_append, symL_len]; have h1 := NL.out; have h2 := HYZ.out.2; omega, by rw [HST.out], AX4.out, RQ4.out, HB4.out⟩
                case measure => simp [intOf]; omega
      · obtain rfl : j = 63 := by omega
        have HCD := Lib.hid (show told b last = true ∧ code b last = symsOf (cod b last 63) from by
          have h1 : told b last = true := by rw [HTO.out, BF.out]; rfl
          exact ⟨h1, by unfold code; rw [h1]; rfl⟩)
        generalize cod b last 63 = s at *
        obtain ⟨so, z, sb⟩ := s
        simp only at O NL BF hnz
        by_cases hz : 0 < z
        · have i0 : (0 : Int) < (z : Int) := by omega
          have HSY := Lib.hid (show symsOf ⟨so, z, sb⟩ = so ++ [1, 0, 0, 0] by unfold symsOf; rw [if_pos hz])
          go_wp2_with (at_builtin; refine Tin.wplv_push sv34 _ #[.int .i64 1, .int .i64 0, .int .i64 0, .int .i64 0] rfl (.tmp 83) (.tmp 85) rfl w.heap.size A n c (iv so) rfl O.out hwr rfl rfl (by simp [Value.oneCell']) (by omega) (by omega) ?_; intro A4 c4 w4 ho4 hg4 how4; rw [ob_eq] at hg4; have O4 := Lib.hid ho4; have HB4 := Lib.hid (HB.out.grown hg4 hwr (fun k hk => (ownsRow_low O.out k hk).1)); clear ho4 hg4 how4)
          go_ret2
          rw [HCD.out.1, HCD.out.2, HSY.out]
          exact ⟨A4, n + 1, c4, rfl, by simp only [List.length_append, List.length_cons, List.length_nil]; have := NL.out; omega, by have h5 := O4.out; unfold iv at h5 ⊢; rw [List.map_append]; exact h5, HB4.out⟩
        · obtain rfl : z = 0 := by omega
          have HSY := Lib.hid (show symsOf ⟨so, 0, sb⟩ = so by unfold symsOf; rw [if_neg (by simp)])
          go_wp2_with fail
          go_ret2
          rw [HCD.out.1, HCD.out.2, HSY.out]
          exact ⟨A, n, c, rfl, NL.out, O.out, HB.out⟩
end Go.Proofs.Ytckkncblbagfmaa
