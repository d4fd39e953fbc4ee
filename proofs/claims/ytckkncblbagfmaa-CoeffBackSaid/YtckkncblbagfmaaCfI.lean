/- The contract of Code. -/
import Derived.Test.YtckkncblbagfmaaCfJ
import Derived.Test.YtckkncblbagfmaaArq
namespace Go.Proofs.Ytckkncblbagfmaa
open Go.RowKit
open Go.Tin
set_option linter.unusedVariables false
set_option linter.unusedSimpArgs false


theorem mem_nth (l : List Int) (j : Nat) (h : j < l.length) : nth l j ∈ l := by
  unfold nth
  rw [List.getD_eq_getElem?_getD, List.getElem?_eq_getElem h]
  exact List.getElem_mem h
theorem sz_bd {v : Int} (h : 0 ≤ sz v) : -32768 < v ∧ v < 32768 := by
  rcases sz_cases v with ⟨m, _, h1, h2, h3, _⟩ | ⟨h, _⟩
  · have := pow_mono h1
    have e15 : (2 : Int) ^ 15 = 32768 := by decide
    omega
  · omega
theorem wf_toL {b : List Int} (hn : b.length = 64) (h : ∀ z ∈ b, (Lit.int .i64 z).wf = true) (j : Nat) (hj : j < 64) : (Lit.int .i64 (nth (toL b) j)).wf = true := by
  unfold toL
  rw [nth_full _ _ _ hj]
  unfold toF
  have := zig_bd j hj
  exact h _ (mem_nth b _ (by omega))
theorem CS.new (w0 w : World) (B : Nat) (hB : B ≤ w.heap.size) : CS (w.alloc (.cells #[.slice none 0 0, .int .i64 0, .bool false] 50)) B w.heap.size none 0 0 [] 0 false :=
  ⟨heap_alloc_new w _, OwnV.nil_ _ _ _ _, by simp [ob, Value.ownBlock], by omega, by omega, hB⟩
/-- Which error. -/
def cerr (b : List Int) (last : Int) : Int := if told b last then 0 else 7
theorem told_no {b : List Int} {last : Int} (h : sz last < 0 ∨ sz (nth b 0) < 0) : told b last = false ∧ code b last = [] := by
  have : told b last = false := by
    unfold told
    rcases h with h | h
    · rw [decide_eq_false (by omega)]; rfl
    · rw [decide_eq_false (show ¬ 0 ≤ sz (nth b 0) by omega)]; simp
  exact ⟨this, by unfold code; rw [this]; rfl⟩
theorem told_of {b : List Int} {last : Int} (h : 0 ≤ sz last) (h' : 0 ≤ sz (nth b 0)) : told b last = !(cod b last 63).bad := by
  unfold told
  rw [decide_eq_true h, decide_eq_true h']
  simp

theorem cerr_no {b : List Int} {last : Int} (h : sz last < 0 ∨ sz (nth b 0) < 0) : cerr b last = 7 ∧ code b last = [] := by
  obtain ⟨h1, h2⟩ := told_no h
  exact ⟨by unfold cerr; rw [h1]; rfl, h2⟩

set_option maxRecDepth 100000 in
set_option maxHeartbeats 4000000 in
theorem code_any (b : List Int) (hn : b.length = 64) (hwf : ∀ z ∈ b, (Lit.int .i64 z).wf = true) (last : Int) (wl : (Lit.int .i64 last).wf = true) (w : World) :
    Calls Try.prog 14 #[.agg (arr .i64 b), .int .i64 last] w fun e w' => ∃ A n c, e = .returned (.tuple #[.slice A n c, (.int .i64 (cerr b last))]) ∧ n * 4 = (code b last).length ∧ OwnV 45 4 w' w.heap.size (.slice A n c) n (iv (code b last)) ∧ Below w.heap.size w w' := by
  have HN := Lib.hid hn
  have HS1 := Lib.hid (fun W => size_any last W wl)
  have HW0 := Lib.hid (hwf _ (mem_nth b 0 (by omega)))
  have HS2 := Lib.hid (fun W => size_any (nth b 0) W HW0.out)
  have HWT := Lib.hid (wf_toL hn hwf)
  clear hn hwf wl
  by_cases hl : sz last < 0
  · have HT := Lib.hid (cerr_no (b := b) (last := last) (.inl hl))
    rw [HT.out.1, HT.out.2]
    go_enter Try.func14, Try.ntmps14
    go_wp2_with fail
    refine (HS1.out _).mono ?_
    rintro e w' ⟨rfl, rfl⟩
    go_wp2_with fail
    go_ret2
    exact ⟨none, 0, 0, rfl, by simp, OwnV.nil_ _ _ _ _, ba (brefl w) _⟩
  by_cases hb0 : sz (nth b 0) < 0
  · have HT := Lib.hid (cerr_no (b := b) (last := last) (.inr hb0))
    have hl' : 0 ≤ sz last := by omega
    rw [HT.out.1, HT.out.2]
    generalize hx0 : nth b 0 = x0 at *
    have HX0 := Lib.hid hx0
    clear hx0
    go_enter Try.func14, Try.ntmps14
    have HR := Lib.hid (heap_alloc_new w (.cells (arr .i64 b) 33))
    have cb := blk_cell HR.out 0 (by rw [HN.out]; decide)
    rw [HX0.out] at cb
    go_wp2_with fail
    refine (HS1.out _).mono ?_
    rintro e w' ⟨rfl, rfl⟩
    go_wp2_with fail
    refine (HS2.out _).mono ?_
    rintro e w' ⟨rfl, rfl⟩
    go_wp2_with fail
    go_ret2
    exact ⟨none, 0, 0, rfl, by simp, OwnV.nil_ _ _ _ _, ba (brefl w) _⟩
  have hl' : 0 ≤ sz last := by omega
  have hb0' : 0 ≤ sz (nth b 0) := by omega
  have HTO := Lib.hid (told_of hl' hb0')
  have hld := sz_bd hl'
  have hbd := sz_bd hb0'
  have HC0 := Lib.hid (show cod b last 0 = ini (nth b 0 - last) from rfl)
  generalize hx0 : nth b 0 = x0 at *
  have HX0 := Lib.hid hx0
  clear hx0 hl hb0
  go_enter Try.func14, Try.ntmps14
  have HR := Lib.hid (heap_alloc_new w (.cells (arr .i64 b) 33))
  have cb := blk_cell HR.out 0 (by rw [HN.out]; decide)
  rw [HX0.out] at cb
  go_wp2_with fail
  refine (HS1.out _).mono ?_
  rintro e w' ⟨rfl, rfl⟩
  go_wp2_with fail
  refine (HS2.out _).mono ?_
  rintro e w' ⟨rfl, rfl⟩
  have hdw : (Lit.int .i64 (x0 - last)).wf = true := wf_of64 (by omega) (by omega)
  have hsub : IntKind.i64.wrap (x0 - last) = x0 - last := by rw [wrap_i64]; omega
  have HDW := Lib.hid hdw
  have HC1 := Lib.hid (CS.new w (w.alloc (.cells (arr .i64 b) 33)) w.heap.size (by simp))
  have HB1 := Lib.hid (ba (ba (brefl w) (.cells (arr .i64 b) 33)) (.cells #[.slice none 0 0, .int .i64 0, .bool false] 50))
  have HRb := Lib.hid ((ba (brefl (w.alloc (.cells (arr .i64 b) 33))) (.cells #[.slice none 0 0, .int .i64 0, .bool false] 50)).block _ (by simp) |>.trans HR.out)
  have hb0lt : w.heap.size < ((w.alloc (.cells (arr .i64 b) 33)).alloc (.cells #[.slice none 0 0, .int .i64 0, .bool false] 50)).heap.size := by simp; omega
  have cb2 := blk_cell HRb.out 0 (by rw [HN.out]; decide)
  rw [HX0.out] at cb2
  go_wp2_with fail
  obtain ⟨g, hg⟩ : ∃ g, g = w.heap.size + 1 := ⟨_, rfl⟩
  have HG := Lib.hid hg
  have hsz1 : (w.alloc (.cells (arr .i64 b) 33)).heap.size = w.heap.size + 1 := by simp
  rw [hsz1, ← hg] at HC1
  rw [← hg]
  clear hg hsz1
  generalize ((w.alloc (.cells (arr .i64 b) 33)).alloc (.cells #[.slice none 0 0, .int .i64 0, .bool false] 50)) = w2 at *
  refine (put_ini w2 _ g none 0 HC1.out (x0 - last) HDW.out).mono ?_
  rintro e w3 ⟨A3, n3, c3, rfl, hc3, hn3, hf3, hh3⟩
  have HL0 := Lib.hid (cod_len b last 0)
  rw [← HC0.out] at hc3 hn3
  have C3 := Lib.hid hc3
  have N3 := Lib.hid hn3
  have HB3 := Lib.hid (hf3.below HB1.out (show w.heap.size ≤ g by rw [HG.out]; omega) (fun q h => by simp [ob, Value.ownBlock] at h) HB1.out.size)
  have hbg : w.heap.size ≠ g := by rw [HG.out]; omega
  have R3 := Lib.hid ((hf3.block _ hb0lt hbg (by simp [ob, Value.ownBlock])).trans HRb.out)
  clear hc3 hn3 hf3 hh3 HC1 HRb HB1
  go_wp2_with (with_reducible refine wpl_load_arr at27 rfl (.tmp 2) rfl w.heap.size rfl 33 HN.out R3.out ?_)
  refine (to_any b HN.out w3).mono ?_
  rintro e w4 ⟨rfl, hb4⟩
  have C4 := Lib.hid (C3.out.keep hb4)
  have HB4 := Lib.hid (HB3.out.trans (hb4.mono HB3.out.size))
  have TL := Lib.hid (toL_len b)
  clear hb4 C3 HB3 R3
  go_wp2_with (with_reducible refine wpl_store_arr at27 rfl (.tmp 7) (.tmp 25) rfl w4.heap.size rfl rfl 33 TL.out _ (by simp) (heap_alloc_new w4 _) ?_; intro w5 hr5 hg5 hs5)
  obtain ⟨q, hq⟩ : ∃ q, q = w4.heap.size := ⟨_, rfl⟩
  have hb45 : Below w4.heap.size w4 w5 := (ba (brefl w4) _).grown hg5 (by simp) (fun k hk => by cases hk; exact Nat.le_refl _)
  have C5 := Lib.hid (C4.out.keep hb45)
  have HB5 := Lib.hid (HB4.out.trans (hb45.mono HB4.out.size))
  have hqg : q ≠ g := by have := row_lt C4.out.row; omega
  have HqA := Lib.hid (show some q ≠ ob A3 from fun e => by have := (ownsRow_low C4.out.own q e.symm).2; omega)
  rw [← hq] at hr5 ⊢
  have R5 := Lib.hid hr5
  have hq5 := row_lt hr5
  have hBg : w.heap.size ≤ g := C4.out.bg
  have HlA := Lib.hid (fun k hk => (ownsRow_low C5.out.own k hk).1)
  have hn64 : n3 + (ini (x0 - last)).z ≤ 1 := by
    obtain ⟨m, h1, h2⟩ := HL0.out
    have := N3.out
    rw [HC0.out] at this h1 h2
    omega
  clear hr5 hg5 hs5 hq hb45 C4 HB4
  go_wp2_with fail
  go_loopw [28] (fun s28 W => ∃ (i : Nat) (A : Option Addr) (n c : Nat), i ≤ 63 ∧ s28 = .int .i64 (i : Int) ∧ CS W w.heap.size g A n c (cod b last i).out (cod b last i).z (cod b last i).bad ∧ n * 4 = (cod b last i).out.length ∧ Fr w5 W g (ob A3) ∧ How w5 A3 A) (fun s28 _ => 63 - (intOf s28).toNat)
  case atStart => exact ⟨0, A3, n3, c3, by omega, rfl, C5.out, N3.out, Fr.refl _ _ _, .inl rfl⟩
  case round =>
    obtain ⟨i, A, n, c, hi, rfl, hcs, hnl, hf, hh⟩ := hrel
    have C := Lib.hid hcs
    have NL := Lib.hid hnl
    have F := Lib.hid hf
    have HH := Lib.hid hh
    have RQ := Lib.hid ((hf.block q hq5 hqg HqA.out).trans R5.out)
    have HBr := Lib.hid (hf.below HB5.out hBg HlA.out HB5.out.size)
    have hnz : n + (cod b last i).z ≤ i + 1 := by
      obtain ⟨m, h1, h2⟩ := cod_len b last i
      omega
    clear hcs hnl hf hh C5
    by_cases hi63 : i < 63
    · have i1 : (i : Int) < 63 := by omega
      have cv := blk_cell RQ.out (1 + i) (by rw [TL.out]; omega)
      have HST := Lib.hid (show cod b last (i + 1) = stp (cod b last i) (nth (toL b) (1 + i)) by rw [Nat.add_comm 1 i]; rfl)
      have HWV := Lib.hid (HWT.out (1 + i) (by omega))
      generalize nth (toL b) (1 + i) = v at *
      generalize cod b last i = s at *
      by_cases hv : v = 0
      · subst hv
        rw [stp_zero] at HST
        have c1 := row_cell C.out.row 1 rfl
        have z1 := frozen_of_row wr _ 1 _ _ C.out.row
        have hz64 := C.out.zl
        have HC6 := Lib.hid (C.out.count (s.z + 1) (by omega) ((s.z : Int) + 1) (by omega))
        have HF6 := Lib.hid (F.out.grow (set_grown wr g 1 (.int .i64 ((s.z : Int) + 1))) (.inl rfl))
        go_wp2_with fail
        go_roundw
        case rel => exact ⟨i + 1, A, n, c, by omega, by go_num, by rw [HST.out]; exact HC6.out, by rw [HST.out]; exact NL.out, HF6.out, HH.out⟩
        case measure => simp [intOf]; omega
      · have dv : (v == 0) = false := by simp [hv]
        have HP := Lib.hid (put_stp wr w.heap.size g A n c s C.out NL.out v HWV.out hv (by omega))
        clear hv
        go_wp2_with fail
        refine HP.out.mono ?_
        rintro e w6 ⟨A6, n6, c6, rfl, hc6, hn6, hf6, hh6⟩
        have C6 := Lib.hid hc6
        have N6 := Lib.hid hn6
        have F6 := Lib.hid (F.out.comp hf6 HH.out)
        have H6 := Lib.hid (HH.out.comp hh6 F.out.size)
        clear hc6 hn6 hf6 hh6
        go_wp2_with fail
        go_roundw
        case rel => exact ⟨i + 1, A6, n6, c6, by omega, by go_num, by rw [HST.out]; exact C6.out, by rw [HST.out]; exact N6.out, F6.out, H6.out⟩
        case measure => simp [intOf]; omega
    · obtain rfl : i = 63 := by omega
      have HCD := Lib.hid (show cerr b last = (if (cod b last 63).bad then 7 else 0) ∧ code b last = (if (cod b last 63).bad then [] else symsOf (cod b last 63)) from ⟨by unfold cerr; rw [HTO.out]; cases (cod b last 63).bad <;> rfl, by unfold code; rw [HTO.out]; cases (cod b last 63).bad <;> rfl⟩)
      have hBr := HBr.out.size
      have hgr := row_lt C.out.row
      generalize cod b last 63 = s at *
      obtain ⟨so, sz', sb⟩ := s
      simp only at C NL hnz
      have c0 := row_cell C.out.row 0 rfl
      have c1 := row_cell C.out.row 1 rfl
      have c2 := row_cell C.out.row 2 rfl
      have z0 := frozen_of_row wr _ 0 _ _ C.out.row
      have HNL := Lib.hid NL.out
      by_cases hz : 0 < sz'
      · have i0 : (0 : Int) < (sz' : Int) := by omega
        have HSY := Lib.hid (show symsOf ⟨so, sz', sb⟩ = so ++ [1, 0, 0, 0] by unfold symsOf; rw [if_pos hz])
        cases sb
        all_goals
          go_wp2_with (at_builtin; refine Tin.wplv_push sv34 _ #[.int .i64 1, .int .i64 0, .int .i64 0, .int .i64 0] rfl (.tmp 45) (.tmp 47) rfl w.heap.size A n c (iv so) rfl C.out.own hBr rfl rfl (by simp [Value.oneCell']) (by omega) (by omega) ?_; intro A4 c4 w4 ho4 hg4 how4; have G4 := Lib.hid (C.out.grow [1, 0, 0, 0] ho4 hg4 how4 (by omega)); have hr4 := (hg4.block g hgr (fun e => by rw [ob_eq] at e; exact C.out.ne e.symm)).trans C.out.row; have q0 := row_cell hr4 0 rfl; have q2 := row_cell hr4 2 rfl; have y0 := frozen_of_row w4 _ 0 _ _ hr4; clear ho4 hg4 how4 hr4)
          go_ret2
          rw [HCD.out.1, HCD.out.2]
          have HBf := G4.out.2.1.below (HBr.out) hBg (fun k hk => (ownsRow_low C.out.own k hk).1) hBr
          first
            | exact ⟨none, 0, 0, rfl, rfl, OwnV.nil_ _ _ _ _, HBf⟩
            | (simp only [Bool.false_eq_true, if_false]; rw [HSY.out]; exact ⟨A4, n + 1, c4, rfl, by simp only [List.length_append, List.length_cons, List.length_nil]; have := HNL.out; omega, G4.out.1.own, HBf⟩)
      · obtain rfl : sz' = 0 := by omega
        have HSY := Lib.hid (show symsOf ⟨so, 0, sb⟩ = so by unfold symsOf; rw [if_neg (by simp)])
        cases sb
        all_goals
          go_wp2_with fail
          go_ret2
          rw [HCD.out.1, HCD.out.2]
          first
            | exact ⟨none, 0, 0, rfl, rfl, OwnV.nil_ _ _ _ _, HBr.out⟩
            | (simp only [Bool.false_eq_true, if_false]; rw [HSY.out]; exact ⟨A, n, c, rfl, HNL.out, C.out.own, HBr.out⟩)
end Go.Proofs.Ytckkncblbagfmaa
