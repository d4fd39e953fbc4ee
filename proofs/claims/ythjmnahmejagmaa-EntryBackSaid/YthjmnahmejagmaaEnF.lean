/- The walk of EntryInline. -/
import Derived.Test.YthjmnahmejagmaaEnE
namespace Go.Proofs.Ythjmnahmejagmaa
open Go.RowKit
open Go.Tin
set_option linter.unusedVariables false
set_option linter.unusedSimpArgs false


theorem inline_law (t c : Int) (l : List Int) (h : mayV t c l = true) : inE t c = decide (l.length ≤ 4) ∧ (inE t c = false → ouE t c = (l.length : Int)) ∧ (inE t c = true → ouE t c = 0) ∧ (∀ tag o, eB tag t c l o = (inE t c && (decide (0 ≤ tag) && (decide (tag < 65536) && (decide (o = 1) || decide (o = 2)))))) := by
  obtain ⟨h1, h2, h3, h4, h5⟩ := (mayV_iff _ _ _).1 h
  have hlg : lgE t c = c * szT t := by unfold lgE; rw [if_neg (by omega)]
  have hpos : 0 < c * szT t := by
    rcases szT_cases t with ⟨h, _⟩ | ⟨_, _, h | h | h | h⟩
    · exact absurd h h1
    all_goals rw [h]; omega
  have hin : inE t c = decide (l.length ≤ 4) := by
    unfold inE
    rw [hlg, ← h4, decide_eq_true (show (0 : Int) < (l.length : Int) by omega), Bool.true_and]
    apply decide_eq_decide.2
    omega
  refine ⟨hin, fun hf => ?_, fun ht => ?_, fun tag o => ?_⟩
  · rw [hin, decide_eq_false_iff_not] at hf
    unfold ouE
    rw [hlg, ← h4, if_pos (by omega)]
  · rw [hin, decide_eq_true_eq] at ht
    unfold ouE
    rw [hlg, ← h4, if_neg (by omega)]
  · unfold eB byV
    rw [h, if_pos rfl]
    unfold putB mayO
    by_cases ho : orB o = true
    · have htl : (turnL l (prT t) o).length = l.length := by
        unfold turnL
        have : turnB (prT t) o = true := by
          unfold turnB
          rw [ho]
          have : (szB (prT t) || decide (prT t = 8)) = true := by
            rcases szT_cases t with ⟨h, _⟩ | ⟨ha, hb, _⟩
            · exact absurd h h1
            · rcases n13 (show 0 ≤ t by omega) hb with rfl | rfl | rfl | rfl | rfl | rfl | rfl | rfl | rfl | rfl | rfl | rfl | rfl <;> first | (exfalso; omega) | decide
          rw [this]; rfl
        rw [this, if_pos rfl]
        simp
      rw [htl, ho, hin, decide_eq_true (show 0 < l.length by omega)]
      have hs2 : szB 2 = true := by decide
      have ht2 : topI 2 = 65536 := by decide
      have ho' : (decide (o = 1) || decide (o = 2)) = true := ho
      rw [hs2, ht2, ho']
      simp only [Bool.true_and, Bool.and_true]
      rw [Bool.and_comm]
    · have ho' : orB o = false := by simpa using ho
      have ho2 : (decide (o = 1) || decide (o = 2)) = false := ho'
      rw [ho', ho2]
      simp
set_option maxRecDepth 100000 in
set_option maxHeartbeats 8000000 in
theorem inline_any (t c : Int) (A : Option Addr) (len cap : Nat) (l : List Int) (kind count tag o : Int) (w : World) (wt : (Lit.int .i64 t).wf = true) (wc : (Lit.int .i64 c).wf = true) (hr : IsRow .u8 w A len cap l) (wk : (Lit.int .i64 kind).wf = true) (wco : (Lit.int .i64 count).wf = true) (wtag : (Lit.int .i64 tag).wf = true) (wo : (Lit.int .i64 o).wf = true) :
    Calls Try.prog 4 #[.agg #[.int .i64 t, .int .i64 c, .slice A len cap], .int .i64 kind, .int .i64 count, .int .i64 tag, .int .i64 o] w fun e w' => e = .returned (.bool true) ∧ Below w.heap.size w w' := by
  obtain ⟨hs, hlen, hlc, hcm, hwf⟩ := Sl.of_row hr
  have hby := byts_wf hwf
  generalize l.take len = l at *
  subst hlen
  clear hwf hr hlc wt wc wk wco wtag wo
  unfold maxLen at hcm
  have HS := Lib.hid hs
  have HBY := Lib.hid hby
  clear hs hby
  have HB := Lib.hid (ba (brefl w) (.cells (vrow t c A l.length cap) 24))
  have HR := Lib.hid (heap_alloc_new w (.cells (vrow t c A l.length cap) 24))
  have kb := row_cell (v := .slice A l.length cap) HR.out 2 rfl
  by_cases h300 : 300 < l.length
  · have h3 : (300 : Int) < (l.length : Int) := by omega
    go_enter Try.func4, Try.ntmps4
    go_wp2_with fail
    refine (awake_any _).mono ?_
    rintro e w1 ⟨rfl, hb⟩
    go_wp2_with fail
    go_ret
    exact ⟨rfl, HB.out.trans (hb.mono HB.out.size)⟩
  have h3 : (l.length : Int) ≤ 300 := by omega
  go_enter Try.func4, Try.ntmps4
  go_wp2_with fail
  clear kb
  refine (size_any kind _).mono ?_
  rintro e w1 ⟨rfl, hb1⟩
  have HR1 := Lib.hid ((hb1.block _ (row_lt HR.out)).trans HR.out)
  have HB1 := Lib.hid (HB.out.trans (hb1.mono HB.out.size))
  clear hb1 HB HR
  by_cases hbad : szT kind = 0 ∨ count < 1 ∨ 65536 < count
  · have HL := Lib.hid (show inE kind count = false ∧ ouE kind count = 0 by
      have hl0 : lgE kind count = 0 := by
        unfold lgE
        split
        · rfl
        · rename_i hh
          have : szT kind = 0 := by
            rcases hbad with h | h | h
            · exact h
            · exact absurd (.inl h) hh
            · exact absurd (.inr h) hh
          rw [this]; simp
      unfold inE ouE
      rw [hl0]
      decide)
    have HIN := Lib.hid (fun W => inl_any kind count W)
    have HOU := Lib.hid (fun W => out_any kind count W)
    rw [HL.out.1] at HIN
    rw [HL.out.2] at HOU
    have step : (szT kind == 0) = true ∨ ((szT kind == 0) = false ∧ (decide (count < 1) = true ∨ (decide (count < 1) = false ∧ decide (65536 < count) = true))) := by
      by_cases h1 : szT kind = 0
      · exact .inl (by simpa using h1)
      · by_cases h2 : count < 1
        · exact .inr ⟨by simpa using h1, .inl (by simpa using h2)⟩
        · exact .inr ⟨by simpa using h1, .inr ⟨by simpa using h2, by simp; omega⟩⟩
    clear hbad
    rcases step with d1 | ⟨d1, d2 | ⟨d2, d3⟩⟩
    all_goals
      go_wp2_with fail
      refine (HIN.out _).mono ?_
      rintro e w2 ⟨rfl, hb2⟩
      have HR2 := Lib.hid ((hb2.block _ (row_lt HR1.out)).trans HR1.out)
      have HB2 := Lib.hid (HB1.out.trans (hb2.mono HB1.out.size))
      clear hb2
      go_wp2_with fail
      refine (HOU.out _).mono ?_
      rintro e w3 ⟨rfl, hb3⟩
      have HR3 := Lib.hid ((hb3.block _ (row_lt HR2.out)).trans HR2.out)
      have HB3 := Lib.hid (HB2.out.trans (hb3.mono HB2.out.size))
      clear hb3
      go_wp2_with ((with_reducible refine wpl_load_row rtV ?_ (.tmp 5) ?_ (w.heap.size) ?_ 24 (vrow t c A l.length cap) ?_ HR3.out ?_); rfl; rfl; rfl; rfl; simp only [Act.put, List.setIfInBounds_toArray, List.set_cons_succ, List.set_cons_zero])
      refine (vmay_any t c A l cap _ (HS.out.keep HB3.out) (by omega) HBY.out).mono ?_
      rintro e w4 ⟨rfl, hb4⟩
      have HR4 := Lib.hid ((hb4.block _ (row_lt HR3.out)).trans HR3.out)
      have HB4 := Lib.hid (HB3.out.trans (hb4.mono HB3.out.size))
      clear hb4
      cases hm : mayV t c l with
      | false =>
        go_wp2_with fail
        refine (awake_any _).mono ?_
        rintro e w5 ⟨rfl, hb5⟩
        go_wp2_with fail
        go_ret
        exact ⟨rfl, HB4.out.trans (hb5.mono HB4.out.size)⟩
      | true =>
        have HLW := Lib.hid (inline_law t c l hm)
        clear hm
        have hlt := row_lt HR4.out
        have kb0 : ∀ p : Bel w4.heap.size w4.drew, p.w'.cell? ⟨w.heap.size, 0, none⟩ = some (.int .i64 t) := fun p => row_cell (((ud p.h).block _ hlt).trans HR4.out) 0 rfl
        have kb1 : ∀ p : Bel w4.heap.size w4.drew, p.w'.cell? ⟨w.heap.size, 1, none⟩ = some (.int .i64 c) := fun p => row_cell (((ud p.h).block _ hlt).trans HR4.out) 1 rfl
        go_wp2_with fail
        have HE := Lib.hid (show ((inE t c = false ∧ decide ((l.length : Int) ≤ 4) = false) ∧ ouE t c = (l.length : Int)) ∧ (∀ tag o, eB tag t c l o = false) ∨ ((inE t c = true ∧ decide ((l.length : Int) ≤ 4) = true) ∧ ouE t c = 0) ∧ (∀ tag o, eB tag t c l o = (decide (0 ≤ tag) && (decide (tag < 65536) && (decide (o = 1) || decide (o = 2))))) by
          obtain ⟨q1, q2, q3, q4⟩ := HLW.out
          cases hi : inE t c with
          | false =>
            rw [hi] at q1
            refine .inl ⟨⟨⟨rfl, ?_⟩, q2 hi⟩, fun tag o => by rw [q4 tag o, hi]; rfl⟩
            have := of_decide_eq_false q1.symm
            exact decide_eq_false (by omega)
          | true =>
            rw [hi] at q1
            refine .inr ⟨⟨⟨rfl, ?_⟩, q3 hi⟩, fun tag o => by rw [q4 tag o, hi]; rfl⟩
            have := of_decide_eq_true q1.symm
            exact decide_eq_true (by omega))
        refine Tin.reg_begin w4.heap.size 12 (by rfl) (by kernel_rfl) ?_
        refine Tin.reg_quiets [0, 1, 2, 3, 5, 6, 7, 8] _ 4 rfl (by simp only [Tin.pick, List.map_cons, List.map_nil, Array.getD_eq_getD_getElem?, List.getElem?_toArray, List.getElem?_cons_zero, List.getElem?_cons_succ, Option.getD_some]; rfl) (by kernel_rfl) (by kernel_rfl) ?_
        repeat (first | go_big_quiet_step (fail))
        refine wpQuiet_nil ?_
        refine Tin.reg_one 4 _ rfl (by kernel_rfl) ?_
        try simp only [List.getElem_toArray, List.getElem_cons_succ, List.getElem_cons_zero]
        go_wp2_with fail
        refine (inl_any t c _).mono ?_
        rintro e w5 ⟨rfl, hb5⟩
        go_wp2_with fail
        refine ⟨w4.heap.size, hb5, Nat.le_refl _, ?_⟩
        have HR5 := Lib.hid (((ud hb5).block _ hlt).trans HR4.out)
        have HB5 := Lib.hid (HB4.out.trans ((ud hb5).mono HB4.out.size))
        have hs5 : w4.heap.size ≤ w5.heap.size := hb5.size
        clear hb5 HLW
        refine Tin.reg_one 9 _ rfl (by kernel_rfl) ?_
        try simp only [List.getElem_toArray, List.getElem_cons_succ, List.getElem_cons_zero]
        go_wp2_with fail
        refine (out_any t c _).mono ?_
        rintro e w6 ⟨rfl, hb6⟩
        go_wp2_with fail
        refine ⟨w4.heap.size, hb6.mono hs5, Nat.le_refl _, ?_⟩
        have HR6 := Lib.hid ((hb6.block _ (row_lt HR5.out)).trans HR5.out)
        have HB6 := Lib.hid (HB5.out.trans (hb6.mono HB5.out.size))
        clear hb6 HR5 HB5
        refine Tin.reg_quiets [10, 11] _ 0 rfl (by simp only [Tin.pick, List.map_cons, List.map_nil, Array.getD_eq_getD_getElem?, List.getElem?_toArray, List.getElem?_cons_zero, List.getElem?_cons_succ, Option.getD_some]; rfl) (by kernel_rfl) (by kernel_rfl) ?_
        repeat (first | go_big_quiet_step (fail))
        refine wpQuiet_nil ?_
        refine Tin.reg_done (by kernel_rfl) ?_
        have HEO := Lib.hid (fun W (h : Sl .u8 W A l) => eof_any tag t c A l cap o W h (by omega) HBY.out)
        have k2 := row_cell (v := .slice A l.length cap) HR6.out 2 rfl
        have ll : ((l.length : Int) != (l.length : Int)) = false := by simp
        rcases (show _ ∨ _ from HE.out) with ⟨⟨⟨e1, e2⟩, e3⟩, e4⟩ | ⟨⟨⟨e1, e2⟩, e3⟩, e4⟩
        · rw [e4 tag o] at HEO
          rw [e1, e3]
          clear e4 e1 e3 HE
          go_wp2_with ((with_reducible refine wpl_load_row rtV ?_ (.tmp 5) ?_ (w.heap.size) ?_ 24 (vrow t c A l.length cap) ?_ HR6.out ?_); rfl; rfl; rfl; rfl; simp only [Act.put, List.setIfInBounds_toArray, List.set_cons_succ, List.set_cons_zero])
          refine (HEO.out _ (HS.out.keep HB6.out)).mono ?_
          rintro e w7 ⟨rfl, hb7⟩
          have HB7 := Lib.hid (HB6.out.trans (hb7.mono HB6.out.size))
          clear hb7
          generalize on false tag = x1
          generalize on false t = x2
          generalize on false c = x3
          generalize on false (eN t c l o) = x4
          go_wp2_with ((with_reducible refine wpl_store_row rtE ?_ (.tmp 13) (.tmp 91) ?_ (w7.heap.size) ?_ (erow x1 x2 x3 x4) ?_ (erow_one _ _ _ _) 26 ?_ _ ?_ (heap_alloc_new w7 _) ?_); rfl; rfl; rfl; rfl; rfl; rfl; intro w8 hr8 hg8 hs8; have HB8 := Lib.hid (HB7.out.trans (((ba (brefl w7) _).grown hg8 (by simp) (fun k hk => by cases hk; exact Nat.le_refl _)).mono HB7.out.size)); clear hr8 hg8 hs8; (try simp only [Act.put]))
          refine (awake_any _).mono ?_
          rintro e w9 ⟨rfl, hb9⟩
          go_wp2_with fail
          go_ret
          exact ⟨rfl, HB8.out.trans (hb9.mono HB8.out.size)⟩
        · have step : (decide (0 ≤ tag) = false ∧ eB tag t c l o = false) ∨ (decide (0 ≤ tag) = true ∧ decide (tag < 65536) = false ∧ eB tag t c l o = false) ∨ (decide (0 ≤ tag) = true ∧ decide (tag < 65536) = true ∧ (o == 1) = false ∧ (o == 2) = false ∧ eB tag t c l o = false) ∨ (decide (0 ≤ tag) = true ∧ decide (tag < 65536) = true ∧ (o == 1) = true ∧ eB tag t c l o = true) ∨ (decide (0 ≤ tag) = true ∧ decide (tag < 65536) = true ∧ (o == 1) = false ∧ (o == 2) = true ∧ eB tag t c l o = true) := by
            rw [e4 tag o]
            by_cases s1 : 0 ≤ tag
            · by_cases s2 : tag < 65536
              · by_cases s3 : o = 1
                · subst s3; simp [s1, s2]
                · by_cases s4 : o = 2
                  · subst s4; simp [s1, s2]
                  · simp [s1, s2, s3, s4]
              · simp [s1, s2]
            · simp [s1]
          rw [e1, e3]
          clear e4 e1 e3 HE
          rcases step with ⟨t1, hE⟩ | ⟨t1, t2, hE⟩ | ⟨t1, t2, t3, t4, hE⟩ | ⟨t1, t2, t3, hE⟩ | ⟨t1, t2, t3, t4, hE⟩
          · rw [hE] at HEO
            clear hE
            go_wp2_with ((with_reducible refine wpl_load_row rtV ?_ (.tmp 5) ?_ (w.heap.size) ?_ 24 (vrow t c A l.length cap) ?_ HR6.out ?_); rfl; rfl; rfl; rfl; simp only [Act.put, List.setIfInBounds_toArray, List.set_cons_succ, List.set_cons_zero])
            refine (HEO.out _ (HS.out.keep HB6.out)).mono ?_
            rintro e w7 ⟨rfl, hb7⟩
            have HB7 := Lib.hid (HB6.out.trans (hb7.mono HB6.out.size))
            clear hb7
            generalize on false tag = x1
            generalize on false t = x2
            generalize on false c = x3
            generalize on false (eN t c l o) = x4
            go_wp2_with ((with_reducible refine wpl_store_row rtE ?_ (.tmp 13) (.tmp 91) ?_ (w7.heap.size) ?_ (erow x1 x2 x3 x4) ?_ (erow_one _ _ _ _) 26 ?_ _ ?_ (heap_alloc_new w7 _) ?_); rfl; rfl; rfl; rfl; rfl; rfl; intro w8 hr8 hg8 hs8; have HB8 := Lib.hid (HB7.out.trans (((ba (brefl w7) _).grown hg8 (by simp) (fun k hk => by cases hk; exact Nat.le_refl _)).mono HB7.out.size)); clear hr8 hg8 hs8; (try simp only [Act.put]))
            refine (awake_any _).mono ?_
            rintro e w9 ⟨rfl, hb9⟩
            go_wp2_with fail
            go_ret
            exact ⟨rfl, HB8.out.trans (hb9.mono HB8.out.size)⟩
          · rw [hE] at HEO
            clear hE
            go_wp2_with ((with_reducible refine wpl_load_row rtV ?_ (.tmp 5) ?_ (w.heap.size) ?_ 24 (vrow t c A l.length cap) ?_ HR6.out ?_); rfl; rfl; rfl; rfl; simp only [Act.put, List.setIfInBounds_toArray, List.set_cons_succ, List.set_cons_zero])
            refine (HEO.out _ (HS.out.keep HB6.out)).mono ?_
            rintro e w7 ⟨rfl, hb7⟩
            have HB7 := Lib.hid (HB6.out.trans (hb7.mono HB6.out.size))
            clear hb7
            generalize on false tag = x1
            generalize on false t = x2
            generalize on false c = x3
            generalize on false (eN t c l o) = x4
            go_wp2_with ((with_reducible refine wpl_store_row rtE ?_ (.tmp 13) (.tmp 91) ?_ (w7.heap.size) ?_ (erow x1 x2 x3 x4) ?_ (erow_one _ _ _ _) 26 ?_ _ ?_ (heap_alloc_new w7 _) ?_); rfl; rfl; rfl; rfl; rfl; rfl; intro w8 hr8 hg8 hs8; have HB8 := Lib.hid (HB7.out.trans (((ba (brefl w7) _).grown hg8 (by simp) (fun k hk => by cases hk; exact Nat.le_refl _)).mono HB7.out.size)); clear hr8 hg8 hs8; (try simp only [Act.put]))
            refine (awake_any _).mono ?_
            rintro e w9 ⟨rfl, hb9⟩
            go_wp2_with fail
            go_ret
            exact ⟨rfl, HB8.out.trans (hb9.mono HB8.out.size)⟩
          · rw [hE] at HEO
            clear hE
            go_wp2_with ((with_reducible refine wpl_load_row rtV ?_ (.tmp 5) ?_ (w.heap.size) ?_ 24 (vrow t c A l.length cap) ?_ HR6.out ?_); rfl; rfl; rfl; rfl; simp only [Act.put, List.setIfInBounds_toArray, List.set_cons_succ, List.set_cons_zero])
            refine (HEO.out _ (HS.out.keep HB6.out)).mono ?_
            rintro e w7 ⟨rfl, hb7⟩
            have HB7 := Lib.hid (HB6.out.trans (hb7.mono HB6.out.size))
            clear hb7
            generalize on false tag = x1
            generalize on false t = x2
            generalize on false c = x3
            generalize on false (eN t c l o) = x4
            go_wp2_with ((with_reducible refine wpl_store_row rtE ?_ (.tmp 13) (.tmp 91) ?_ (w7.heap.size) ?_ (erow x1 x2 x3 x4) ?_ (erow_one _ _ _ _) 26 ?_ _ ?_ (heap_alloc_new w7 _) ?_); rfl; rfl; rfl; rfl; rfl; rfl; intro w8 hr8 hg8 hs8; have HB8 := Lib.hid (HB7.out.trans (((ba (brefl w7) _).grown hg8 (by simp) (fun k hk => by cases hk; exact Nat.le_refl _)).mono HB7.out.size)); clear hr8 hg8 hs8; (try simp only [Act.put]))
            refine (awake_any _).mono ?_
            rintro e w9 ⟨rfl, hb9⟩
            go_wp2_with fail
            go_ret
            exact ⟨rfl, HB8.out.trans (hb9.mono HB8.out.size)⟩
          · rw [hE] at HEO
            clear hE
            go_wp2_with ((with_reducible refine wpl_load_row rtV ?_ (.tmp 5) ?_ (w.heap.size) ?_ 24 (vrow t c A l.length cap) ?_ HR6.out ?_); rfl; rfl; rfl; rfl; simp only [Act.put, List.setIfInBounds_toArray, List.set_cons_succ, List.set_cons_zero])
            refine (HEO.out _ (HS.out.keep HB6.out)).mono ?_
            rintro e w7 ⟨rfl, hb7⟩
            have HB7 := Lib.hid (HB6.out.trans (hb7.mono HB6.out.size))
            clear hb7
            generalize on true tag = x1
            generalize on true t = x2
            generalize on true c = x3
            generalize on true (eN t c l o) = x4
            go_wp2_with ((with_reducible refine wpl_store_row rtE ?_ (.tmp 13) (.tmp 91) ?_ (w7.heap.size) ?_ (erow x1 x2 x3 x4) ?_ (erow_one _ _ _ _) 26 ?_ _ ?_ (heap_alloc_new w7 _) ?_); rfl; rfl; rfl; rfl; rfl; rfl; intro w8 hr8 hg8 hs8; have HB8 := Lib.hid (HB7.out.trans (((ba (brefl w7) _).grown hg8 (by simp) (fun k hk => by cases hk; exact Nat.le_refl _)).mono HB7.out.size)); clear hr8 hg8 hs8; (try simp only [Act.put]))
            refine (awake_any _).mono ?_
            rintro e w9 ⟨rfl, hb9⟩
            go_wp2_with fail
            go_ret
            exact ⟨rfl, HB8.out.trans (hb9.mono HB8.out.size)⟩
          · rw [hE] at HEO
            clear hE
            go_wp2_with ((with_reducible refine wpl_load_row rtV ?_ (.tmp 5) ?_ (w.heap.size) ?_ 24 (vrow t c A l.length cap) ?_ HR6.out ?_); rfl; rfl; rfl; rfl; simp only [Act.put, List.setIfInBounds_toArray, List.set_cons_succ, List.set_cons_zero])
            refine (HEO.out _ (HS.out.keep HB6.out)).mono ?_
            rintro e w7 ⟨rfl, hb7⟩
            have HB7 := Lib.hid (HB6.out.trans (hb7.mono HB6.out.size))
            clear hb7
            generalize on true tag = x1
            generalize on true t = x2
            generalize on true c = x3
            generalize on true (eN t c l o) = x4
            go_wp2_with ((with_reducible refine wpl_store_row rtE ?_ (.tmp 13) (.tmp 91) ?_ (w7.heap.size) ?_ (erow x1 x2 x3 x4) ?_ (erow_one _ _ _ _) 26 ?_ _ ?_ (heap_alloc_new w7 _) ?_); rfl; rfl; rfl; rfl; rfl; rfl; intro w8 hr8 hg8 hs8; have HB8 := Lib.hid (HB7.out.trans (((ba (brefl w7) _).grown hg8 (by simp) (fun k hk => by cases hk; exact Nat.le_refl _)).mono HB7.out.size)); clear hr8 hg8 hs8; (try simp only [Act.put]))
            refine (awake_any _).mono ?_
            rintro e w9 ⟨rfl, hb9⟩
            go_wp2_with fail
            go_ret
            exact ⟨rfl, HB8.out.trans (hb9.mono HB8.out.size)⟩

  · have d1 : (szT kind == 0) = false := by simp; exact fun h => hbad (.inl h)
    have d2 : decide (count < 1) = false := by simp; omega
    have d3 : decide (65536 < count) = false := by simp; omega
    have HL := Lib.hid (show (inE kind count = true ∧ ouE kind count = 0) ∨ (inE kind count = false ∧ 0 < ouE kind count) by
      have hlg : lgE kind count = count * szT kind := by unfold lgE; rw [if_neg (by omega)]
      have hpos : 0 < count * szT kind := by
        rcases szT_cases kind with ⟨h, _⟩ | ⟨_, _, h | h | h | h⟩
        · exact absurd (.inl h) hbad
        all_goals rw [h]; omega
      unfold inE ouE
      rw [hlg]
      generalize count * szT kind = x at *
      by_cases hx : x ≤ 4
      · refine .inl ⟨by simp; omega, by rw [if_neg (by omega)]⟩
      · refine .inr ⟨by simp; omega, by rw [if_pos (by omega)]; omega⟩)
    have HIN := Lib.hid (fun W => inl_any kind count W)
    have HOU := Lib.hid (fun W => out_any kind count W)
    clear hbad
    rcases (show _ ∨ _ from HL.out) with ⟨l1, l2⟩ | ⟨l1, l2⟩
    · rw [l1] at HIN
      rw [l2] at HOU
      clear l1 l2 HL
      go_wp2_with fail
      refine (HIN.out _).mono ?_
      rintro e w2 ⟨rfl, hb2⟩
      have HR2 := Lib.hid ((hb2.block _ (row_lt HR1.out)).trans HR1.out)
      have HB2 := Lib.hid (HB1.out.trans (hb2.mono HB1.out.size))
      clear hb2
      go_wp2_with fail
      refine (HOU.out _).mono ?_
      rintro e w3 ⟨rfl, hb3⟩
      have HR3 := Lib.hid ((hb3.block _ (row_lt HR2.out)).trans HR2.out)
      have HB3 := Lib.hid (HB2.out.trans (hb3.mono HB2.out.size))
      clear hb3
      go_wp2_with ((with_reducible refine wpl_load_row rtV ?_ (.tmp 5) ?_ (w.heap.size) ?_ 24 (vrow t c A l.length cap) ?_ HR3.out ?_); rfl; rfl; rfl; rfl; simp only [Act.put, List.setIfInBounds_toArray, List.set_cons_succ, List.set_cons_zero])
      refine (vmay_any t c A l cap _ (HS.out.keep HB3.out) (by omega) HBY.out).mono ?_
      rintro e w4 ⟨rfl, hb4⟩
      have HR4 := Lib.hid ((hb4.block _ (row_lt HR3.out)).trans HR3.out)
      have HB4 := Lib.hid (HB3.out.trans (hb4.mono HB3.out.size))
      clear hb4
      cases hm : mayV t c l with
      | false =>
        go_wp2_with fail
        refine (awake_any _).mono ?_
        rintro e w5 ⟨rfl, hb5⟩
        go_wp2_with fail
        go_ret
        exact ⟨rfl, HB4.out.trans (hb5.mono HB4.out.size)⟩
      | true =>
        have HLW := Lib.hid (inline_law t c l hm)
        clear hm
        have hlt := row_lt HR4.out
        have kb0 : ∀ p : Bel w4.heap.size w4.drew, p.w'.cell? ⟨w.heap.size, 0, none⟩ = some (.int .i64 t) := fun p => row_cell (((ud p.h).block _ hlt).trans HR4.out) 0 rfl
        have kb1 : ∀ p : Bel w4.heap.size w4.drew, p.w'.cell? ⟨w.heap.size, 1, none⟩ = some (.int .i64 c) := fun p => row_cell (((ud p.h).block _ hlt).trans HR4.out) 1 rfl
        go_wp2_with fail
        have HE := Lib.hid (show ((inE t c = false ∧ decide ((l.length : Int) ≤ 4) = false) ∧ ouE t c = (l.length : Int)) ∧ (∀ tag o, eB tag t c l o = false) ∨ ((inE t c = true ∧ decide ((l.length : Int) ≤ 4) = true) ∧ ouE t c = 0) ∧ (∀ tag o, eB tag t c l o = (decide (0 ≤ tag) && (decide (tag < 65536) && (decide (o = 1) || decide (o = 2))))) by
          obtain ⟨q1, q2, q3, q4⟩ := HLW.out
          cases hi : inE t c with
          | false =>
            rw [hi] at q1
            refine .inl ⟨⟨⟨rfl, ?_⟩, q2 hi⟩, fun tag o => by rw [q4 tag o, hi]; rfl⟩
            have := of_decide_eq_false q1.symm
            exact decide_eq_false (by omega)
          | true =>
            rw [hi] at q1
            refine .inr ⟨⟨⟨rfl, ?_⟩, q3 hi⟩, fun tag o => by rw [q4 tag o, hi]; rfl⟩
            have := of_decide_eq_true q1.symm
            exact decide_eq_true (by omega))
        refine Tin.reg_begin w4.heap.size 12 (by rfl) (by kernel_rfl) ?_
        refine Tin.reg_quiets [0, 1, 2, 3, 5, 6, 7, 8] _ 4 rfl (by simp only [Tin.pick, List.map_cons, List.map_nil, Array.getD_eq_getD_getElem?, List.getElem?_toArray, List.getElem?_cons_zero, List.getElem?_cons_succ, Option.getD_some]; rfl) (by kernel_rfl) (by kernel_rfl) ?_
        repeat (first | go_big_quiet_step (fail))
        refine wpQuiet_nil ?_
        refine Tin.reg_one 4 _ rfl (by kernel_rfl) ?_
        try simp only [List.getElem_toArray, List.getElem_cons_succ, List.getElem_cons_zero]
        go_wp2_with fail
        refine (inl_any t c _).mono ?_
        rintro e w5 ⟨rfl, hb5⟩
        go_wp2_with fail
        refine ⟨w4.heap.size, hb5, Nat.le_refl _, ?_⟩
        have HR5 := Lib.hid (((ud hb5).block _ hlt).trans HR4.out)
        have HB5 := Lib.hid (HB4.out.trans ((ud hb5).mono HB4.out.size))
        have hs5 : w4.heap.size ≤ w5.heap.size := hb5.size
        clear hb5 HLW
        refine Tin.reg_one 9 _ rfl (by kernel_rfl) ?_
        try simp only [List.getElem_toArray, List.getElem_cons_succ, List.getElem_cons_zero]
        go_wp2_with fail
        refine (out_any t c _).mono ?_
        rintro e w6 ⟨rfl, hb6⟩
        go_wp2_with fail
        refine ⟨w4.heap.size, hb6.mono hs5, Nat.le_refl _, ?_⟩
        have HR6 := Lib.hid ((hb6.block _ (row_lt HR5.out)).trans HR5.out)
        have HB6 := Lib.hid (HB5.out.trans (hb6.mono HB5.out.size))
        clear hb6 HR5 HB5
        refine Tin.reg_quiets [10, 11] _ 0 rfl (by simp only [Tin.pick, List.map_cons, List.map_nil, Array.getD_eq_getD_getElem?, List.getElem?_toArray, List.getElem?_cons_zero, List.getElem?_cons_succ, Option.getD_some]; rfl) (by kernel_rfl) (by kernel_rfl) ?_
        repeat (first | go_big_quiet_step (fail))
        refine wpQuiet_nil ?_
        refine Tin.reg_done (by kernel_rfl) ?_
        have HEO := Lib.hid (fun W (h : Sl .u8 W A l) => eof_any tag t c A l cap o W h (by omega) HBY.out)
        have k2 := row_cell (v := .slice A l.length cap) HR6.out 2 rfl
        have ll : ((l.length : Int) != (l.length : Int)) = false := by simp
        rcases (show _ ∨ _ from HE.out) with ⟨⟨⟨e1, e2⟩, e3⟩, e4⟩ | ⟨⟨⟨e1, e2⟩, e3⟩, e4⟩
        · rw [e4 tag o] at HEO
          rw [e1, e3]
          clear e4 e1 e3 HE
          go_wp2_with ((with_reducible refine wpl_load_row rtV ?_ (.tmp 5) ?_ (w.heap.size) ?_ 24 (vrow t c A l.length cap) ?_ HR6.out ?_); rfl; rfl; rfl; rfl; simp only [Act.put, List.setIfInBounds_toArray, List.set_cons_succ, List.set_cons_zero])
          refine (HEO.out _ (HS.out.keep HB6.out)).mono ?_
          rintro e w7 ⟨rfl, hb7⟩
          have HB7 := Lib.hid (HB6.out.trans (hb7.mono HB6.out.size))
          clear hb7
          generalize on false tag = x1
          generalize on false t = x2
          generalize on false c = x3
          generalize on false (eN t c l o) = x4
          go_wp2_with ((with_reducible refine wpl_store_row rtE ?_ (.tmp 13) (.tmp 91) ?_ (w7.heap.size) ?_ (erow x1 x2 x3 x4) ?_ (erow_one _ _ _ _) 26 ?_ _ ?_ (heap_alloc_new w7 _) ?_); rfl; rfl; rfl; rfl; rfl; rfl; intro w8 hr8 hg8 hs8; have HB8 := Lib.hid (HB7.out.trans (((ba (brefl w7) _).grown hg8 (by simp) (fun k hk => by cases hk; exact Nat.le_refl _)).mono HB7.out.size)); clear hr8 hg8 hs8; (try simp only [Act.put]))
          refine (awake_any _).mono ?_
          rintro e w9 ⟨rfl, hb9⟩
          go_wp2_with fail
          go_ret
          exact ⟨rfl, HB8.out.trans (hb9.mono HB8.out.size)⟩
        · have step : (decide (0 ≤ tag) = false ∧ eB tag t c l o = false) ∨ (decide (0 ≤ tag) = true ∧ decide (tag < 65536) = false ∧ eB tag t c l o = false) ∨ (decide (0 ≤ tag) = true ∧ decide (tag < 65536) = true ∧ (o == 1) = false ∧ (o == 2) = false ∧ eB tag t c l o = false) ∨ (decide (0 ≤ tag) = true ∧ decide (tag < 65536) = true ∧ (o == 1) = true ∧ eB tag t c l o = true) ∨ (decide (0 ≤ tag) = true ∧ decide (tag < 65536) = true ∧ (o == 1) = false ∧ (o == 2) = true ∧ eB tag t c l o = true) := by
            rw [e4 tag o]
            by_cases s1 : 0 ≤ tag
            · by_cases s2 : tag < 65536
              · by_cases s3 : o = 1
                · subst s3; simp [s1, s2]
                · by_cases s4 : o = 2
                  · subst s4; simp [s1, s2]
                  · simp [s1, s2, s3, s4]
              · simp [s1, s2]
            · simp [s1]
          rw [e1, e3]
          clear e4 e1 e3 HE
          rcases step with ⟨t1, hE⟩ | ⟨t1, t2, hE⟩ | ⟨t1, t2, t3, t4, hE⟩ | ⟨t1, t2, t3, hE⟩ | ⟨t1, t2, t3, t4, hE⟩
          · rw [hE] at HEO
            clear hE
            go_wp2_with ((with_reducible refine wpl_load_row rtV ?_ (.tmp 5) ?_ (w.heap.size) ?_ 24 (vrow t c A l.length cap) ?_ HR6.out ?_); rfl; rfl; rfl; rfl; simp only [Act.put, List.setIfInBounds_toArray, List.set_cons_succ, List.set_cons_zero])
            refine (HEO.out _ (HS.out.keep HB6.out)).mono ?_
            rintro e w7 ⟨rfl, hb7⟩
            have HB7 := Lib.hid (HB6.out.trans (hb7.mono HB6.out.size))
            clear hb7
            generalize on false tag = x1
            generalize on false t = x2
            generalize on false c = x3
            generalize on false (eN t c l o) = x4
            go_wp2_with ((with_reducible refine wpl_store_row rtE ?_ (.tmp 13) (.tmp 91) ?_ (w7.heap.size) ?_ (erow x1 x2 x3 x4) ?_ (erow_one _ _ _ _) 26 ?_ _ ?_ (heap_alloc_new w7 _) ?_); rfl; rfl; rfl; rfl; rfl; rfl; intro w8 hr8 hg8 hs8; have HB8 := Lib.hid (HB7.out.trans (((ba (brefl w7) _).grown hg8 (by simp) (fun k hk => by cases hk; exact Nat.le_refl _)).mono HB7.out.size)); clear hr8 hg8 hs8; (try simp only [Act.put]))
            refine (awake_any _).mono ?_
            rintro e w9 ⟨rfl, hb9⟩
            go_wp2_with fail
            go_ret
            exact ⟨rfl, HB8.out.trans (hb9.mono HB8.out.size)⟩
          · rw [hE] at HEO
            clear hE
            go_wp2_with ((with_reducible refine wpl_load_row rtV ?_ (.tmp 5) ?_ (w.heap.size) ?_ 24 (vrow t c A l.length cap) ?_ HR6.out ?_); rfl; rfl; rfl; rfl; simp only [Act.put, List.setIfInBounds_toArray, List.set_cons_succ, List.set_cons_zero])
            refine (HEO.out _ (HS.out.keep HB6.out)).mono ?_
            rintro e w7 ⟨rfl, hb7⟩
            have HB7 := Lib.hid (HB6.out.trans (hb7.mono HB6.out.size))
            clear hb7
            generalize on false tag = x1
            generalize on false t = x2
            generalize on false c = x3
            generalize on false (eN t c l o) = x4
            go_wp2_with ((with_reducible refine wpl_store_row rtE ?_ (.tmp 13) (.tmp 91) ?_ (w7.heap.size) ?_ (erow x1 x2 x3 x4) ?_ (erow_one _ _ _ _) 26 ?_ _ ?_ (heap_alloc_new w7 _) ?_); rfl; rfl; rfl; rfl; rfl; rfl; intro w8 hr8 hg8 hs8; have HB8 := Lib.hid (HB7.out.trans (((ba (brefl w7) _).grown hg8 (by simp) (fun k hk => by cases hk; exact Nat.le_refl _)).mono HB7.out.size)); clear hr8 hg8 hs8; (try simp only [Act.put]))
            refine (awake_any _).mono ?_
            rintro e w9 ⟨rfl, hb9⟩
            go_wp2_with fail
            go_ret
            exact ⟨rfl, HB8.out.trans (hb9.mono HB8.out.size)⟩
          · rw [hE] at HEO
            clear hE
            go_wp2_with ((with_reducible refine wpl_load_row rtV ?_ (.tmp 5) ?_ (w.heap.size) ?_ 24 (vrow t c A l.length cap) ?_ HR6.out ?_); rfl; rfl; rfl; rfl; simp only [Act.put, List.setIfInBounds_toArray, List.set_cons_succ, List.set_cons_zero])
            refine (HEO.out _ (HS.out.keep HB6.out)).mono ?_
            rintro e w7 ⟨rfl, hb7⟩
            have HB7 := Lib.hid (HB6.out.trans (hb7.mono HB6.out.size))
            clear hb7
            generalize on false tag = x1
            generalize on false t = x2
            generalize on false c = x3
            generalize on false (eN t c l o) = x4
            go_wp2_with ((with_reducible refine wpl_store_row rtE ?_ (.tmp 13) (.tmp 91) ?_ (w7.heap.size) ?_ (erow x1 x2 x3 x4) ?_ (erow_one _ _ _ _) 26 ?_ _ ?_ (heap_alloc_new w7 _) ?_); rfl; rfl; rfl; rfl; rfl; rfl; intro w8 hr8 hg8 hs8; have HB8 := Lib.hid (HB7.out.trans (((ba (brefl w7) _).grown hg8 (by simp) (fun k hk => by cases hk; exact Nat.le_refl _)).mono HB7.out.size)); clear hr8 hg8 hs8; (try simp only [Act.put]))
            refine (awake_any _).mono ?_
            rintro e w9 ⟨rfl, hb9⟩
            go_wp2_with fail
            go_ret
            exact ⟨rfl, HB8.out.trans (hb9.mono HB8.out.size)⟩
          · rw [hE] at HEO
            clear hE
            go_wp2_with ((with_reducible refine wpl_load_row rtV ?_ (.tmp 5) ?_ (w.heap.size) ?_ 24 (vrow t c A l.length cap) ?_ HR6.out ?_); rfl; rfl; rfl; rfl; simp only [Act.put, List.setIfInBounds_toArray, List.set_cons_succ, List.set_cons_zero])
            refine (HEO.out _ (HS.out.keep HB6.out)).mono ?_
            rintro e w7 ⟨rfl, hb7⟩
            have HB7 := Lib.hid (HB6.out.trans (hb7.mono HB6.out.size))
            clear hb7
            generalize on true tag = x1
            generalize on true t = x2
            generalize on true c = x3
            generalize on true (eN t c l o) = x4
            go_wp2_with ((with_reducible refine wpl_store_row rtE ?_ (.tmp 13) (.tmp 91) ?_ (w7.heap.size) ?_ (erow x1 x2 x3 x4) ?_ (erow_one _ _ _ _) 26 ?_ _ ?_ (heap_alloc_new w7 _) ?_); rfl; rfl; rfl; rfl; rfl; rfl; intro w8 hr8 hg8 hs8; have HB8 := Lib.hid (HB7.out.trans (((ba (brefl w7) _).grown hg8 (by simp) (fun k hk => by cases hk; exact Nat.le_refl _)).mono HB7.out.size)); clear hr8 hg8 hs8; (try simp only [Act.put]))
            refine (awake_any _).mono ?_
            rintro e w9 ⟨rfl, hb9⟩
            go_wp2_with fail
            go_ret
            exact ⟨rfl, HB8.out.trans (hb9.mono HB8.out.size)⟩
          · rw [hE] at HEO
            clear hE
            go_wp2_with ((with_reducible refine wpl_load_row rtV ?_ (.tmp 5) ?_ (w.heap.size) ?_ 24 (vrow t c A l.length cap) ?_ HR6.out ?_); rfl; rfl; rfl; rfl; simp only [Act.put, List.setIfInBounds_toArray, List.set_cons_succ, List.set_cons_zero])
            refine (HEO.out _ (HS.out.keep HB6.out)).mono ?_
            rintro e w7 ⟨rfl, hb7⟩
            have HB7 := Lib.hid (HB6.out.trans (hb7.mono HB6.out.size))
            clear hb7
            generalize on true tag = x1
            generalize on true t = x2
            generalize on true c = x3
            generalize on true (eN t c l o) = x4
            go_wp2_with ((with_reducible refine wpl_store_row rtE ?_ (.tmp 13) (.tmp 91) ?_ (w7.heap.size) ?_ (erow x1 x2 x3 x4) ?_ (erow_one _ _ _ _) 26 ?_ _ ?_ (heap_alloc_new w7 _) ?_); rfl; rfl; rfl; rfl; rfl; rfl; intro w8 hr8 hg8 hs8; have HB8 := Lib.hid (HB7.out.trans (((ba (brefl w7) _).grown hg8 (by simp) (fun k hk => by cases hk; exact Nat.le_refl _)).mono HB7.out.size)); clear hr8 hg8 hs8; (try simp only [Act.put]))
            refine (awake_any _).mono ?_
            rintro e w9 ⟨rfl, hb9⟩
            go_wp2_with fail
            go_ret
            exact ⟨rfl, HB8.out.trans (hb9.mono HB8.out.size)⟩


    · rw [l1] at HIN
      have HL2 := Lib.hid l2
      clear l1 l2 HL
      generalize ouE kind count = U at *
      have u0 : (0 : Int) < U := HL2.out
      go_wp2_with fail
      refine (HIN.out _).mono ?_
      rintro e w2 ⟨rfl, hb2⟩
      have HR2 := Lib.hid ((hb2.block _ (row_lt HR1.out)).trans HR1.out)
      have HB2 := Lib.hid (HB1.out.trans (hb2.mono HB1.out.size))
      clear hb2
      go_wp2_with fail
      refine (HOU.out _).mono ?_
      rintro e w3 ⟨rfl, hb3⟩
      have HR3 := Lib.hid ((hb3.block _ (row_lt HR2.out)).trans HR2.out)
      have HB3 := Lib.hid (HB2.out.trans (hb3.mono HB2.out.size))
      clear hb3
      go_wp2_with ((with_reducible refine wpl_load_row rtV ?_ (.tmp 5) ?_ (w.heap.size) ?_ 24 (vrow t c A l.length cap) ?_ HR3.out ?_); rfl; rfl; rfl; rfl; simp only [Act.put, List.setIfInBounds_toArray, List.set_cons_succ, List.set_cons_zero])
      refine (vmay_any t c A l cap _ (HS.out.keep HB3.out) (by omega) HBY.out).mono ?_
      rintro e w4 ⟨rfl, hb4⟩
      have HR4 := Lib.hid ((hb4.block _ (row_lt HR3.out)).trans HR3.out)
      have HB4 := Lib.hid (HB3.out.trans (hb4.mono HB3.out.size))
      clear hb4
      cases hm : mayV t c l with
      | false =>
        go_wp2_with fail
        refine (awake_any _).mono ?_
        rintro e w5 ⟨rfl, hb5⟩
        go_wp2_with fail
        go_ret
        exact ⟨rfl, HB4.out.trans (hb5.mono HB4.out.size)⟩
      | true =>
        have HLW := Lib.hid (inline_law t c l hm)
        clear hm
        have hlt := row_lt HR4.out
        have kb0 : ∀ p : Bel w4.heap.size w4.drew, p.w'.cell? ⟨w.heap.size, 0, none⟩ = some (.int .i64 t) := fun p => row_cell (((ud p.h).block _ hlt).trans HR4.out) 0 rfl
        have kb1 : ∀ p : Bel w4.heap.size w4.drew, p.w'.cell? ⟨w.heap.size, 1, none⟩ = some (.int .i64 c) := fun p => row_cell (((ud p.h).block _ hlt).trans HR4.out) 1 rfl
        go_wp2_with fail
        have HE := Lib.hid (show ((inE t c = false ∧ decide ((l.length : Int) ≤ 4) = false) ∧ ouE t c = (l.length : Int)) ∧ (∀ tag o, eB tag t c l o = false) ∨ ((inE t c = true ∧ decide ((l.length : Int) ≤ 4) = true) ∧ ouE t c = 0) ∧ (∀ tag o, eB tag t c l o = (decide (0 ≤ tag) && (decide (tag < 65536) && (decide (o = 1) || decide (o = 2))))) by
          obtain ⟨q1, q2, q3, q4⟩ := HLW.out
          cases hi : inE t c with
          | false =>
            rw [hi] at q1
            refine .inl ⟨⟨⟨rfl, ?_⟩, q2 hi⟩, fun tag o => by rw [q4 tag o, hi]; rfl⟩
            have := of_decide_eq_false q1.symm
            exact decide_eq_false (by omega)
          | true =>
            rw [hi] at q1
            refine .inr ⟨⟨⟨rfl, ?_⟩, q3 hi⟩, fun tag o => by rw [q4 tag o, hi]; rfl⟩
            have := of_decide_eq_true q1.symm
            exact decide_eq_true (by omega))
        refine Tin.reg_begin w4.heap.size 12 (by rfl) (by kernel_rfl) ?_
        refine Tin.reg_quiets [0, 1, 2, 3, 5, 6, 7, 8] _ 4 rfl (by simp only [Tin.pick, List.map_cons, List.map_nil, Array.getD_eq_getD_getElem?, List.getElem?_toArray, List.getElem?_cons_zero, List.getElem?_cons_succ, Option.getD_some]; rfl) (by kernel_rfl) (by kernel_rfl) ?_
        repeat (first | go_big_quiet_step (fail))
        refine wpQuiet_nil ?_
        refine Tin.reg_one 4 _ rfl (by kernel_rfl) ?_
        try simp only [List.getElem_toArray, List.getElem_cons_succ, List.getElem_cons_zero]
        go_wp2_with fail
        refine (inl_any t c _).mono ?_
        rintro e w5 ⟨rfl, hb5⟩
        go_wp2_with fail
        refine ⟨w4.heap.size, hb5, Nat.le_refl _, ?_⟩
        have HR5 := Lib.hid (((ud hb5).block _ hlt).trans HR4.out)
        have HB5 := Lib.hid (HB4.out.trans ((ud hb5).mono HB4.out.size))
        have hs5 : w4.heap.size ≤ w5.heap.size := hb5.size
        clear hb5 HLW
        refine Tin.reg_one 9 _ rfl (by kernel_rfl) ?_
        try simp only [List.getElem_toArray, List.getElem_cons_succ, List.getElem_cons_zero]
        go_wp2_with fail
        refine (out_any t c _).mono ?_
        rintro e w6 ⟨rfl, hb6⟩
        go_wp2_with fail
        refine ⟨w4.heap.size, hb6.mono hs5, Nat.le_refl _, ?_⟩
        have HR6 := Lib.hid ((hb6.block _ (row_lt HR5.out)).trans HR5.out)
        have HB6 := Lib.hid (HB5.out.trans (hb6.mono HB5.out.size))
        clear hb6 HR5 HB5
        refine Tin.reg_quiets [10, 11] _ 0 rfl (by simp only [Tin.pick, List.map_cons, List.map_nil, Array.getD_eq_getD_getElem?, List.getElem?_toArray, List.getElem?_cons_zero, List.getElem?_cons_succ, Option.getD_some]; rfl) (by kernel_rfl) (by kernel_rfl) ?_
        repeat (first | go_big_quiet_step (fail))
        refine wpQuiet_nil ?_
        refine Tin.reg_done (by kernel_rfl) ?_
        have HEO := Lib.hid (fun W (h : Sl .u8 W A l) => eof_any tag t c A l cap o W h (by omega) HBY.out)
        have k2 := row_cell (v := .slice A l.length cap) HR6.out 2 rfl
        have ll : ((l.length : Int) != (l.length : Int)) = false := by simp
        rcases (show _ ∨ _ from HE.out) with ⟨⟨⟨e1, e2⟩, e3⟩, e4⟩ | ⟨⟨⟨e1, e2⟩, e3⟩, e4⟩
        · rw [e4 tag o] at HEO
          rw [e1, e3]
          clear e4 e1 e3 HE
          go_wp2_with ((with_reducible refine wpl_load_row rtV ?_ (.tmp 5) ?_ (w.heap.size) ?_ 24 (vrow t c A l.length cap) ?_ HR6.out ?_); rfl; rfl; rfl; rfl; simp only [Act.put, List.setIfInBounds_toArray, List.set_cons_succ, List.set_cons_zero])
          refine (HEO.out _ (HS.out.keep HB6.out)).mono ?_
          rintro e w7 ⟨rfl, hb7⟩
          have HB7 := Lib.hid (HB6.out.trans (hb7.mono HB6.out.size))
          clear hb7
          generalize on false tag = x1
          generalize on false t = x2
          generalize on false c = x3
          generalize on false (eN t c l o) = x4
          go_wp2_with ((with_reducible refine wpl_store_row rtE ?_ (.tmp 13) (.tmp 91) ?_ (w7.heap.size) ?_ (erow x1 x2 x3 x4) ?_ (erow_one _ _ _ _) 26 ?_ _ ?_ (heap_alloc_new w7 _) ?_); rfl; rfl; rfl; rfl; rfl; rfl; intro w8 hr8 hg8 hs8; have HB8 := Lib.hid (HB7.out.trans (((ba (brefl w7) _).grown hg8 (by simp) (fun k hk => by cases hk; exact Nat.le_refl _)).mono HB7.out.size)); clear hr8 hg8 hs8; (try simp only [Act.put]))
          refine (awake_any _).mono ?_
          rintro e w9 ⟨rfl, hb9⟩
          go_wp2_with fail
          go_ret
          exact ⟨rfl, HB8.out.trans (hb9.mono HB8.out.size)⟩
        · have step : (decide (0 ≤ tag) = false ∧ eB tag t c l o = false) ∨ (decide (0 ≤ tag) = true ∧ decide (tag < 65536) = false ∧ eB tag t c l o = false) ∨ (decide (0 ≤ tag) = true ∧ decide (tag < 65536) = true ∧ (o == 1) = false ∧ (o == 2) = false ∧ eB tag t c l o = false) ∨ (decide (0 ≤ tag) = true ∧ decide (tag < 65536) = true ∧ (o == 1) = true ∧ eB tag t c l o = true) ∨ (decide (0 ≤ tag) = true ∧ decide (tag < 65536) = true ∧ (o == 1) = false ∧ (o == 2) = true ∧ eB tag t c l o = true) := by
            rw [e4 tag o]
            by_cases s1 : 0 ≤ tag
            · by_cases s2 : tag < 65536
              · by_cases s3 : o = 1
                · subst s3; simp [s1, s2]
                · by_cases s4 : o = 2
                  · subst s4; simp [s1, s2]
                  · simp [s1, s2, s3, s4]
              · simp [s1, s2]
            · simp [s1]
          rw [e1, e3]
          clear e4 e1 e3 HE
          rcases step with ⟨t1, hE⟩ | ⟨t1, t2, hE⟩ | ⟨t1, t2, t3, t4, hE⟩ | ⟨t1, t2, t3, hE⟩ | ⟨t1, t2, t3, t4, hE⟩
          · rw [hE] at HEO
            clear hE
            go_wp2_with ((with_reducible refine wpl_load_row rtV ?_ (.tmp 5) ?_ (w.heap.size) ?_ 24 (vrow t c A l.length cap) ?_ HR6.out ?_); rfl; rfl; rfl; rfl; simp only [Act.put, List.setIfInBounds_toArray, List.set_cons_succ, List.set_cons_zero])
            refine (HEO.out _ (HS.out.keep HB6.out)).mono ?_
            rintro e w7 ⟨rfl, hb7⟩
            have HB7 := Lib.hid (HB6.out.trans (hb7.mono HB6.out.size))
            clear hb7
            generalize on false tag = x1
            generalize on false t = x2
            generalize on false c = x3
            generalize on false (eN t c l o) = x4
            go_wp2_with ((with_reducible refine wpl_store_row rtE ?_ (.tmp 13) (.tmp 91) ?_ (w7.heap.size) ?_ (erow x1 x2 x3 x4) ?_ (erow_one _ _ _ _) 26 ?_ _ ?_ (heap_alloc_new w7 _) ?_); rfl; rfl; rfl; rfl; rfl; rfl; intro w8 hr8 hg8 hs8; have HB8 := Lib.hid (HB7.out.trans (((ba (brefl w7) _).grown hg8 (by simp) (fun k hk => by cases hk; exact Nat.le_refl _)).mono HB7.out.size)); clear hr8 hg8 hs8; (try simp only [Act.put]))
            refine (awake_any _).mono ?_
            rintro e w9 ⟨rfl, hb9⟩
            go_wp2_with fail
            go_ret
            exact ⟨rfl, HB8.out.trans (hb9.mono HB8.out.size)⟩
          · rw [hE] at HEO
            clear hE
            go_wp2_with ((with_reducible refine wpl_load_row rtV ?_ (.tmp 5) ?_ (w.heap.size) ?_ 24 (vrow t c A l.length cap) ?_ HR6.out ?_); rfl; rfl; rfl; rfl; simp only [Act.put, List.setIfInBounds_toArray, List.set_cons_succ, List.set_cons_zero])
            refine (HEO.out _ (HS.out.keep HB6.out)).mono ?_
            rintro e w7 ⟨rfl, hb7⟩
            have HB7 := Lib.hid (HB6.out.trans (hb7.mono HB6.out.size))
            clear hb7
            generalize on false tag = x1
            generalize on false t = x2
            generalize on false c = x3
            generalize on false (eN t c l o) = x4
            go_wp2_with ((with_reducible refine wpl_store_row rtE ?_ (.tmp 13) (.tmp 91) ?_ (w7.heap.size) ?_ (erow x1 x2 x3 x4) ?_ (erow_one _ _ _ _) 26 ?_ _ ?_ (heap_alloc_new w7 _) ?_); rfl; rfl; rfl; rfl; rfl; rfl; intro w8 hr8 hg8 hs8; have HB8 := Lib.hid (HB7.out.trans (((ba (brefl w7) _).grown hg8 (by simp) (fun k hk => by cases hk; exact Nat.le_refl _)).mono HB7.out.size)); clear hr8 hg8 hs8; (try simp only [Act.put]))
            refine (awake_any _).mono ?_
            rintro e w9 ⟨rfl, hb9⟩
            go_wp2_with fail
            go_ret
            exact ⟨rfl, HB8.out.trans (hb9.mono HB8.out.size)⟩
          · rw [hE] at HEO
            clear hE
            go_wp2_with ((with_reducible refine wpl_load_row rtV ?_ (.tmp 5) ?_ (w.heap.size) ?_ 24 (vrow t c A l.length cap) ?_ HR6.out ?_); rfl; rfl; rfl; rfl; simp only [Act.put, List.setIfInBounds_toArray, List.set_cons_succ, List.set_cons_zero])
            refine (HEO.out _ (HS.out.keep HB6.out)).mono ?_
            rintro e w7 ⟨rfl, hb7⟩
            have HB7 := Lib.hid (HB6.out.trans (hb7.mono HB6.out.size))
            clear hb7
            generalize on false tag = x1
            generalize on false t = x2
            generalize on false c = x3
            generalize on false (eN t c l o) = x4
            go_wp2_with ((with_reducible refine wpl_store_row rtE ?_ (.tmp 13) (.tmp 91) ?_ (w7.heap.size) ?_ (erow x1 x2 x3 x4) ?_ (erow_one _ _ _ _) 26 ?_ _ ?_ (heap_alloc_new w7 _) ?_); rfl; rfl; rfl; rfl; rfl; rfl; intro w8 hr8 hg8 hs8; have HB8 := Lib.hid (HB7.out.trans (((ba (brefl w7) _).grown hg8 (by simp) (fun k hk => by cases hk; exact Nat.le_refl _)).mono HB7.out.size)); clear hr8 hg8 hs8; (try simp only [Act.put]))
            refine (awake_any _).mono ?_
            rintro e w9 ⟨rfl, hb9⟩
            go_wp2_with fail
            go_ret
            exact ⟨rfl, HB8.out.trans (hb9.mono HB8.out.size)⟩
          · rw [hE] at HEO
            clear hE
            go_wp2_with ((with_reducible refine wpl_load_row rtV ?_ (.tmp 5) ?_ (w.heap.size) ?_ 24 (vrow t c A l.length cap) ?_ HR6.out ?_); rfl; rfl; rfl; rfl; simp only [Act.put, List.setIfInBounds_toArray, List.set_cons_succ, List.set_cons_zero])
            refine (HEO.out _ (HS.out.keep HB6.out)).mono ?_
            rintro e w7 ⟨rfl, hb7⟩
            have HB7 := Lib.hid (HB6.out.trans (hb7.mono HB6.out.size))
            clear hb7
            generalize on true tag = x1
            generalize on true t = x2
            generalize on true c = x3
            generalize on true (eN t c l o) = x4
            go_wp2_with ((with_reducible refine wpl_store_row rtE ?_ (.tmp 13) (.tmp 91) ?_ (w7.heap.size) ?_ (erow x1 x2 x3 x4) ?_ (erow_one _ _ _ _) 26 ?_ _ ?_ (heap_alloc_new w7 _) ?_); rfl; rfl; rfl; rfl; rfl; rfl; intro w8 hr8 hg8 hs8; have HB8 := Lib.hid (HB7.out.trans (((ba (brefl w7) _).grown hg8 (by simp) (fun k hk => by cases hk; exact Nat.le_refl _)).mono HB7.out.size)); clear hr8 hg8 hs8; (try simp only [Act.put]))
            refine (awake_any _).mono ?_
            rintro e w9 ⟨rfl, hb9⟩
            go_wp2_with fail
            go_ret
            exact ⟨rfl, HB8.out.trans (hb9.mono HB8.out.size)⟩
          · rw [hE] at HEO
            clear hE
            go_wp2_with ((with_reducible refine wpl_load_row rtV ?_ (.tmp 5) ?_ (w.heap.size) ?_ 24 (vrow t c A l.length cap) ?_ HR6.out ?_); rfl; rfl; rfl; rfl; simp only [Act.put, List.setIfInBounds_toArray, List.set_cons_succ, List.set_cons_zero])
            refine (HEO.out _ (HS.out.keep HB6.out)).mono ?_
            rintro e w7 ⟨rfl, hb7⟩
            have HB7 := Lib.hid (HB6.out.trans (hb7.mono HB6.out.size))
            clear hb7
            generalize on true tag = x1
            generalize on true t = x2
            generalize on true c = x3
            generalize on true (eN t c l o) = x4
            go_wp2_with ((with_reducible refine wpl_store_row rtE ?_ (.tmp 13) (.tmp 91) ?_ (w7.heap.size) ?_ (erow x1 x2 x3 x4) ?_ (erow_one _ _ _ _) 26 ?_ _ ?_ (heap_alloc_new w7 _) ?_); rfl; rfl; rfl; rfl; rfl; rfl; intro w8 hr8 hg8 hs8; have HB8 := Lib.hid (HB7.out.trans (((ba (brefl w7) _).grown hg8 (by simp) (fun k hk => by cases hk; exact Nat.le_refl _)).mono HB7.out.size)); clear hr8 hg8 hs8; (try simp only [Act.put]))
            refine (awake_any _).mono ?_
            rintro e w9 ⟨rfl, hb9⟩
            go_wp2_with fail
            go_ret
            exact ⟨rfl, HB8.out.trans (hb9.mono HB8.out.size)⟩
end Go.Proofs.Ythjmnahmejagmaa
