/- The contract of the reference's Of: the entry of a tag and a value. -/
import Derived.Test.YthjmnahmejagmaaEnF
import Derived.Test.YthjmnahmejagmaaOcD
namespace Go.Proofs.Ythjmnahmejagmaa
open Go.RowKit
open Go.Tin
set_option linter.unusedVariables false
set_option linter.unusedSimpArgs false


theorem eB_no {tag t c : Int} {l : List Int} {o : Int} (h : tag < 0 ∨ 65535 < tag ∨ o < 1 ∨ 2 < o ∨ mayV t c l = false ∨ inE t c = false) : eB tag t c l o = false := by
  by_cases hm : mayV t c l = true
  · rw [(inline_law t c l hm).2.2.2 tag o]
    rcases h with h | h | h | h | h | h
    · rw [decide_eq_false (show ¬ 0 ≤ tag by omega)]; simp
    · rw [decide_eq_false (show ¬ tag < 65536 by omega)]; simp
    · rw [decide_eq_false (show ¬ o = 1 by omega), decide_eq_false (show ¬ o = 2 by omega)]; simp
    · rw [decide_eq_false (show ¬ o = 1 by omega), decide_eq_false (show ¬ o = 2 by omega)]; simp
    · rw [hm] at h; cases h
    · rw [h]; rfl
  · have hm' : mayV t c l = false := by simpa using hm
    unfold eB byV
    rw [hm']
    simp
theorem eB_yes {tag t c : Int} {l : List Int} {o : Int} (h1 : ¬ tag < 0) (h2 : ¬ 65535 < tag) (h3 : ¬ o < 1) (h4 : ¬ 2 < o) (h5 : mayV t c l = true) (h6 : inE t c = true) : eB tag t c l o = true ∧ 0 < (byV t c l o).length ∧ (byV t c l o).length ≤ 4 := by
  have he : eB tag t c l o = true := by
    rw [(inline_law t c l h5).2.2.2 tag o, h6, decide_eq_true (show 0 ≤ tag by omega), decide_eq_true (show tag < 65536 by omega)]
    rcases (by omega : o = 1 ∨ o = 2) with rfl | rfl <;> rfl
  refine ⟨he, ?_⟩
  unfold eB at he
  simp only [Bool.and_eq_true, decide_eq_true_eq] at he
  exact he.2
theorem rep_snoc (n : Nat) (x : Int) : List.replicate n x ++ [x] = List.replicate (n + 1) x := by
  rw [List.replicate_succ']
set_option maxRecDepth 100000 in
set_option maxHeartbeats 8000000 in
theorem reof_any (tag t c : Int) (A : Option Addr) (l : List Int) (cap : Nat) (o : Int) (w : World) (hs : Sl .u8 w A l) (hl : l.length ≤ 1000000000) (hby : Byts l) :
    Calls Try.prog 10 #[.int .i64 tag, .agg #[.int .i64 t, .int .i64 c, .slice A l.length cap], .int .i64 o] w fun e w' => e = .returned (.tuple #[.agg (erow (on (eB tag t c l o) tag) (on (eB tag t c l o) t) (on (eB tag t c l o) c) (on (eB tag t c l o) (eN t c l o))), .bool (eB tag t c l o)]) ∧ Below w.heap.size w w' := by
  obtain ⟨W, hW⟩ : ∃ W, W = (w.alloc (.cells (vrow t c A l.length cap) 24)).alloc (.cells (erow 0 0 0 0) 26) := ⟨_, rfl⟩
  have HB := Lib.hid (show Below w.heap.size w W by rw [hW]; exact ba (ba (brefl w) _) _)
  have HX := Lib.hid (show W.heap[w.heap.size]? = some (.cells (vrow t c A l.length cap) 24 (0, 0)) by rw [hW, Below.heap_alloc _ _ _ (by simp)]; exact heap_alloc_new w _)
  have HR := Lib.hid (show W.heap[w.heap.size + 1]? = some (.cells (erow 0 0 0 0) 26 (0, 0)) by
    have := heap_alloc_new (w.alloc (.cells (vrow t c A l.length cap) 24)) (.cells (erow 0 0 0 0) 26)
    rw [hW]
    simpa using this)
  have hsz : W.heap.size = w.heap.size + 2 := by rw [hW]; simp
  have HS := Lib.hid (hs.keep HB.out)
  have HBY := Lib.hid hby
  have HM := Lib.hid (rmay_any t c A l cap W HS.out hl hby)
  have HNO := Lib.hid (fun h => eB_no (tag := tag) (t := t) (c := c) (l := l) (o := o) h)
  clear hs hby
  have HX0 := Lib.hid (show ((w.alloc (.cells (vrow t c A l.length cap) 24)).alloc (.cells (erow 0 0 0 0) 26)).heap[w.heap.size]? = some (.cells (vrow t c A l.length cap) 24 (0, 0)) by rw [← hW]; exact HX.out)
  have HR0 := Lib.hid (show ((w.alloc (.cells (vrow t c A l.length cap) 24)).alloc (.cells (erow 0 0 0 0) 26)).heap[w.heap.size + 1]? = some (.cells (erow 0 0 0 0) 26 (0, 0)) by rw [← hW]; exact HR.out)
  have HB0 := Lib.hid (show Below w.heap.size w ((w.alloc (.cells (vrow t c A l.length cap) 24)).alloc (.cells (erow 0 0 0 0) 26)) by rw [← hW]; exact HB.out)
  by_cases h1 : tag < 0
  · have HE := Lib.hid (HNO.out (.inl h1))
    have d1 : decide (tag < 0) = true := by simpa using h1
    clear h1
    go_enter Try.func10, Try.ntmps10
    have z0 : ∀ n, on false n = 0 := fun _ => rfl
    go_wp2_with ((with_reducible refine wpl_store_row rtE ?_ (.tmp 6) (.tmp 38) ?_ (w.heap.size + 1) ?_ (erow 0 0 0 0) ?_ (erow_one _ _ _ _) 26 ?_ _ ?_ HR0.out ?_); rfl; rfl; rfl; rfl; rfl; rfl; intro w7 hr7 hg7 hs7; (try simp only [Act.put]))
    rw [HE.out, z0, z0, z0, z0]
    exact bodyPost_ret (res_row_tmp rtE rfl _ _ (w.heap.size + 1) 26 (erow 0 0 0 0) rfl (.bool false) rfl rfl hr7) rfl ⟨rfl, HB0.out.grown hg7 HB0.out.size (fun k hk => by have e' : w.heap.size + 1 = k := Option.some.inj hk; omega)⟩

  by_cases h2 : 65535 < tag
  · have HE := Lib.hid (HNO.out (.inr (.inl h2)))
    have d1 : decide (tag < 0) = false := by simpa using h1
    have d2 : decide (65535 < tag) = true := by simpa using h2
    clear h1 h2
    go_enter Try.func10, Try.ntmps10
    have z0 : ∀ n, on false n = 0 := fun _ => rfl
    go_wp2_with ((with_reducible refine wpl_store_row rtE ?_ (.tmp 6) (.tmp 38) ?_ (w.heap.size + 1) ?_ (erow 0 0 0 0) ?_ (erow_one _ _ _ _) 26 ?_ _ ?_ HR0.out ?_); rfl; rfl; rfl; rfl; rfl; rfl; intro w7 hr7 hg7 hs7; (try simp only [Act.put]))
    rw [HE.out, z0, z0, z0, z0]
    exact bodyPost_ret (res_row_tmp rtE rfl _ _ (w.heap.size + 1) 26 (erow 0 0 0 0) rfl (.bool false) rfl rfl hr7) rfl ⟨rfl, HB0.out.grown hg7 HB0.out.size (fun k hk => by have e' : w.heap.size + 1 = k := Option.some.inj hk; omega)⟩

  by_cases h3 : o < 1
  · have HE := Lib.hid (HNO.out (.inr (.inr (.inl h3))))
    have d1 : decide (tag < 0) = false := by simpa using h1
    have d2 : decide (65535 < tag) = false := by simpa using h2
    have d3 : decide (o < 1) = true := by simpa using h3
    clear h1 h2 h3
    go_enter Try.func10, Try.ntmps10
    have z0 : ∀ n, on false n = 0 := fun _ => rfl
    go_wp2_with ((with_reducible refine wpl_store_row rtE ?_ (.tmp 6) (.tmp 38) ?_ (w.heap.size + 1) ?_ (erow 0 0 0 0) ?_ (erow_one _ _ _ _) 26 ?_ _ ?_ HR0.out ?_); rfl; rfl; rfl; rfl; rfl; rfl; intro w7 hr7 hg7 hs7; (try simp only [Act.put]))
    rw [HE.out, z0, z0, z0, z0]
    exact bodyPost_ret (res_row_tmp rtE rfl _ _ (w.heap.size + 1) 26 (erow 0 0 0 0) rfl (.bool false) rfl rfl hr7) rfl ⟨rfl, HB0.out.grown hg7 HB0.out.size (fun k hk => by have e' : w.heap.size + 1 = k := Option.some.inj hk; omega)⟩

  by_cases h4 : 2 < o
  · have HE := Lib.hid (HNO.out (.inr (.inr (.inr (.inl h4)))))
    have d1 : decide (tag < 0) = false := by simpa using h1
    have d2 : decide (65535 < tag) = false := by simpa using h2
    have d3 : decide (o < 1) = false := by simpa using h3
    have d4 : decide (2 < o) = true := by simpa using h4
    clear h1 h2 h3 h4
    go_enter Try.func10, Try.ntmps10
    have z0 : ∀ n, on false n = 0 := fun _ => rfl
    go_wp2_with ((with_reducible refine wpl_store_row rtE ?_ (.tmp 6) (.tmp 38) ?_ (w.heap.size + 1) ?_ (erow 0 0 0 0) ?_ (erow_one _ _ _ _) 26 ?_ _ ?_ HR0.out ?_); rfl; rfl; rfl; rfl; rfl; rfl; intro w7 hr7 hg7 hs7; (try simp only [Act.put]))
    rw [HE.out, z0, z0, z0, z0]
    exact bodyPost_ret (res_row_tmp rtE rfl _ _ (w.heap.size + 1) 26 (erow 0 0 0 0) rfl (.bool false) rfl rfl hr7) rfl ⟨rfl, HB0.out.grown hg7 HB0.out.size (fun k hk => by have e' : w.heap.size + 1 = k := Option.some.inj hk; omega)⟩

  have d1 : decide (tag < 0) = false := by simpa using h1
  have d2 : decide (65535 < tag) = false := by simpa using h2
  have d3 : decide (o < 1) = false := by simpa using h3
  have d4 : decide (2 < o) = false := by simpa using h4
  have HYES := Lib.hid (fun h5 h6 => eB_yes (tag := tag) (t := t) (c := c) (l := l) (o := o) h1 h2 h3 h4 h5 h6)
  clear h1 h2 h3 h4
  go_enter Try.func10, Try.ntmps10
  go_wp2_with ((with_reducible refine wpl_load_row rtV ?_ (.tmp 4) ?_ (w.heap.size) ?_ 24 (vrow t c A l.length cap) ?_ HX0.out ?_); rfl; rfl; rfl; rfl; simp only [Act.put, List.setIfInBounds_toArray, List.set_cons_succ, List.set_cons_zero])
  rw [← hW]
  clear hW HX0 HR0 HB0
  refine HM.out.mono ?_
  rintro e w1 ⟨rfl, hb1⟩
  have HX1 := Lib.hid ((hb1.block _ (row_lt HX.out)).trans HX.out)
  have HR1 := Lib.hid ((hb1.block _ (row_lt HR.out)).trans HR.out)
  have HB1 := Lib.hid (HB.out.trans (hb1.mono HB.out.size))
  have HS1 := Lib.hid (HS.out.keep hb1)
  have hs1 : W.heap.size ≤ w1.heap.size := hb1.size
  clear hb1 HX HR HB HS HM
  have k0 := row_cell (v := .int .i64 t) HX1.out 0 rfl
  have k1 := row_cell (v := .int .i64 c) HX1.out 1 rfl
  cases hm : mayV t c l with
  | false =>
    have HE := Lib.hid (HNO.out (.inr (.inr (.inr (.inr (.inl hm))))))
    clear hm
    have z0 : ∀ n, on false n = 0 := fun _ => rfl
    go_wp2_with ((with_reducible refine wpl_store_row rtE ?_ (.tmp 6) (.tmp 38) ?_ (w.heap.size + 1) ?_ (erow 0 0 0 0) ?_ (erow_one _ _ _ _) 26 ?_ _ ?_ HR1.out ?_); rfl; rfl; rfl; rfl; rfl; rfl; intro w7 hr7 hg7 hs7; (try simp only [Act.put]))
    rw [HE.out, z0, z0, z0, z0]
    exact bodyPost_ret (res_row_tmp rtE rfl _ _ (w.heap.size + 1) 26 (erow 0 0 0 0) rfl (.bool false) rfl rfl hr7) rfl ⟨rfl, HB1.out.grown hg7 HB1.out.size (fun k hk => by have e' : w.heap.size + 1 = k := Option.some.inj hk; omega)⟩

  | true =>
    have HM := Lib.hid hm
    clear hm
    go_wp2_with fail
    refine (rinl_any t c w1).mono ?_
    rintro e w2 ⟨rfl, rfl⟩
    cases hi : inE t c with
    | false =>
      have HE := Lib.hid (HNO.out (.inr (.inr (.inr (.inr (.inr hi))))))
      clear hi
      have z0 : ∀ n, on false n = 0 := fun _ => rfl
      go_wp2_with ((with_reducible refine wpl_store_row rtE ?_ (.tmp 6) (.tmp 38) ?_ (w.heap.size + 1) ?_ (erow 0 0 0 0) ?_ (erow_one _ _ _ _) 26 ?_ _ ?_ HR1.out ?_); rfl; rfl; rfl; rfl; rfl; rfl; intro w7 hr7 hg7 hs7; (try simp only [Act.put]))
      rw [HE.out, z0, z0, z0, z0]
      exact bodyPost_ret (res_row_tmp rtE rfl _ _ (w.heap.size + 1) 26 (erow 0 0 0 0) rfl (.bool false) rfl rfl hr7) rfl ⟨rfl, HB1.out.grown hg7 HB1.out.size (fun k hk => by have e' : w.heap.size + 1 = k := Option.some.inj hk; omega)⟩

    | true =>
      have HY := Lib.hid (HYES.out HM.out hi)
      have HE := Lib.hid HY.out.1
      have HY1 := Lib.hid (byV_byts HBY.out t c o)
      have HEN := Lib.hid (show eN t c l o = getN (byV t c l o ++ List.replicate (4 - (byV t c l o).length) 0) 0 4 o from rfl)
      have HBT := Lib.hid (rbyt_any t c A l cap o w1 HS1.out hl HBY.out)
      have hl0 := HY.out.2.1
      have hl4 := HY.out.2.2
      clear hi HYES HNO
      generalize byV t c l o = L at *
      go_wp2_with ((with_reducible refine wpl_load_row rtV ?_ (.tmp 4) ?_ (w.heap.size) ?_ 24 (vrow t c A l.length cap) ?_ HX1.out ?_); rfl; rfl; rfl; rfl; simp only [Act.put, List.setIfInBounds_toArray, List.set_cons_succ, List.set_cons_zero])
      refine HBT.out.mono ?_
      rintro e w3 ⟨A3, c3, rfl, ho3, hb3⟩
      have HX3 := Lib.hid ((hb3.block _ (row_lt HX1.out)).trans HX1.out)
      have HR3 := Lib.hid ((hb3.block _ (row_lt HR1.out)).trans HR1.out)
      have HB3 := Lib.hid (HB1.out.trans (hb3.mono HB1.out.size))
      have HO3 := Lib.hid ho3
      have hs3 : w1.heap.size ≤ w3.heap.size := hb3.size
      clear ho3 hb3 HX1 HR1 HB1 HS1 HBT k0 k1 HY
      go_wp2_with fail
      go_loopw [8] (fun s8 wr => ∃ (j : Nat) (A4 : Option Addr) (c4 : Nat), L.length + j ≤ 4 ∧ s8 = .slice A4 (L.length + j) c4 ∧ Own .u8 5 wr w1.heap.size (.slice A4 (L.length + j) c4) (L ++ List.replicate j 0) ∧ Below w1.heap.size w3 wr) (fun s8 _ => match s8 with | .slice _ n _ => 4 - n | _ => 0)
      case atStart => exact ⟨0, A3, c3, by omega, rfl, by simpa using HO3.out, Below.refl _ _⟩
      case round =>
        obtain ⟨j, A4, c4, hj, rfl, ho4, hb4⟩ := hrel
        have HO4 := Lib.hid ho4
        have HB4 := Lib.hid hb4
        have hs4 : w3.heap.size ≤ wr.heap.size := hb4.size
        clear ho4 hb4
        by_cases hj4 : L.length + j < 4
        · have i1 : ((L.length : Int) + (j : Int)) < 4 := by omega
          have i2 : (((L.length + j : Nat) : Int)) < 4 := by omega
          have hll : (L ++ List.replicate j (0 : Int)).length = L.length + j := by simp
          have HLL := Lib.hid hll
          clear hll
          go_wp2_with (at_builtin; refine Tin.wpl_push bt5 w3 wr 0 rfl (.tmp 45) (.tmp 46) rfl w1.heap.size A4 _ c4 (L ++ List.replicate j 0) rfl HO4.out HB4.out (by omega) rfl (by rw [HLL.out]; omega) (by rw [HLL.out]; omega) ?_; intro A5 c5 w5 ho5 hb5 hz5 hg5 how5; clear hg5 how5)
          go_roundw
          case rel => exact ⟨j + 1, A5, c5, by omega, rfl, by rw [← rep_snoc, ← List.append_assoc]; exact ho5, hb5⟩
          case measure => show 4 - (L.length + j + 1) < 4 - (L.length + j); omega
        · have hje : j = 4 - L.length := by omega
          have hlz : L.length + j = 4 := by omega
          have i1 : ¬ (((L.length : Int) + (j : Int)) < 4) := by omega
          have hll : (L ++ List.replicate j (0 : Int)).length = L.length + j := by simp
          have hbz : Byts (L ++ List.replicate j 0) := by
            intro x hx
            rw [List.mem_append] at hx
            rcases hx with hx | hx
            · exact HY1.out x hx
            · rw [List.eq_of_mem_replicate hx]; decide
          have HG := Lib.hid (rget_any A4 (L ++ List.replicate j 0) c4 0 4 o wr HO4.out.sl'.2 (by rw [hll]; omega) hbz)
          rw [hll] at HG
          rw [← hje] at HEN
          rw [← HEN.out] at HG
          have HXr := Lib.hid ((HB4.out.block _ (by have := row_lt HX3.out; omega)).trans HX3.out)
          have HRr := Lib.hid ((HB4.out.block _ (by have := row_lt HX3.out; omega)).trans HR3.out)
          have HBr := Lib.hid (HB3.out.trans (HB4.out.mono (by omega)))
          clear hll hbz hlz hje HX3 HR3 HB3
          go_wp2_with fail
          refine HG.out.mono ?_
          rintro e w6 ⟨rfl, hb6⟩
          have HX6 := Lib.hid ((hb6.block _ (row_lt HXr.out)).trans HXr.out)
          have HR6 := Lib.hid ((hb6.block _ (row_lt HRr.out)).trans HRr.out)
          have HB6 := Lib.hid (HBr.out.trans (hb6.mono HBr.out.size))
          clear hb6 HXr HRr HBr HG
          have k0 := row_cell (v := .int .i64 t) HX6.out 0 rfl
          have k1 := row_cell (v := .int .i64 c) HX6.out 1 rfl
          obtain ⟨EN, hEN⟩ : ∃ x, x = eN t c l o := ⟨_, rfl⟩
          rw [← hEN]
          have HENQ := Lib.hid hEN
          clear hEN
          go_wp2_with ((with_reducible refine wpl_store_row rtE ?_ (.tmp 6) (.tmp 60) ?_ (w.heap.size + 1) ?_ (erow tag t c EN) ?_ (erow_one _ _ _ _) 26 ?_ _ ?_ HR6.out ?_); rfl; rfl; rfl; rfl; rfl; rfl; intro w7 hr7 hg7 hs7; (try simp only [Act.put]))
          rw [HE.out, ← HENQ.out]
          exact bodyPost_ret (res_row_tmp rtE rfl _ _ (w.heap.size + 1) 26 (erow tag t c EN) rfl (.bool true) rfl rfl hr7) rfl ⟨rfl, HB6.out.grown hg7 HB6.out.size (fun k hk => by have e' : w.heap.size + 1 = k := Option.some.inj hk; omega)⟩
end Go.Proofs.Ythjmnahmejagmaa
