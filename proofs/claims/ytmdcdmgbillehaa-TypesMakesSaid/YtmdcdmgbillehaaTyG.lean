/- The contract of Of: the value in bytes. -/
import Derived.Test.YtmdcdmgbillehaaTyF
namespace Go.Proofs.Ytmdcdmgbillehaa
open Go.RowKit
open Go.Tin
set_option linter.unusedVariables false
set_option linter.unusedSimpArgs false


theorem turn_byts {l : List Int} (h : Byts l) (s o : Int) : Byts (turnL l s o) := by
  unfold turnL
  split
  · intro x hx
    obtain ⟨i, _, rfl⟩ := List.mem_map.1 hx
    exact h.nth _
  · intro x hx
    simp at hx
theorem turn_le (l : List Int) (s o : Int) : (turnL l s o).length ≤ l.length := by
  unfold turnL
  split
  · simp
  · simp
theorem ofB_f {k c : Int} {l : List Int} {o : Int} (h : szT k = 0 ∨ c < 1 ∨ 65536 < c ∨ (l.length : Int) < c * szT k) : ofB k c l o = false ∧ ofL k c l o = [] ∧ on (ofB k c l o) k = 0 ∧ on (ofB k c l o) c = 0 := by
  have hb : ofB k c l o = false := by
    unfold ofB
    rcases h with h | h | h | h
    · rw [decide_eq_false (by simp [h])]; rfl
    · rw [decide_eq_false (show ¬ 1 ≤ c by omega)]; simp
    · rw [decide_eq_false (show ¬ c ≤ 65536 by omega)]; simp
    · rw [decide_eq_false (show ¬ c * szT k ≤ (l.length : Int) by omega)]; simp
  refine ⟨hb, ?_, ?_, ?_⟩
  · unfold ofL; rw [hb]; rfl
  · rw [hb]; rfl
  · rw [hb]; rfl
theorem ofB_m {k c : Int} {l : List Int} {o : Int} (h1 : ¬ szT k = 0) (h2 : ¬ c < 1) (h3 : ¬ 65536 < c) (h4 : ¬ (l.length : Int) < c * szT k) : ofB k c l o = mayV k c (turnL (l.take (c * szT k).toNat) (prT k) o) := by
  unfold ofB
  rw [decide_eq_true (show szT k ≠ 0 from h1), decide_eq_true (show 1 ≤ c by omega), decide_eq_true (show c ≤ 65536 by omega), decide_eq_true (show c * szT k ≤ (l.length : Int) by omega)]
  simp
/-- The row of a value. -/
abbrev vrow (k c : Int) (A : Option Addr) (n cap : Nat) : Array Value := #[.int .i64 k, .int .i64 c, .slice A n cap]
theorem vrow_one (k c : Int) (A : Option Addr) (n cap : Nat) : (vrow k c A n cap).all (·.oneCell') = true := by simp [Value.oneCell']
set_option maxRecDepth 100000 in
set_option maxHeartbeats 8000000 in
theorem vof_any (k c : Int) (A : Option Addr) (l : List Int) (cap : Nat) (o : Int) (w : World) (hs : Sl .u8 w A l) (hl : l.length ≤ 1000000000) (hcap : l.length ≤ cap) (hby : Byts l) :
    Calls Try.prog 19 #[.int .i64 k, .int .i64 c, .slice A l.length cap, .int .i64 o] w fun e w' => ∃ A' c', e = .returned (.tuple #[.agg (vrow (on (ofB k c l o) k) (on (ofB k c l o) c) A' (ofL k c l o).length c'), .bool (ofB k c l o)]) ∧ Own .u8 5 w' w.heap.size (.slice A' (ofL k c l o).length c') (ofL k c l o) ∧ Below w.heap.size w w' := by
  have HBX := Lib.hid (ba (brefl w) (.cells (vrow 0 0 none 0 0) 27))
  have HRX := Lib.hid (heap_alloc_new w (.cells (vrow 0 0 none 0 0) 27))
  have HS := Lib.hid hs
  have HBY := Lib.hid hby
  have HF := Lib.hid (fun h => ofB_f (k := k) (c := c) (l := l) (o := o) h)
  clear hs hby
  go_enter Try.func19, Try.ntmps19
  go_wp2_with fail
  refine (of_any k _).mono ?_
  rintro e w1 ⟨rfl, hb⟩
  have HR1 := Lib.hid ((hb.block _ (row_lt HRX.out)).trans HRX.out)
  have HB1 := Lib.hid (HBX.out.trans (hb.mono HBX.out.size))
  clear hb HBX HRX
  have hlt : w.heap.size < w1.heap.size := row_lt HR1.out
  have HB2 := Lib.hid (ba HB1.out (.cells #[.int .i64 (szT k), .int .i64 (prT k), .int .i64 (isT k)] 58))
  have HR2 := Lib.hid (show (w1.alloc (.cells #[.int .i64 (szT k), .int .i64 (prT k), .int .i64 (isT k)] 58)).heap[w.heap.size]? = some (.cells (vrow 0 0 none 0 0) 27 (0, 0)) by rw [Below.heap_alloc _ _ _ hlt]; exact HR1.out)
  have HK2 := Lib.hid (heap_alloc_new w1 (.cells #[.int .i64 (szT k), .int .i64 (prT k), .int .i64 (isT k)] 58))
  by_cases h1 : szT k = 0
  · have d1 : (szT k == 0) = true := by simpa using h1
    have HK := Lib.hid (HF.out (.inl h1))
    clear h1
    go_wp2_with ((with_reducible refine wpl_store_row rtV ?_ (.tmp 8) (.tmp 34) ?_ (w.heap.size) ?_ (vrow 0 0 none 0 0) ?_ (vrow_one _ _ _ _ _) 27 ?_ _ ?_ HR2.out ?_); rfl; rfl; rfl; rfl; rfl; rfl; intro w7 hr7 hg7 hs7; (try simp only [Act.put]))
    rw [HK.out.2.2.1, HK.out.2.2.2, HK.out.2.1, HK.out.1]
    exact bodyPost_ret (res_row_tmp rtV rfl _ _ w.heap.size 27 (vrow 0 0 none 0 0) rfl (.bool false) rfl rfl hr7) rfl ⟨none, 0, rfl, Own.nil_ _ _ _ _, HB2.out.grown hg7 HB2.out.size (fun k hk => by cases hk; exact Nat.le_refl _)⟩

  have d1 : (szT k == 0) = false := by simpa using h1
  by_cases h2 : c < 1
  · have d2 : decide (c < 1) = true := by simpa using h2
    have HK := Lib.hid (HF.out (.inr (.inl h2)))
    clear h1 h2
    go_wp2_with ((with_reducible refine wpl_store_row rtV ?_ (.tmp 8) (.tmp 34) ?_ (w.heap.size) ?_ (vrow 0 0 none 0 0) ?_ (vrow_one _ _ _ _ _) 27 ?_ _ ?_ HR2.out ?_); rfl; rfl; rfl; rfl; rfl; rfl; intro w7 hr7 hg7 hs7; (try simp only [Act.put]))
    rw [HK.out.2.2.1, HK.out.2.2.2, HK.out.2.1, HK.out.1]
    exact bodyPost_ret (res_row_tmp rtV rfl _ _ w.heap.size 27 (vrow 0 0 none 0 0) rfl (.bool false) rfl rfl hr7) rfl ⟨none, 0, rfl, Own.nil_ _ _ _ _, HB2.out.grown hg7 HB2.out.size (fun k hk => by cases hk; exact Nat.le_refl _)⟩

  have d2 : decide (c < 1) = false := by simpa using h2
  by_cases h3 : 65536 < c
  · have d3 : decide (65536 < c) = true := by simpa using h3
    have HK := Lib.hid (HF.out (.inr (.inr (.inl h3))))
    clear h1 h2 h3
    go_wp2_with ((with_reducible refine wpl_store_row rtV ?_ (.tmp 8) (.tmp 34) ?_ (w.heap.size) ?_ (vrow 0 0 none 0 0) ?_ (vrow_one _ _ _ _ _) 27 ?_ _ ?_ HR2.out ?_); rfl; rfl; rfl; rfl; rfl; rfl; intro w7 hr7 hg7 hs7; (try simp only [Act.put]))
    rw [HK.out.2.2.1, HK.out.2.2.2, HK.out.2.1, HK.out.1]
    exact bodyPost_ret (res_row_tmp rtV rfl _ _ w.heap.size 27 (vrow 0 0 none 0 0) rfl (.bool false) rfl rfl hr7) rfl ⟨none, 0, rfl, Own.nil_ _ _ _ _, HB2.out.grown hg7 HB2.out.size (fun k hk => by cases hk; exact Nat.le_refl _)⟩

  have d3 : decide (65536 < c) = false := by simpa using h3
  have HP := Lib.hid (show 0 ≤ c * szT k ∧ c * szT k ≤ 1000000 by
    rcases szT_cases k with ⟨h, _⟩ | ⟨_, _, h | h | h | h⟩ <;> rw [h] <;> omega)
  have p0 := HP.out.1
  have p1 := HP.out.2
  by_cases h4 : (l.length : Int) < c * szT k
  · have d4 : decide ((l.length : Int) < c * szT k) = true := by simpa using h4
    have HK := Lib.hid (HF.out (.inr (.inr (.inr h4))))
    clear h1 h2 h3 h4
    go_wp2_with ((with_reducible refine wpl_store_row rtV ?_ (.tmp 8) (.tmp 34) ?_ (w.heap.size) ?_ (vrow 0 0 none 0 0) ?_ (vrow_one _ _ _ _ _) 27 ?_ _ ?_ HR2.out ?_); rfl; rfl; rfl; rfl; rfl; rfl; intro w7 hr7 hg7 hs7; (try simp only [Act.put]))
    rw [HK.out.2.2.1, HK.out.2.2.2, HK.out.2.1, HK.out.1]
    exact bodyPost_ret (res_row_tmp rtV rfl _ _ w.heap.size 27 (vrow 0 0 none 0 0) rfl (.bool false) rfl rfl hr7) rfl ⟨none, 0, rfl, Own.nil_ _ _ _ _, HB2.out.grown hg7 HB2.out.size (fun k hk => by cases hk; exact Nat.le_refl _)⟩

  have d4 : decide ((l.length : Int) < c * szT k) = false := by simpa using h4
  have HK := Lib.hid (ofB_m (o := o) h1 h2 h3 h4)
  obtain ⟨m, hm⟩ := Int.eq_ofNat_of_zero_le p0
  have hml : m ≤ l.length := by omega
  have hmc : (m : Int) ≤ (cap : Int) := by omega
  have HLN := Lib.hid (show (l.take m).length = m by rw [List.length_take]; omega)
  have HT := Lib.hid (fun W (h : Sl .u8 W A (l.take m)) => turn_any A (l.take m) cap (prT k) o W h (by rw [HLN.out]; omega))
  rw [HLN.out] at HT
  rw [hm, Int.toNat_natCast] at HK
  have HM0 := Lib.hid hm
  clear h1 h2 h3 h4
  go_wp2_with fail
  have hG : w1.heap.size < (w1.alloc (.cells #[.int .i64 (szT k), .int .i64 (prT k), .int .i64 (isT k)] 58)).heap.size := by simp
  generalize (w1.alloc (.cells #[.int .i64 (szT k), .int .i64 (prT k), .int .i64 (isT k)] 58)) = W at *
  have hg0 : w.heap.size < W.heap.size := row_lt HR2.out
  have kb0 : ∀ p : Bel W.heap.size W.drew, p.w'.cell? ⟨w1.heap.size, 0, none⟩ = some (.int .i64 (szT k)) := fun p => row_cell (((ud p.h).block _ hG).trans HK2.out) 0 rfl
  have kb1 : ∀ p : Bel W.heap.size W.drew, p.w'.cell? ⟨w1.heap.size, 1, none⟩ = some (.int .i64 (prT k)) := fun p => row_cell (((ud p.h).block _ hG).trans HK2.out) 1 rfl
  have HBD := Lib.hid (ud' HB2.out)
  have HRD := Lib.hid (show W.drew.heap[w.heap.size]? = some (.cells (vrow 0 0 none 0 0) 27 (0, 0)) from HR2.out)
  have HSD := Lib.hid ((HS.out.take m).keep HBD.out)
  have HBT := Lib.hid (turn_byts (HBY.out.take m) (prT k) o)
  have HLE := Lib.hid (Nat.le_trans (turn_le (l.take m) (prT k) o) (by rw [HLN.out]; exact Nat.le_trans hml hl))
  have HOL := Lib.hid (show ofL k c l o = (if ofB k c l o then turnL (l.take m) (prT k) o else []) by unfold ofL; rw [HM0.out, Int.toNat_natCast])
  generalize turnL (l.take m) (prT k) o = R at *
  refine Tin.reg_begin W.heap.size 15 (by rfl) (by kernel_rfl) ?_
  refine Tin.reg_quiets [0, 1, 2, 3, 4, 5, 6, 7, 8, 9, 10] _ 4 rfl (by simp only [Tin.pick, List.map_cons, List.map_nil, Array.getD_eq_getD_getElem?, List.getElem?_toArray, List.getElem?_cons_zero, List.getElem?_cons_succ, Option.getD_some]; rfl) (by kernel_rfl) (by kernel_rfl) ?_
  repeat (first | go_big_quiet_step (fail))
  refine wpQuiet_nil ?_
  refine Tin.reg_two 11 13 _ _ rfl rfl (by kernel_rfl) ?_ ?_
  · try simp only [List.getElem_toArray, List.getElem_cons_succ, List.getElem_cons_zero]
    go_wp2_with fail
    refine (HT.out _ HSD.out).mono ?_
    rintro e w3 ⟨A3, c3, rfl, ho3, hb3⟩
    go_wp2_with fail
    refine ⟨W.heap.size, hb3, Nat.le_refl _, ?_⟩
    have HO3 := Lib.hid (show Own .u8 5 w3 W.heap.size (.slice A3 R.length c3) R from ho3)
    have HB3 := Lib.hid (HBD.out.trans (hb3.mono HBD.out.size))
    have HR3 := Lib.hid ((hb3.block _ (row_lt HRD.out)).trans HRD.out)
    have hW3 : W.heap.size ≤ w3.heap.size := hb3.size
    clear ho3 hb3
    refine Tin.reg_quiets [12] _ 2 rfl (by simp only [Tin.pick, List.map_cons, List.map_nil, Array.getD_eq_getD_getElem?, List.getElem?_toArray, List.getElem?_cons_zero, List.getElem?_cons_succ, Option.getD_some]; rfl) (by kernel_rfl) (by kernel_rfl) ?_
    repeat (first | go_big_quiet_step (fail))
    refine wpQuiet_nil ?_
    refine Tin.reg_one 13 _ rfl (by kernel_rfl) ?_
    try simp only [List.getElem_toArray, List.getElem_cons_succ, List.getElem_cons_zero]
    go_wp2_with fail
    refine ⟨W.heap.size, (ba (brefl w3) _).mono hW3, Nat.le_refl _, ?_⟩
    refine Tin.reg_one 14 _ rfl (by kernel_rfl) ?_
    try simp only [List.getElem_toArray, List.getElem_cons_succ, List.getElem_cons_zero]
    refine wpl_store_row rtV rfl (.tmp 11) (.tmp 47) rfl w3.heap.size rfl (vrow k c A3 R.length c3) rfl (vrow_one _ _ _ _ _) 27 rfl _ rfl (heap_alloc_new w3 _) ?_
    intro w4 hr4 hg4 hs4
    try simp only [Act.put]
    refine ⟨W.heap.size, (Below.refl W.heap.size (w3.alloc (.cells (vrow 0 0 none 0 0) 27))).grown hg4 (by simp; omega) (fun q hq => by cases hq; exact hW3), Nat.le_refl _, ?_⟩
    refine Tin.reg_done (by kernel_rfl) ?_
    have HO4 := Lib.hid ((HO3.out.alloc (.cells (vrow 0 0 none 0 0) 27)).kept hg4 (by
      cases hq : (Value.slice A3 R.length c3).ownBlock with
      | none => exact .inl rfl
      | some q => exact .inr (fun e => by have h1 := (World.ownsRow.lt HO3.out q hq).2; have e' : q = w3.heap.size := Option.some.inj e; omega)))
    have HB4 := Lib.hid ((ba HB3.out (.cells (vrow 0 0 none 0 0) 27)).grown hg4 (by have := HB3.out.size; simp; omega) (fun q hq => by have e' : w3.heap.size = q := Option.some.inj hq; have := HB3.out.size; omega))
    have R3a : (w3.alloc (.cells (vrow 0 0 none 0 0) 27)).heap[w.heap.size]? = some (.cells (vrow 0 0 none 0 0) 27 (0, 0)) := by rw [Below.heap_alloc _ _ _ (by omega)]; exact HR3.out
    have HR4 := Lib.hid ((hg4.block w.heap.size (row_lt R3a) (fun e => by have e' : w.heap.size = w3.heap.size := Option.some.inj e; omega)).trans R3a)
    clear R3a
    have HV4 := Lib.hid hr4
    clear hr4 hg4 hs4 kb0 kb1 hm d1 d2 d3 d4 p0 p1
    obtain ⟨X, hX⟩ : ∃ X, X = w3.heap.size := ⟨_, rfl⟩
    rw [← hX] at HV4 ⊢
    have HX0 := Lib.hid (show w.heap.size ≠ X by omega)
    clear hX
    go_wp2_with ((with_reducible refine wpl_load_row rtV ?_ (.tmp 11) ?_ X ?_ 27 (vrow k c A3 R.length c3) ?_ HV4.out ?_); rfl; rfl; rfl; rfl; simp only [Act.put, List.setIfInBounds_toArray, List.set_cons_succ, List.set_cons_zero])
    refine (vmay_any k c A3 R c3 w4 HO4.out.sl'.2 HLE.out HBT.out).mono ?_
    rintro e w5 ⟨rfl, hb5⟩
    have HV5 := Lib.hid ((hb5.block _ (row_lt HV4.out)).trans HV4.out)
    have HR5 := Lib.hid ((hb5.block _ (row_lt HR4.out)).trans HR4.out)
    have HB5 := Lib.hid (HB4.out.trans (hb5.mono HB4.out.size))
    have HO5 := Lib.hid (HO4.out.keep hb5)
    clear hb5 HV4 HR4 HB4 HO4
    cases hmv : mayV k c R with
    | false =>
      have hk := HK.out.trans hmv
      rw [hk] at HOL
      have HBK := Lib.hid hk
      clear hk hmv
      go_wp2_with ((with_reducible refine wpl_store_row rtV ?_ (.tmp 8) (.tmp 51) ?_ (w.heap.size) ?_ (vrow 0 0 none 0 0) ?_ (vrow_one _ _ _ _ _) 27 ?_ _ ?_ HR5.out ?_); rfl; rfl; rfl; rfl; rfl; rfl; intro w7 hr7 hg7 hs7; (try simp only [Act.put]))
      rw [HOL.out, HBK.out]
      exact bodyPost_ret (res_row_tmp rtV rfl _ _ w.heap.size 27 (vrow 0 0 none 0 0) rfl (.bool false) rfl rfl hr7) rfl ⟨none, 0, rfl, Own.nil_ _ _ _ _, HB5.out.grown hg7 HB5.out.size (fun k hk => by cases hk; exact Nat.le_refl _)⟩
    | true =>
      have hk := HK.out.trans hmv
      rw [hk] at HOL
      have HBK := Lib.hid hk
      clear hk hmv
      go_wp2_with (first | ((with_reducible refine wpl_load_row rtV ?_ (.tmp 11) ?_ X ?_ 27 (vrow k c A3 R.length c3) ?_ HV5.out ?_); rfl; rfl; rfl; rfl; simp only [Act.put, List.setIfInBounds_toArray, List.set_cons_succ, List.set_cons_zero]) | ((with_reducible refine wpl_store_row rtV ?_ (.tmp 8) (.tmp 52) ?_ (w.heap.size) ?_ (vrow k c A3 R.length c3) ?_ (vrow_one _ _ _ _ _) 27 ?_ _ ?_ HR5.out ?_); rfl; rfl; rfl; rfl; rfl; rfl; intro w7 hr7 hg7 hs7; (try simp only [Act.put])))
      rw [HOL.out, HBK.out]
      exact bodyPost_ret (res_row_tmp rtV rfl _ _ w.heap.size 27 (vrow k c A3 R.length c3) rfl (.bool true) rfl rfl hr7) rfl ⟨A3, c3, rfl, (HO5.out.mono (Nat.le_of_lt hg0)).kept hg7 (by
        cases hq : (Value.slice A3 R.length c3).ownBlock with
        | none => exact .inl rfl
        | some q => exact .inr (fun e => by have h1 := (World.ownsRow.lt HO5.out q hq).1; have e' : q = w.heap.size := Option.some.inj e; omega)), HB5.out.grown hg7 HB5.out.size (fun k hk => by cases hk; exact Nat.le_refl _)⟩

  · try simp only [List.getElem_toArray, List.getElem_cons_succ, List.getElem_cons_zero]
    go_wp2_with fail
    refine ⟨W.heap.size, ba (brefl W.drew) _, Nat.le_refl _, ?_⟩
    have HX2 := Lib.hid (show (W.alloc (.cells (vrow 0 0 none 0 0) 27)).drew.heap[W.heap.size]? = some (.cells (vrow 0 0 none 0 0) 27 (0, 0)) from heap_alloc_new W _)
    have HRE := Lib.hid (show (W.alloc (.cells (vrow 0 0 none 0 0) 27)).drew.heap[w.heap.size]? = some (.cells (vrow 0 0 none 0 0) 27 (0, 0)) by show (W.alloc (.cells (vrow 0 0 none 0 0) 27)).heap[w.heap.size]? = _; rw [Below.heap_alloc _ _ _ hg0]; exact HRD.out)
    have HBE := Lib.hid (ud' (ba HB2.out (.cells (vrow 0 0 none 0 0) 27)))
    have HSE := Lib.hid ((HS.out.take m).keep HBE.out)
    have hsz : (W.alloc (.cells (vrow 0 0 none 0 0) 27)).drew.heap.size = W.heap.size + 1 := by show (W.alloc (.cells (vrow 0 0 none 0 0) 27)).heap.size = _; simp
    generalize (W.alloc (.cells (vrow 0 0 none 0 0) 27)).drew = V at *
    refine Tin.reg_one 11 _ rfl (by kernel_rfl) ?_
    try simp only [List.getElem_toArray, List.getElem_cons_succ, List.getElem_cons_zero]
    go_wp2_with fail
    refine (HT.out _ HSE.out).mono ?_
    rintro e w3 ⟨A3, c3, rfl, ho3, hb3⟩
    go_wp2_with fail
    refine ⟨W.heap.size, hb3.mono (by omega), Nat.le_refl _, ?_⟩
    have HO3 := Lib.hid ho3
    have HB3 := Lib.hid (HBE.out.trans (hb3.mono HBE.out.size))
    have HR3 := Lib.hid ((hb3.block _ (row_lt HRE.out)).trans HRE.out)
    have HX3 := Lib.hid ((hb3.block _ (row_lt HX2.out)).trans HX2.out)
    have hW3 : W.heap.size + 1 ≤ w3.heap.size := by rw [← hsz]; exact hb3.size
    clear hb3
    refine Tin.reg_quiets [12] _ 1 rfl (by simp only [Tin.pick, List.map_cons, List.map_nil, Array.getD_eq_getD_getElem?, List.getElem?_toArray, List.getElem?_cons_zero, List.getElem?_cons_succ, Option.getD_some]; rfl) (by kernel_rfl) (by kernel_rfl) ?_
    repeat (first | go_big_quiet_step (fail))
    refine wpQuiet_nil ?_
    refine Tin.reg_one 14 _ rfl (by kernel_rfl) ?_
    try simp only [List.getElem_toArray, List.getElem_cons_succ, List.getElem_cons_zero]
    refine wpl_store_row rtV rfl (.tmp 11) (.tmp 47) rfl W.heap.size rfl (vrow k c A3 R.length c3) rfl (vrow_one _ _ _ _ _) 27 rfl _ rfl HX3.out ?_
    intro w4 hr4 hg4 hs4
    try simp only [Act.put]
    refine ⟨W.heap.size, (Below.refl W.heap.size w3).grown hg4 (by omega) (fun q hq => by cases hq; exact Nat.le_refl _), Nat.le_refl _, ?_⟩
    refine Tin.reg_done (by kernel_rfl) ?_
    have HO4 := Lib.hid (HO3.out.kept hg4 (by
      cases hq : (Value.slice A3 R.length c3).ownBlock with
      | none => exact .inl rfl
      | some q => exact .inr (fun e => by have h1 := (World.ownsRow.lt ho3 q hq).1; have e' : q = W.heap.size := Option.some.inj e; omega)))
    replace HO4 := Lib.hid (HO4.out.mono (show W.heap.size ≤ V.heap.size by omega))
    have HB4 := Lib.hid (HB3.out.grown hg4 HB3.out.size (fun q hq => by have e' : W.heap.size = q := Option.some.inj hq; omega))
    have HR4 := Lib.hid ((hg4.block w.heap.size (row_lt HR3.out) (fun e => by have e' : w.heap.size = W.heap.size := Option.some.inj e; omega)).trans HR3.out)
    have HV4 := Lib.hid hr4
    clear hr4 hg4 hs4 kb0 kb1 hm d1 d2 d3 d4 p0 p1 ho3
    obtain ⟨X, hX⟩ : ∃ X, X = W.heap.size := ⟨_, rfl⟩
    rw [← hX] at HV4 ⊢
    have HX0 := Lib.hid (show w.heap.size ≠ X by omega)
    rw [hX] at HV4 HX0 ⊢
    clear hX
    obtain ⟨X, hX⟩ : ∃ X, X = W.heap.size := ⟨_, rfl⟩
    rw [← hX] at HV4 ⊢
    rw [← hX] at HX0
    clear hX
    go_wp2_with ((with_reducible refine wpl_load_row rtV ?_ (.tmp 11) ?_ X ?_ 27 (vrow k c A3 R.length c3) ?_ HV4.out ?_); rfl; rfl; rfl; rfl; simp only [Act.put, List.setIfInBounds_toArray, List.set_cons_succ, List.set_cons_zero])
    refine (vmay_any k c A3 R c3 w4 HO4.out.sl'.2 HLE.out HBT.out).mono ?_
    rintro e w5 ⟨rfl, hb5⟩
    have HV5 := Lib.hid ((hb5.block _ (row_lt HV4.out)).trans HV4.out)
    have HR5 := Lib.hid ((hb5.block _ (row_lt HR4.out)).trans HR4.out)
    have HB5 := Lib.hid (HB4.out.trans (hb5.mono HB4.out.size))
    have HO5 := Lib.hid (HO4.out.keep hb5)
    clear hb5 HV4 HR4 HB4 HO4
    cases hmv : mayV k c R with
    | false =>
      have hk := HK.out.trans hmv
      rw [hk] at HOL
      have HBK := Lib.hid hk
      clear hk hmv
      go_wp2_with ((with_reducible refine wpl_store_row rtV ?_ (.tmp 8) (.tmp 51) ?_ (w.heap.size) ?_ (vrow 0 0 none 0 0) ?_ (vrow_one _ _ _ _ _) 27 ?_ _ ?_ HR5.out ?_); rfl; rfl; rfl; rfl; rfl; rfl; intro w7 hr7 hg7 hs7; (try simp only [Act.put]))
      rw [HOL.out, HBK.out]
      exact bodyPost_ret (res_row_tmp rtV rfl _ _ w.heap.size 27 (vrow 0 0 none 0 0) rfl (.bool false) rfl rfl hr7) rfl ⟨none, 0, rfl, Own.nil_ _ _ _ _, HB5.out.grown hg7 HB5.out.size (fun k hk => by cases hk; exact Nat.le_refl _)⟩
    | true =>
      have hk := HK.out.trans hmv
      rw [hk] at HOL
      have HBK := Lib.hid hk
      clear hk hmv
      go_wp2_with (first | ((with_reducible refine wpl_load_row rtV ?_ (.tmp 11) ?_ X ?_ 27 (vrow k c A3 R.length c3) ?_ HV5.out ?_); rfl; rfl; rfl; rfl; simp only [Act.put, List.setIfInBounds_toArray, List.set_cons_succ, List.set_cons_zero]) | ((with_reducible refine wpl_store_row rtV ?_ (.tmp 8) (.tmp 52) ?_ (w.heap.size) ?_ (vrow k c A3 R.length c3) ?_ (vrow_one _ _ _ _ _) 27 ?_ _ ?_ HR5.out ?_); rfl; rfl; rfl; rfl; rfl; rfl; intro w7 hr7 hg7 hs7; (try simp only [Act.put])))
      rw [HOL.out, HBK.out]
      exact bodyPost_ret (res_row_tmp rtV rfl _ _ w.heap.size 27 (vrow k c A3 R.length c3) rfl (.bool true) rfl rfl hr7) rfl ⟨A3, c3, rfl, (HO5.out.mono (Nat.le_of_lt hg0)).kept hg7 (by
        cases hq : (Value.slice A3 R.length c3).ownBlock with
        | none => exact .inl rfl
        | some q => exact .inr (fun e => by have h1 := (World.ownsRow.lt HO5.out q hq).1; have e' : q = w.heap.size := Option.some.inj e; omega)), HB5.out.grown hg7 HB5.out.size (fun k hk => by cases hk; exact Nat.le_refl _)⟩
end Go.Proofs.Ytmdcdmgbillehaa
