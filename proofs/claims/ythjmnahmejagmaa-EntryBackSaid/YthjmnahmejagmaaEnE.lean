/- The walk of awake: the chapter's examples. -/
import Derived.Test.YthjmnahmejagmaaEnD
import Derived.Test.YthjmnahmejagmaaTyO
import Derived.Test.YthjmnahmejagmaaTyJ
namespace Go.Proofs.Ythjmnahmejagmaa
open Go.RowKit
open Go.Tin
set_option linter.unusedVariables false
set_option linter.unusedSimpArgs false


theorem on_t (n : Int) : on true n = n := rfl
theorem b12 : Byts [1, 2] := by intro x hx; simp at hx; omega
theorem ron258 : ronB 3 [258] = true ∧ ronL 3 [258] = [1, 2] := ⟨by kernel_rfl, by kernel_rfl⟩
set_option maxRecDepth 100000 in
set_option maxHeartbeats 4000000 in
theorem short_any (w : World) : Calls Try.prog 46 #[.int .i64 258] w fun e w' => ∃ A' c', e = .returned (.agg (vrow 3 1 A' 2 c')) ∧ Own .u8 5 w' w.heap.size (.slice A' 2 c') [1, 2] ∧ Below w.heap.size w w' := by
  have HQ := Lib.hid (fun (W : World) (A : Option Addr) (c : Nat) (h : Sl .i64 W A [258]) => ron_any 3 A [258] c W h (by decide))
  simp only [ron258.1, ron258.2, on_t] at HQ
  have HB := Lib.hid (ba (ba (brefl w) (.cells (vrow 0 0 none 0 0) 24)) (.cells #[.int .i64 258] 3))
  have HZ := Lib.hid (show ((w.alloc (.cells (vrow 0 0 none 0 0) 24)).alloc (.cells #[.int .i64 258] 3)).heap[w.heap.size]? = some (.cells (vrow 0 0 none 0 0) 24 (0, 0)) by rw [Below.heap_alloc _ _ _ (by simp)]; exact heap_alloc_new w _)
  have HS := Lib.hid (show Sl .i64 ((w.alloc (.cells (vrow 0 0 none 0 0) 24)).alloc (.cells #[.int .i64 258] 3)) (some ⟨w.heap.size + 1, 0, none⟩) [258] by
    have := Sl.new_ (k := .i64) (w.alloc (.cells (vrow 0 0 none 0 0) 24)) 3 #[.int .i64 258] [258] rfl
    simpa using this)
  go_enter Try.func46, Try.ntmps46
  go_wp2_with fail
  have hWs : w.heap.size < ((w.alloc (.cells (vrow 0 0 none 0 0) 24)).alloc (.cells #[.int .i64 258] 3)).heap.size := by simp; omega
  generalize ((w.alloc (.cells (vrow 0 0 none 0 0) 24)).alloc (.cells #[.int .i64 258] 3)) = W at *
  refine (HQ.out _ _ _ HS.out).mono ?_
  rintro e w1 ⟨A1, c1, rfl, ho1, hb1⟩
  have HB1 := Lib.hid (HB.out.trans (hb1.mono HB.out.size))
  have HZ1 := Lib.hid ((hb1.block _ (row_lt HZ.out)).trans HZ.out)
  have HO1 := Lib.hid ho1
  have hW : w.heap.size ≤ W.heap.size := HB.out.size
  have hW1 : w.heap.size < w1.heap.size := row_lt HZ1.out
  clear ho1 hb1 HB HZ HS
  go_wp2_with (first | ((with_reducible refine wpl_store_row rtV ?_ (.tmp 3) (.tmp 9) ?_ (w1.heap.size) ?_ (vrow 3 1 A1 2 c1) ?_ (vrow_one _ _ _ _ _) 24 ?_ _ ?_ (heap_alloc_new w1 _) ?_); rfl; rfl; rfl; rfl; rfl; rfl; intro w4 hr4 hg4 hs4; have hb4 : Below w1.heap.size w1 w4 := (ba (brefl w1) _).grown hg4 (by simp) (fun k hk => by cases hk; exact Nat.le_refl _); have HR4 := Lib.hid hr4; have HZ4 := Lib.hid ((hb4.block _ hW1).trans HZ1.out); have HB4 := Lib.hid (HB1.out.trans (hb4.mono HB1.out.size)); have HO4 := Lib.hid (HO1.out.keep hb4); clear hr4 hg4 hs4 hb4; (try simp only [Act.put])) | ((with_reducible refine wpl_load_row rtV ?_ (.tmp 3) ?_ (w1.heap.size) ?_ 24 (vrow 3 1 A1 2 c1) ?_ HR4.out ?_); rfl; rfl; rfl; rfl; simp only [Act.put, List.setIfInBounds_toArray, List.set_cons_succ, List.set_cons_zero]) | ((with_reducible refine wpl_store_row rtV ?_ (.tmp 2) (.tmp 11) ?_ (w.heap.size) ?_ (vrow 3 1 A1 2 c1) ?_ (vrow_one _ _ _ _ _) 24 ?_ _ ?_ HZ4.out ?_); rfl; rfl; rfl; rfl; rfl; rfl; intro w7 hr7 hg7 hs7; (try simp only [Act.put])))
  exact bodyPost_ret (res_row rtV rfl _ _ w.heap.size 24 (vrow 3 1 A1 2 c1) rfl rfl hr7) rfl ⟨A1, c1, rfl, (HO4.out.mono hW).kept hg7 (by
    cases hq : (Value.slice A1 2 c1).ownBlock with
    | none => exact .inl rfl
    | some q => exact .inr (fun e => by have h1 := (World.ownsRow.lt HO4.out q hq).1; have e' : q = w.heap.size := Option.some.inj e; omega)), HB4.out.grown hg7 HB4.out.size (fun k hk => by cases hk; exact Nat.le_refl _)⟩
set_option maxRecDepth 100000 in
set_option maxHeartbeats 4000000 in
theorem laid_any (o S : Int) (A : Option Addr) (L : List Int) (cap : Nat) (w : World) (hs : Sl .u8 w A L) (hL : L.length ≤ 100) (h1 : eB 256 3 1 [1, 2] o = true) (h2 : eN 3 1 [1, 2] o = S) (h3 : ewB 256 3 1 S o = true) (h4 : ewL 256 3 1 S o = L) :
    Calls Try.prog 27 #[.int .i64 o, .int .i64 S, .slice A L.length cap] w fun e w' => e = .returned (.bool true) ∧ Below w.heap.size w w' := by
  have HS := Lib.hid hs
  have HT := Lib.hid (fun (W : World) (A : Option Addr) (c : Nat) (h : Sl .u8 W A [1, 2]) => eof_any 256 3 1 A [1, 2] c o W h (by decide) b12)
  simp only [h1, h2, on_t] at HT
  have HW := Lib.hid (fun W => ewr_any 256 3 1 S o W)
  rw [h4, h3] at HW
  clear hs h1 h2 h3 h4
  go_enter Try.func27, Try.ntmps27
  go_wp2_with fail
  refine (short_any w).mono ?_
  rintro e w1 ⟨A1, c1, rfl, ho1, hb1⟩
  have HO1 := Lib.hid ho1
  have HB1 := Lib.hid hb1
  have HS1 := Lib.hid (HS.out.keep hb1)
  clear ho1 hb1
  go_wp2_with fail
  refine (HT.out _ _ _ HO1.out.sl'.2).mono ?_
  rintro e w2 ⟨rfl, hb2⟩
  have HB2 := Lib.hid (HB1.out.trans (hb2.mono HB1.out.size))
  have HS2 := Lib.hid (HS1.out.keep hb2)
  clear hb2 HO1 HT HB1 HS1
  go_wp2_with (first | ((with_reducible refine wpl_store_row rtE ?_ (.tmp 7) (.tmp 15) ?_ (w2.heap.size) ?_ (erow 256 3 1 S) ?_ (erow_one _ _ _ _) 26 ?_ _ ?_ (heap_alloc_new w2 _) ?_); rfl; rfl; rfl; rfl; rfl; rfl; intro w4 hr4 hg4 hs4; have hb4 : Below w2.heap.size w2 w4 := (ba (brefl w2) _).grown hg4 (by simp) (fun k hk => by cases hk; exact Nat.le_refl _); have HR4 := Lib.hid hr4; have HB4 := Lib.hid (HB2.out.trans (hb4.mono HB2.out.size)); have HS4 := Lib.hid (HS2.out.keep hb4); clear hr4 hg4 hs4 hb4; (try simp only [Act.put])) | ((with_reducible refine wpl_load_row rtE ?_ (.tmp 7) ?_ (w2.heap.size) ?_ 26 (erow 256 3 1 S) ?_ HR4.out ?_); rfl; rfl; rfl; rfl; simp only [Act.put, List.setIfInBounds_toArray, List.set_cons_succ, List.set_cons_zero]))
  refine (HW.out _).mono ?_
  rintro e w5 ⟨A5, c5, rfl, ho5, hb5⟩
  have HR5 := Lib.hid ((hb5.block _ (row_lt HR4.out)).trans HR4.out)
  have HB5 := Lib.hid (HB4.out.trans (hb5.mono HB4.out.size))
  have HS5 := Lib.hid (HS4.out.keep hb5)
  have HO5 := Lib.hid ho5
  clear ho5 hb5
  have k3 := row_cell (v := .int .i64 S) HR5.out 3 rfl
  have ss : (S == S) = true := by simp
  go_wp2_with fail
  refine (same_any A5 A L L c5 cap w5 HO5.out.sl'.2 HS5.out (by omega) (by omega)).mono ?_
  rintro e w6 ⟨rfl, hb6⟩
  have dd : decide (L = L) = true := by simp
  rw [dd]
  go_wp2_with fail
  go_ret
  exact ⟨rfl, HB5.out.trans (hb6.mono HB5.out.size)⟩
theorem aw_v : evB 1 1 513 1 = true ∧ evL 1 1 513 1 = [1] ∧ evC 1 1 513 1 = false := ⟨by kernel_rfl, by kernel_rfl, by kernel_rfl⟩
theorem aw_s : smV 1 1 [1] 1 1 [1] = true := by kernel_rfl
theorem aw_e : inE 5 1 = false ∧ ouE 3 3 = 6 ∧ ouE 1 4 = 0 ∧ inE 1 4 = true := ⟨by kernel_rfl, by kernel_rfl, by kernel_rfl, by kernel_rfl⟩
set_option maxRecDepth 100000 in
set_option maxHeartbeats 4000000 in
theorem awake_any (w : World) : Calls Try.prog 7 #[] w fun e w' => e = .returned (.bool true) ∧ Below w.heap.size w w' := by
  have HV := Lib.hid (eval_any 256 1 1 513 1 w)
  rw [aw_v.1, aw_v.2.1, aw_v.2.2] at HV
  have H1 := Lib.hid (fun (W : World) (A : Option Addr) (c : Nat) (h : Sl .u8 W A [0,1,3,0,1,0,0,0,2,1,0,0]) => laid_any 1 258 A [0,1,3,0,1,0,0,0,2,1,0,0] c W h (by decide) (by kernel_rfl) (by kernel_rfl) (by kernel_rfl) (by kernel_rfl))
  have H2 := Lib.hid (fun (W : World) (A : Option Addr) (c : Nat) (h : Sl .u8 W A [1,0,0,3,0,0,0,1,1,2,0,0]) => laid_any 2 16908288 A [1,0,0,3,0,0,0,1,1,2,0,0] c W h (by decide) (by kernel_rfl) (by kernel_rfl) (by kernel_rfl) (by kernel_rfl))
  have H3 := Lib.hid (fun W => inl_any 5 1 W)
  have H4 := Lib.hid (fun W => out_any 3 3 W)
  have H5 := Lib.hid (fun W => out_any 1 4 W)
  have H6 := Lib.hid (fun W => inl_any 1 4 W)
  rw [aw_e.1] at H3
  rw [aw_e.2.1] at H4
  rw [aw_e.2.2.1] at H5
  rw [aw_e.2.2.2] at H6
  go_enter Try.func7, Try.ntmps7
  go_wp2_with fail
  refine HV.out.mono ?_
  rintro e w1 ⟨A1, c1, rfl, ho1, hb1⟩
  have HO1 := Lib.hid ho1
  have HB1 := Lib.hid hb1
  clear ho1 hb1 HV
  have e1 : on true 1 = 1 := rfl
  rw [e1]
  clear e1
  go_wp2_with ((with_reducible refine wpl_store_row rtV ?_ (.tmp 1) (.tmp 7) ?_ (w1.heap.size) ?_ (vrow 1 1 A1 1 c1) ?_ (vrow_one _ _ _ _ _) 24 ?_ _ ?_ (heap_alloc_new w1 _) ?_); rfl; rfl; rfl; rfl; rfl; rfl; intro w2 hr2 hg2 hs2; have hb2 : Below w1.heap.size w1 w2 := (ba (brefl w1) _).grown hg2 (by simp) (fun k hk => by cases hk; exact Nat.le_refl _); have HR2 := Lib.hid hr2; have HB2 := Lib.hid (HB1.out.trans (hb2.mono HB1.out.size)); have HO2 := Lib.hid (HO1.out.keep hb2); clear hr2 hg2 hs2 hb2; (try simp only [Act.put]))
  obtain ⟨g1, hg1⟩ : ∃ g, g = w1.heap.size := ⟨_, rfl⟩
  rw [← hg1] at HR2 ⊢
  clear hg1
  refine (H1.out _ _ _ (Sl.new_ w2 _ _ _ rfl)).mono ?_
  rintro e w3 ⟨rfl, hb3⟩
  have hb3' : Below w2.heap.size w2 w3 := (ba (brefl w2) _).trans (hb3.mono (by simp))
  have HR3 := Lib.hid ((hb3'.block _ (row_lt HR2.out)).trans HR2.out)
  have HB3 := Lib.hid (HB2.out.trans (hb3'.mono HB2.out.size))
  have HO3 := Lib.hid (HO2.out.keep hb3')
  clear hb3 hb3' HR2 HB2 HO2
  go_wp2_with fail
  refine (H2.out _ _ _ (Sl.new_ w3 _ _ _ rfl)).mono ?_
  rintro e w4 ⟨rfl, hb4⟩
  have hb4' : Below w3.heap.size w3 w4 := (ba (brefl w3) _).trans (hb4.mono (by simp))
  have HR4 := Lib.hid ((hb4'.block _ (row_lt HR3.out)).trans HR3.out)
  have HB4 := Lib.hid (HB3.out.trans (hb4'.mono HB3.out.size))
  have HO4 := Lib.hid (HO3.out.keep hb4')
  clear hb4 hb4' HR3 HB3 HO3
  go_wp2_with fail
  refine (H3.out _).mono ?_
  rintro e w5 ⟨rfl, hbx⟩
  have HR5 := Lib.hid ((hbx.block _ (row_lt HR4.out)).trans HR4.out)
  have HB5 := Lib.hid (HB4.out.trans (hbx.mono HB4.out.size))
  have HO5 := Lib.hid (HO4.out.keep hbx)
  clear hbx HR4 HB4 HO4
  go_wp2_with fail

  refine (H4.out _).mono ?_
  rintro e w6 ⟨rfl, hbx⟩
  have HR6 := Lib.hid ((hbx.block _ (row_lt HR5.out)).trans HR5.out)
  have HB6 := Lib.hid (HB5.out.trans (hbx.mono HB5.out.size))
  have HO6 := Lib.hid (HO5.out.keep hbx)
  clear hbx HR5 HB5 HO5
  go_wp2_with fail

  refine (H5.out _).mono ?_
  rintro e w7 ⟨rfl, hbx⟩
  have HR7 := Lib.hid ((hbx.block _ (row_lt HR6.out)).trans HR6.out)
  have HB7 := Lib.hid (HB6.out.trans (hbx.mono HB6.out.size))
  have HO7 := Lib.hid (HO6.out.keep hbx)
  clear hbx HR6 HB6 HO6
  go_wp2_with fail

  refine (H6.out _).mono ?_
  rintro e w8 ⟨rfl, hbx⟩
  have HR8 := Lib.hid ((hbx.block _ (row_lt HR7.out)).trans HR7.out)
  have HB8 := Lib.hid (HB7.out.trans (hbx.mono HB7.out.size))
  have HO8 := Lib.hid (HO7.out.keep hbx)
  clear hbx HR7 HB7 HO7

  go_wp2_with ((with_reducible refine wpl_load_row rtV ?_ (.tmp 1) ?_ g1 ?_ 24 (vrow 1 1 A1 1 c1) ?_ HR8.out ?_); rfl; rfl; rfl; rfl; simp only [Act.put, List.setIfInBounds_toArray, List.set_cons_succ, List.set_cons_zero])
  have HBA := Lib.hid (ba (brefl w8) (.cells #[.int .u8 1] 5))
  have HVS := Lib.hid (rvsame_any 1 1 A1 [1] c1 1 1 (some ⟨w8.heap.size, 0, none⟩) [1] 1 (w8.alloc (.cells #[.int .u8 1] 5)) ((HO8.out.keep HBA.out).sl'.2) (Sl.new_ w8 _ _ _ rfl) (by decide) (by decide))
  rw [aw_s] at HVS
  refine HVS.out.mono ?_
  rintro e w9 ⟨rfl, hb9⟩
  have HB9 := Lib.hid ((HB8.out.trans (HBA.out.mono HB8.out.size)).trans (hb9.mono (Nat.le_trans HB8.out.size HBA.out.size)))
  clear hb9
  go_wp2_with fail
  go_ret
  exact ⟨rfl, HB9.out⟩
end Go.Proofs.Ythjmnahmejagmaa
