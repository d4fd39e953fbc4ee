/- A tree in memory of its own: the reference's Own. -/
import Derived.Test.YtkepbobnjplpoaaLzO
namespace Go.Proofs.Ytkepbobnjplpoaa
open Go.RowKit
open Go.Tin
set_option linter.unusedVariables false
set_option linter.unusedSimpArgs false


set_option maxRecDepth 100000 in
set_option maxHeartbeats 8000000 in
theorem owntree_any (o : Int) (Ad : Option Addr) (cd : Nat) (f : Fo) (w : World) (ha : FoK w Ad f) (hsm : smF f) (hcnt : f.cnt ≤ 1000) (hml : f.len ≤ maxLen) :
    Calls Try.prog 9 #[.agg #[.int .i64 o, .slice Ad f.len cd]] w fun e w' => ∃ A1 c1, e = .returned (.agg #[.int .i64 o, .slice A1 f.len c1]) ∧ FoS w' (fun b => w.heap.size ≤ b) false A1 f ∧ Below w.heap.size w w' := by
  have hns : f.len ≤ 1000 := Nat.le_trans f.len_cnt hcnt
  have HSM := Lib.hid hsm
  clear hsm
  have b1 := ba (brefl w) (.cells (trow o Ad f.len cd) 24)
  have b2 := ba (brefl (w.alloc (.cells (trow o Ad f.len cd) 24))) (.cells #[.int .i64 0, .slice none 0 0] 24)
  have b3 := ba (brefl ((w.alloc (.cells (trow o Ad f.len cd) 24)).alloc (.cells #[.int .i64 0, .slice none 0 0] 24))) (.cells #[.int .i64 o, .slice none 0 0] 24)
  have r1 := heap_alloc_new w (.cells (trow o Ad f.len cd) 24)
  have r2 := heap_alloc_new (w.alloc (.cells (trow o Ad f.len cd) 24)) (.cells #[.int .i64 0, .slice none 0 0] 24)
  have r3 := heap_alloc_new ((w.alloc (.cells (trow o Ad f.len cd) 24)).alloc (.cells #[.int .i64 0, .slice none 0 0] 24)) (.cells #[.int .i64 o, .slice none 0 0] 24)
  simp only [World.size_alloc] at r2 r3
  have R1 := Lib.hid ((b3.block _ (row_lt ((b2.block _ (row_lt r1)).trans r1))).trans ((b2.block _ (row_lt r1)).trans r1))
  have R2 := Lib.hid ((b3.block _ (row_lt r2)).trans r2)
  have R3 := Lib.hid r3
  have hbb := (b1.trans (b2.mono b1.size)).trans (b3.mono (b1.trans (b2.mono b1.size)).size)
  have HB := Lib.hid hbb
  have HD := Lib.hid (show FoS (((w.alloc (.cells (trow o Ad f.len cd) 24)).alloc (.cells #[.int .i64 0, .slice none 0 0] 24)).alloc (.cells #[.int .i64 o, .slice none 0 0] 24)) (· < w.heap.size) false Ad f from FoS.bel ha hbb)
  have q0 := row_cell (v := .int .i64 o) ((b2.block _ (row_lt r1)).trans r1) 0 rfl
  clear b1 b2 b3 r1 r2 r3 hbb ha
  generalize hsb : f.len = NS at *
  have HSB := Lib.hid hsb
  clear hsb
  go_enter Try.func9, Try.ntmps9
  go_wp2_with fail
  clear q0
  have HW1 := Lib.hid (show (((w.alloc (.cells (trow o Ad NS cd) 24)).alloc (.cells #[.int .i64 0, .slice none 0 0] 24)).alloc (.cells #[.int .i64 o, .slice none 0 0] 24)) = ((w.alloc (.cells #[.int .i64 o, .slice Ad NS cd] 24)).alloc (.cells #[.int .i64 0, .slice none 0 0] 24)).alloc (.cells #[.int .i64 o, .slice none 0 0] 24) from rfl)
  rw [HW1.out] at R1 R2 R3 HB HD
  clear HW1
  generalize ((w.alloc (.cells #[.int .i64 o, .slice Ad NS cd] 24)).alloc (.cells #[.int .i64 0, .slice none 0 0] 24)).alloc (.cells #[.int .i64 o, .slice none 0 0] 24) = X at *
  obtain ⟨g3, hg⟩ : ∃ g3, w.heap.size + 1 + 1 = g3 := ⟨_, rfl⟩
  rw [hg] at R3 ⊢
  have hg3 : w.heap.size + 2 ≤ g3 := by omega
  clear hg
  go_loopw [4] (fun s4 wr => ∃ (i : Nat) (A' : Option Addr) (c' : Nat) (xs : List Value), i ≤ NS ∧ s4 = .int .i64 (i : Int) ∧ wr.heap[g3]? = some (.cells #[.int .i64 o, .slice A' i c'] 24 (0, 0)) ∧ OwnV 42 3 wr (w.heap.size + 2) (.slice A' i c') i xs ∧ FoV wr (NB2 (w.heap.size + 2) (.slice A' i c') g3) false (f.take i) xs ∧ Below (w.heap.size + 2) X wr) (fun s4 _ => NS - (intOf s4).toNat)
  case atStart => exact ⟨0, none, 0, [], by omega, rfl, R3.out, OwnV.nil_ _ _ _ _, rfl, Below.refl _ _⟩
  case round =>
    obtain ⟨i, A', c', xs, hi, rfl, hr3, ho, hxf, hb⟩ := hrel
    clear R3
    have R3 := Lib.hid hr3
    have HO := Lib.hid ho
    have XF := Lib.hid hxf
    have HBX := Lib.hid hb
    have hsz : w.heap.size + 2 ≤ wr.heap.size := by have := row_lt hr3; omega
    have hbw : Below w.heap.size w wr := HB.out.trans (hb.mono (by omega))
    have R1r := Lib.hid ((hb.block _ (by omega)).trans R1.out)
    have R2r := Lib.hid ((hb.block _ (by omega)).trans R2.out)
    have HDr := Lib.hid (FoS.bel HD.out (hb.mono (by omega)))
    clear hr3 ho hxf hb
    by_cases hin : i < NS
    case neg =>
      obtain rfl : i = NS := by omega
      have htk : f.take i = f := by have := Fo.take_all f; rwa [HSB.out] at this
      rw [htk] at XF
      have q1 := row_cell (v := .slice Ad i cd) R1r.out 1 rfl
      clear htk
      go_wp2_with (first | ((with_reducible refine wpl_load_row rtTf ?_ (.tmp 3) ?_ g3 ?_ 24 #[.int .i64 o, .slice A' i c'] ?_ R3.out ?_); rfl; rfl; rfl; rfl; simp only [Act.put, List.setIfInBounds_toArray, List.set_cons_succ, List.set_cons_zero]) | ((with_reducible refine wpl_store_row rtTf ?_ (.tmp 2) (.tmp 26) ?_ (w.heap.size + 1) ?_ #[.int .i64 o, .slice A' i c'] ?_ ?_ 24 ?_ #[.int .i64 0, .slice none 0 0] ?_ R2r.out ?_); rfl; rfl; rfl; rfl; (simp [Value.oneCell']); rfl; rfl; intro u9 hr9 hg9 hs9; (try simp only [Act.put, List.setIfInBounds_toArray, List.set_cons_succ, List.set_cons_zero])))
      refine bodyPost_ret (res_row rtTf rfl _ _ (w.heap.size + 1) 24 #[.int .i64 o, .slice A' i c'] rfl rfl hr9) rfl ?_
      have hkp : Kp (NB2 (w.heap.size + 2) (.slice A' i c') g3) wr u9 := Kp.grown hg9 (fun b hb e => by injection e with e; have := hb.1; omega)
      exact ⟨A', c', rfl, ⟨xs, SvP.ofOwn (HO.out.kept hg9 (ne_own (fun q hq e => by have := (World.ownsRow.lt HO.out q hq).1; omega))) (fun b _ h => Nat.le_trans (Nat.le_add_right _ 2) h), FoV.mono (fun b _ h => Nat.le_trans (Nat.le_add_right _ 2) h.1) _ (FoV.keep hkp _ XF.out)⟩, hbw.trans ((Below.refl _ _).grown hg9 hbw.size (fun k hk => by cases hk; omega))⟩
    have i1 : (i : Int) < (NS : Int) := by omega
    have hil : i < f.len := by rw [HSB.out]; exact hin
    obtain ⟨b, off, rfl, hpb, hbs, hc⟩ := HDr.out.at_ (by omega)
    obtain ⟨At1, ct1, As1, cs1, Ab1, cb1, hr, hdi⟩ := hc i hil
    have hse := smF_elem i f HSM.out hil
    have hec := Fo.elem_cnt i f hil
    have HTK := Lib.hid (Fo.take_snoc i f hil)
    clear hc
    generalize f.elem i = el at *
    obtain ⟨etag, ed⟩ := el
    dsimp only at hr hdi hse hec
    have HRG := Lib.hid (show wr.rangeAt b (off + i * 3) [.slice At1 ed.ts.length ct1, .slice As1 ed.sub.len cs1, .slice Ab1 ed.bl.length cb1] from hr)
    have HE := Lib.hid hdi
    have hLb : b < w.heap.size + 2 := by omega
    have hL1 : w.heap.size < w.heap.size + 2 := by omega
    have HVB := Lib.hid (brefl wr)
    clear hr hdi
    have q1 := row_cell (v := .slice (some ⟨b, off, none⟩) NS cd) R1r.out 1 rfl
    go_wp2_with fail
    clear q1
    have SZ : w.heap.size + 2 ≤ wr.drew.heap.size := hsz
    have hv := ud' (brefl wr)
    replace R3 := Lib.hid ((hv.block _ (row_lt R3.out)).trans R3.out)
    replace HO := Lib.hid (HO.out.keep hv)
    replace XF := Lib.hid (FoV.keep (Kp.mono (Kp.all hv) (fun _ h _ => h)) _ XF.out)
    replace HVB := Lib.hid (HVB.out.trans (hv.mono HVB.out.size))
    have HRG2 := Lib.hid (show wr.drew.rangeAt b (off + i * 3) _ from HRG.out)
    have R1d := Lib.hid (show wr.drew.heap[w.heap.size]? = _ from R1r.out)
    clear hv
    refine Tin.reg_begin (w.heap.size + 2) 12 (by rfl) (by kernel_rfl) ?_
    generalize hud : wr.drew = u0 at *
    have q1 : ∀ p : Bel (w.heap.size + 2) u0, p.w'.cell? ⟨w.heap.size, 1, none⟩ = some (.slice (some ⟨b, off, none⟩) NS cd) := fun p => row_cell ((p.h.block _ hL1).trans R1d.out) 1 rfl
    refine Tin.reg_quiets [0, 2, 3, 4, 5, 6] _ 6 rfl (by simp only [Tin.pick, List.map_cons, List.map_nil, Array.getD_eq_getD_getElem?, List.getElem?_toArray, List.getElem?_cons_zero, List.getElem?_cons_succ, Option.getD_some]; rfl) (by kernel_rfl) (by kernel_rfl) ?_
    repeat (first | ((with_reducible refine wpq_loadv rtDi ?_ (.tmp 20) ?_ b (off + i * 3) ?_ [.slice At1 ed.ts.length ct1, .slice As1 ed.sub.len cs1, .slice Ab1 ed.bl.length cb1] ?_ (fun W h => by obtain ⟨p, rfl⟩ := h; exact (rng_below p.h hLb HRG2.out)) ?_); rfl; rfl; rfl; rfl; simp only [Act.put, List.setIfInBounds_toArray, List.set_cons_succ, List.set_cons_zero]) | go_big_quiet_step (fail))
    refine wpQuiet_nil ?_
    clear q1
    refine Tin.reg_two 1 7 _ _ rfl rfl (by kernel_rfl) ?_ ?_
    · try simp only [List.getElem_toArray, List.getElem_cons_succ, List.getElem_cons_zero]
      have kl := row_cell (v := (.slice A' i c')) R3.out 1 rfl
      go_wp2_with fail
      clear kl
      refine ⟨w.heap.size + 2, Below.refl _ _, Nat.le_refl _, ?_⟩
      refine Tin.reg_one 7 _ rfl (by kernel_rfl) ?_
      try simp only [List.getElem_toArray, List.getElem_cons_succ, List.getElem_cons_zero]
      go_wp2_with fail
      have hkz : Kp (fun b => b < w.heap.size) wr u0 := Kp.below (HVB.out.mono (Nat.le_of_lt (Nat.lt_of_lt_of_le hL1 hsz))) (fun _ _ h => h)
      refine (owndir_any _ At1 As1 Ab1 ct1 cs1 cb1 ed u0 (Nat.lt_succ_self _) ((HE.out.keep hkz).mono (fun b _ h => Nat.lt_of_lt_of_le h (Nat.le_trans (Nat.le_of_lt (Nat.lt_of_lt_of_le hL1 hsz)) HVB.out.size))) hse).mono ?_
      rintro e z1 ⟨A21, c21, A22, c22, A23, c23, rfl, hx, hv⟩
      go_wp2_with fail
      refine ⟨w.heap.size + 2, hv.mono SZ, Nat.le_refl _, ?_⟩
      have hlo := fun q hq => (World.ownsRow.lt HO.out q hq).2
      have hlg := row_lt R3.out
      have hx2 : DiP z1 (NB2 (w.heap.size + 2) (.slice A' i c') g3) A21 A22 A23 ed := hx.mono (fun b _ h => nb2_new SZ hlo hlg h)
      replace R3 := Lib.hid ((hv.block _ (row_lt R3.out)).trans R3.out)
      replace HO := Lib.hid (HO.out.keep hv)
      replace XF := Lib.hid (FoV.keep (Kp.mono (Kp.all hv) (fun _ h _ => h)) _ XF.out)
      replace HVB := Lib.hid (HVB.out.trans (hv.mono HVB.out.size))
      have HE2 := Lib.hid hx2
      replace SZ := Nat.le_trans SZ hv.size
      clear hx hx2 hlo hlg hv hkz
      refine Tin.reg_one 8 _ rfl (by kernel_rfl) ?_
      try simp only [List.getElem_toArray, List.getElem_cons_succ, List.getElem_cons_zero]
      go_wp2_with fail
      have hv := ba (brefl z1) (.cells #[.slice A21 ed.ts.length c21, .slice A22 ed.sub.len c22, .slice A23 ed.bl.length c23] 42)
      have hnw := SlV.new_ z1 42 #[.slice A21 ed.ts.length c21, .slice A22 ed.sub.len c22, .slice A23 ed.bl.length c23]
      refine ⟨w.heap.size + 2, hv.mono SZ, Nat.le_refl _, ?_⟩
      replace R3 := Lib.hid ((hv.block _ (row_lt R3.out)).trans R3.out)
      replace HO := Lib.hid (HO.out.keep hv)
      replace XF := Lib.hid (FoV.keep (Kp.mono (Kp.all hv) (fun _ h _ => h)) _ XF.out)
      replace HVB := Lib.hid (HVB.out.trans (hv.mono HVB.out.size))
      replace HE2 := Lib.hid (HE2.out.keep (Kp.mono (Kp.all hv) (fun _ h _ => h)))
      have HNW := Lib.hid hnw
      replace SZ := Nat.le_trans SZ hv.size
      clear hnw hv
      generalize z1.alloc (.cells #[.slice A21 ed.ts.length c21, .slice A22 ed.sub.len c22, .slice A23 ed.bl.length c23] 42) = z2 at *
      generalize z1.heap.size = g7 at *
      refine Tin.reg_one 9 _ rfl (by kernel_rfl) ?_
      try simp only [List.getElem_toArray, List.getElem_cons_succ, List.getElem_cons_zero]
      have hmx : (i + 1) ≤ 1000 := by omega
      go_wp2_with (at_builtin; refine Tin.wplv_app svDi z2 rfl (.tmp 16) (.tmp 23) rfl (w.heap.size + 2) _ _ _ rfl HO.out (some ⟨g7, 0, none⟩) 1 1 [.slice A21 ed.ts.length c21, .slice A22 ed.sub.len c22, .slice A23 ed.bl.length c23] rfl rfl HNW.out (by intro u hu; simp only [List.mem_cons, List.not_mem_nil, or_false] at hu; rcases hu with rfl | rfl | rfl <;> rfl) (by omega) (by omega) SZ ?_; intro A8 c8 u10 ho8 hg8 how8; have HO8 := Lib.hid ho8; have HG8 := Lib.hid hg8; have HW8 := Lib.hid how8; clear ho8 hg8 how8; (try simp only [Act.put, List.setIfInBounds_toArray, List.set_cons_succ, List.set_cons_zero]))
      replace HG8 := Lib.hid (show z2.grownBy u10 (Value.slice A' i c').ownBlock from HG8.out)
      replace HW8 := Lib.hid (show (Value.slice A8 (i + 1) c8).ownBlock = (Value.slice A' i c').ownBlock ∨ (Value.slice A8 (i + 1) c8).ownBlock = some z2.heap.size from HW8.out)
      have hbb : Below (w.heap.size + 2) z2 u10 := (Below.refl _ _).grown HG8.out SZ (fun k hk => (World.ownsRow.lt HO.out k hk).1)
      refine ⟨w.heap.size + 2, hbb, Nat.le_refl _, ?_⟩
      have hst := nb2_step (n := w.heap.size + 2) (g := g3) (v' := (.slice A8 (i + 1) c8)) HG8.out HW8.out
      replace R3 := Lib.hid ((HG8.out.block _ (row_lt R3.out) (fun e => (own_row_types HO.out R3.out (by decide)).elim (fun h => by rw [h] at e; cases e) (fun h => h e.symm))).trans R3.out)
      have hxf : FoV u10 (NB2 (w.heap.size + 2) (.slice A8 (i + 1) c8) g3) false (f.take (i + 1)) (xs ++ [.slice A21 ed.ts.length c21, .slice A22 ed.sub.len c22, .slice A23 ed.bl.length c23]) := by
        rw [HTK.out]
        refine FoV.mono (fun b _ h => hst.2 b h) _ (FoV.keep hst.1 _ ?_)
        exact FoV.mono (fun b hlt h => ⟨h, hlt⟩) _ (FoV.app _ _ XF.out (FoV.one (k := false) (e := ⟨etag, ed⟩) HE2.out))
      replace XF := Lib.hid hxf
      replace HBX := Lib.hid (HBX.out.trans ((HVB.out.mono hsz).trans hbb))
      have SZ2 := Nat.le_trans SZ hbb.size
      clear hst hxf HVB HO HNW HE2 hbb
      refine Tin.reg_quiets [10] _ 1 rfl (by simp only [Tin.pick, List.map_cons, List.map_nil, Array.getD_eq_getD_getElem?, List.getElem?_toArray, List.getElem?_cons_zero, List.getElem?_cons_succ, Option.getD_some]; rfl) (by kernel_rfl) (by kernel_rfl) ?_
      repeat (first | go_big_quiet_step (fail))
      refine wpQuiet_nil ?_
      refine Tin.reg_one 11 _ rfl (by kernel_rfl) ?_
      try simp only [List.getElem_toArray, List.getElem_cons_succ, List.getElem_cons_zero]
      have ks := row_cell (v := (.slice A' i c')) R3.out 1 rfl
      have ys := frozen_of_row _ _ 1 _ _ R3.out
      go_wp2_with fail
      clear ks ys
      have hbs2 : Below (w.heap.size + 2) u10 (u10.setCell ⟨g3, 1, none⟩ (.slice A8 (i + 1) c8)) := (Below.refl _ _).setCell (p := ⟨g3, 1, none⟩) hg3 _
      refine ⟨w.heap.size + 2, hbs2, Nat.le_refl _, ?_⟩
      have hkp : Kp (NB2 (w.heap.size + 2) (.slice A8 (i + 1) c8) g3) u10 (u10.setCell ⟨g3, 1, none⟩ (.slice A8 (i + 1) c8)) := set_kp _ (fun h => h.2.2 rfl)
      have hr3 := row_set R3.out 1 (.slice A8 (i + 1) c8)
      replace HO8 := Lib.hid (HO8.out.kept (gr_set u10 g3 1 (.slice A8 (i + 1) c8)) (own_row_types HO8.out R3.out (by decide)))
      replace XF := Lib.hid (FoV.keep hkp _ XF.out)
      replace R3 := Lib.hid (show (u10.setCell ⟨g3, 1, none⟩ (.slice A8 (i + 1) c8)).heap[g3]? = some (.cells #[.int .i64 o, .slice A8 (i + 1) c8] 24 (0, 0)) from hr3)
      replace HBX := Lib.hid (HBX.out.trans hbs2)
      clear hbs2 hkp hr3
      refine Tin.reg_done (by kernel_rfl) ?_
      go_wp2_with fail
      exact ⟨⟨i + 1, A8, c8, _, by omega, rfl, R3.out, HO8.out, XF.out, HBX.out⟩, by simp only [intOf]; omega⟩
    · try simp only [List.getElem_toArray, List.getElem_cons_succ, List.getElem_cons_zero]
      go_wp2_with fail
      have hkz : Kp (fun b => b < w.heap.size) wr u0 := Kp.below (HVB.out.mono (Nat.le_of_lt (Nat.lt_of_lt_of_le hL1 hsz))) (fun _ _ h => h)
      refine (owndir_any _ At1 As1 Ab1 ct1 cs1 cb1 ed u0 (Nat.lt_succ_self _) ((HE.out.keep hkz).mono (fun b _ h => Nat.lt_of_lt_of_le h (Nat.le_trans (Nat.le_of_lt (Nat.lt_of_lt_of_le hL1 hsz)) HVB.out.size))) hse).mono ?_
      rintro e z1 ⟨A21, c21, A22, c22, A23, c23, rfl, hx, hv⟩
      go_wp2_with fail
      refine ⟨w.heap.size + 2, hv.mono SZ, Nat.le_refl _, ?_⟩
      have hlo := fun q hq => (World.ownsRow.lt HO.out q hq).2
      have hlg := row_lt R3.out
      have hx2 : DiP z1 (NB2 (w.heap.size + 2) (.slice A' i c') g3) A21 A22 A23 ed := hx.mono (fun b _ h => nb2_new SZ hlo hlg h)
      replace R3 := Lib.hid ((hv.block _ (row_lt R3.out)).trans R3.out)
      replace HO := Lib.hid (HO.out.keep hv)
      replace XF := Lib.hid (FoV.keep (Kp.mono (Kp.all hv) (fun _ h _ => h)) _ XF.out)
      replace HVB := Lib.hid (HVB.out.trans (hv.mono HVB.out.size))
      have HE2 := Lib.hid hx2
      replace SZ := Nat.le_trans SZ hv.size
      clear hx hx2 hlo hlg hv hkz
      refine Tin.reg_two 1 8 _ _ rfl rfl (by kernel_rfl) ?_ ?_
      · try simp only [List.getElem_toArray, List.getElem_cons_succ, List.getElem_cons_zero]
        have kl := row_cell (v := (.slice A' i c')) R3.out 1 rfl
        go_wp2_with fail
        clear kl
        refine ⟨w.heap.size + 2, Below.refl _ _, Nat.le_refl _, ?_⟩
        refine Tin.reg_one 8 _ rfl (by kernel_rfl) ?_
        try simp only [List.getElem_toArray, List.getElem_cons_succ, List.getElem_cons_zero]
        go_wp2_with fail
        have hv := ba (brefl z1) (.cells #[.slice A21 ed.ts.length c21, .slice A22 ed.sub.len c22, .slice A23 ed.bl.length c23] 42)
        have hnw := SlV.new_ z1 42 #[.slice A21 ed.ts.length c21, .slice A22 ed.sub.len c22, .slice A23 ed.bl.length c23]
        refine ⟨w.heap.size + 2, hv.mono SZ, Nat.le_refl _, ?_⟩
        replace R3 := Lib.hid ((hv.block _ (row_lt R3.out)).trans R3.out)
        replace HO := Lib.hid (HO.out.keep hv)
        replace XF := Lib.hid (FoV.keep (Kp.mono (Kp.all hv) (fun _ h _ => h)) _ XF.out)
        replace HVB := Lib.hid (HVB.out.trans (hv.mono HVB.out.size))
        replace HE2 := Lib.hid (HE2.out.keep (Kp.mono (Kp.all hv) (fun _ h _ => h)))
        have HNW := Lib.hid hnw
        replace SZ := Nat.le_trans SZ hv.size
        clear hnw hv
        generalize z1.alloc (.cells #[.slice A21 ed.ts.length c21, .slice A22 ed.sub.len c22, .slice A23 ed.bl.length c23] 42) = z2 at *
        generalize z1.heap.size = g7 at *
        refine Tin.reg_one 9 _ rfl (by kernel_rfl) ?_
        try simp only [List.getElem_toArray, List.getElem_cons_succ, List.getElem_cons_zero]
        have hmx : (i + 1) ≤ 1000 := by omega
        go_wp2_with (at_builtin; refine Tin.wplv_app svDi z2 rfl (.tmp 16) (.tmp 23) rfl (w.heap.size + 2) _ _ _ rfl HO.out (some ⟨g7, 0, none⟩) 1 1 [.slice A21 ed.ts.length c21, .slice A22 ed.sub.len c22, .slice A23 ed.bl.length c23] rfl rfl HNW.out (by intro u hu; simp only [List.mem_cons, List.not_mem_nil, or_false] at hu; rcases hu with rfl | rfl | rfl <;> rfl) (by omega) (by omega) SZ ?_; intro A8 c8 u10 ho8 hg8 how8; have HO8 := Lib.hid ho8; have HG8 := Lib.hid hg8; have HW8 := Lib.hid how8; clear ho8 hg8 how8; (try simp only [Act.put, List.setIfInBounds_toArray, List.set_cons_succ, List.set_cons_zero]))
        replace HG8 := Lib.hid (show z2.grownBy u10 (Value.slice A' i c').ownBlock from HG8.out)
        replace HW8 := Lib.hid (show (Value.slice A8 (i + 1) c8).ownBlock = (Value.slice A' i c').ownBlock ∨ (Value.slice A8 (i + 1) c8).ownBlock = some z2.heap.size from HW8.out)
        have hbb : Below (w.heap.size + 2) z2 u10 := (Below.refl _ _).grown HG8.out SZ (fun k hk => (World.ownsRow.lt HO.out k hk).1)
        refine ⟨w.heap.size + 2, hbb, Nat.le_refl _, ?_⟩
        have hst := nb2_step (n := w.heap.size + 2) (g := g3) (v' := (.slice A8 (i + 1) c8)) HG8.out HW8.out
        replace R3 := Lib.hid ((HG8.out.block _ (row_lt R3.out) (fun e => (own_row_types HO.out R3.out (by decide)).elim (fun h => by rw [h] at e; cases e) (fun h => h e.symm))).trans R3.out)
        have hxf : FoV u10 (NB2 (w.heap.size + 2) (.slice A8 (i + 1) c8) g3) false (f.take (i + 1)) (xs ++ [.slice A21 ed.ts.length c21, .slice A22 ed.sub.len c22, .slice A23 ed.bl.length c23]) := by
          rw [HTK.out]
          refine FoV.mono (fun b _ h => hst.2 b h) _ (FoV.keep hst.1 _ ?_)
          exact FoV.mono (fun b hlt h => ⟨h, hlt⟩) _ (FoV.app _ _ XF.out (FoV.one (k := false) (e := ⟨etag, ed⟩) HE2.out))
        replace XF := Lib.hid hxf
        replace HBX := Lib.hid (HBX.out.trans ((HVB.out.mono hsz).trans hbb))
        have SZ2 := Nat.le_trans SZ hbb.size
        clear hst hxf HVB HO HNW HE2 hbb
        refine Tin.reg_quiets [10] _ 1 rfl (by simp only [Tin.pick, List.map_cons, List.map_nil, Array.getD_eq_getD_getElem?, List.getElem?_toArray, List.getElem?_cons_zero, List.getElem?_cons_succ, Option.getD_some]; rfl) (by kernel_rfl) (by kernel_rfl) ?_
        repeat (first | go_big_quiet_step (fail))
        refine wpQuiet_nil ?_
        refine Tin.reg_one 11 _ rfl (by kernel_rfl) ?_
        try simp only [List.getElem_toArray, List.getElem_cons_succ, List.getElem_cons_zero]
        have ks := row_cell (v := (.slice A' i c')) R3.out 1 rfl
        have ys := frozen_of_row _ _ 1 _ _ R3.out
        go_wp2_with fail
        clear ks ys
        have hbs2 : Below (w.heap.size + 2) u10 (u10.setCell ⟨g3, 1, none⟩ (.slice A8 (i + 1) c8)) := (Below.refl _ _).setCell (p := ⟨g3, 1, none⟩) hg3 _
        refine ⟨w.heap.size + 2, hbs2, Nat.le_refl _, ?_⟩
        have hkp : Kp (NB2 (w.heap.size + 2) (.slice A8 (i + 1) c8) g3) u10 (u10.setCell ⟨g3, 1, none⟩ (.slice A8 (i + 1) c8)) := set_kp _ (fun h => h.2.2 rfl)
        have hr3 := row_set R3.out 1 (.slice A8 (i + 1) c8)
        replace HO8 := Lib.hid (HO8.out.kept (gr_set u10 g3 1 (.slice A8 (i + 1) c8)) (own_row_types HO8.out R3.out (by decide)))
        replace XF := Lib.hid (FoV.keep hkp _ XF.out)
        replace R3 := Lib.hid (show (u10.setCell ⟨g3, 1, none⟩ (.slice A8 (i + 1) c8)).heap[g3]? = some (.cells #[.int .i64 o, .slice A8 (i + 1) c8] 24 (0, 0)) from hr3)
        replace HBX := Lib.hid (HBX.out.trans hbs2)
        clear hbs2 hkp hr3
        refine Tin.reg_done (by kernel_rfl) ?_
        go_wp2_with fail
        exact ⟨⟨i + 1, A8, c8, _, by omega, rfl, R3.out, HO8.out, XF.out, HBX.out⟩, by simp only [intOf]; omega⟩
      · try simp only [List.getElem_toArray, List.getElem_cons_succ, List.getElem_cons_zero]
        go_wp2_with fail
        have hv := ba (brefl z1) (.cells #[.slice A21 ed.ts.length c21, .slice A22 ed.sub.len c22, .slice A23 ed.bl.length c23] 42)
        have hnw := SlV.new_ z1 42 #[.slice A21 ed.ts.length c21, .slice A22 ed.sub.len c22, .slice A23 ed.bl.length c23]
        refine ⟨w.heap.size + 2, hv.mono SZ, Nat.le_refl _, ?_⟩
        replace R3 := Lib.hid ((hv.block _ (row_lt R3.out)).trans R3.out)
        replace HO := Lib.hid (HO.out.keep hv)
        replace XF := Lib.hid (FoV.keep (Kp.mono (Kp.all hv) (fun _ h _ => h)) _ XF.out)
        replace HVB := Lib.hid (HVB.out.trans (hv.mono HVB.out.size))
        replace HE2 := Lib.hid (HE2.out.keep (Kp.mono (Kp.all hv) (fun _ h _ => h)))
        have HNW := Lib.hid hnw
        replace SZ := Nat.le_trans SZ hv.size
        clear hnw hv
        generalize z1.alloc (.cells #[.slice A21 ed.ts.length c21, .slice A22 ed.sub.len c22, .slice A23 ed.bl.length c23] 42) = z2 at *
        generalize z1.heap.size = g7 at *
        refine Tin.reg_one 1 _ rfl (by kernel_rfl) ?_
        try simp only [List.getElem_toArray, List.getElem_cons_succ, List.getElem_cons_zero]
        have kl := row_cell (v := (.slice A' i c')) R3.out 1 rfl
        go_wp2_with fail
        clear kl
        refine ⟨w.heap.size + 2, Below.refl _ _, Nat.le_refl _, ?_⟩
        refine Tin.reg_one 9 _ rfl (by kernel_rfl) ?_
        try simp only [List.getElem_toArray, List.getElem_cons_succ, List.getElem_cons_zero]
        have hmx : (i + 1) ≤ 1000 := by omega
        go_wp2_with (at_builtin; refine Tin.wplv_app svDi z2 rfl (.tmp 16) (.tmp 23) rfl (w.heap.size + 2) _ _ _ rfl HO.out (some ⟨g7, 0, none⟩) 1 1 [.slice A21 ed.ts.length c21, .slice A22 ed.sub.len c22, .slice A23 ed.bl.length c23] rfl rfl HNW.out (by intro u hu; simp only [List.mem_cons, List.not_mem_nil, or_false] at hu; rcases hu with rfl | rfl | rfl <;> rfl) (by omega) (by omega) SZ ?_; intro A8 c8 u10 ho8 hg8 how8; have HO8 := Lib.hid ho8; have HG8 := Lib.hid hg8; have HW8 := Lib.hid how8; clear ho8 hg8 how8; (try simp only [Act.put, List.setIfInBounds_toArray, List.set_cons_succ, List.set_cons_zero]))
        replace HG8 := Lib.hid (show z2.grownBy u10 (Value.slice A' i c').ownBlock from HG8.out)
        replace HW8 := Lib.hid (show (Value.slice A8 (i + 1) c8).ownBlock = (Value.slice A' i c').ownBlock ∨ (Value.slice A8 (i + 1) c8).ownBlock = some z2.heap.size from HW8.out)
        have hbb : Below (w.heap.size + 2) z2 u10 := (Below.refl _ _).grown HG8.out SZ (fun k hk => (World.ownsRow.lt HO.out k hk).1)
        refine ⟨w.heap.size + 2, hbb, Nat.le_refl _, ?_⟩
        have hst := nb2_step (n := w.heap.size + 2) (g := g3) (v' := (.slice A8 (i + 1) c8)) HG8.out HW8.out
        replace R3 := Lib.hid ((HG8.out.block _ (row_lt R3.out) (fun e => (own_row_types HO.out R3.out (by decide)).elim (fun h => by rw [h] at e; cases e) (fun h => h e.symm))).trans R3.out)
        have hxf : FoV u10 (NB2 (w.heap.size + 2) (.slice A8 (i + 1) c8) g3) false (f.take (i + 1)) (xs ++ [.slice A21 ed.ts.length c21, .slice A22 ed.sub.len c22, .slice A23 ed.bl.length c23]) := by
          rw [HTK.out]
          refine FoV.mono (fun b _ h => hst.2 b h) _ (FoV.keep hst.1 _ ?_)
          exact FoV.mono (fun b hlt h => ⟨h, hlt⟩) _ (FoV.app _ _ XF.out (FoV.one (k := false) (e := ⟨etag, ed⟩) HE2.out))
        replace XF := Lib.hid hxf
        replace HBX := Lib.hid (HBX.out.trans ((HVB.out.mono hsz).trans hbb))
        have SZ2 := Nat.le_trans SZ hbb.size
        clear hst hxf HVB HO HNW HE2 hbb
        refine Tin.reg_quiets [10] _ 1 rfl (by simp only [Tin.pick, List.map_cons, List.map_nil, Array.getD_eq_getD_getElem?, List.getElem?_toArray, List.getElem?_cons_zero, List.getElem?_cons_succ, Option.getD_some]; rfl) (by kernel_rfl) (by kernel_rfl) ?_
        repeat (first | go_big_quiet_step (fail))
        refine wpQuiet_nil ?_
        refine Tin.reg_one 11 _ rfl (by kernel_rfl) ?_
        try simp only [List.getElem_toArray, List.getElem_cons_succ, List.getElem_cons_zero]
        have ks := row_cell (v := (.slice A' i c')) R3.out 1 rfl
        have ys := frozen_of_row _ _ 1 _ _ R3.out
        go_wp2_with fail
        clear ks ys
        have hbs2 : Below (w.heap.size + 2) u10 (u10.setCell ⟨g3, 1, none⟩ (.slice A8 (i + 1) c8)) := (Below.refl _ _).setCell (p := ⟨g3, 1, none⟩) hg3 _
        refine ⟨w.heap.size + 2, hbs2, Nat.le_refl _, ?_⟩
        have hkp : Kp (NB2 (w.heap.size + 2) (.slice A8 (i + 1) c8) g3) u10 (u10.setCell ⟨g3, 1, none⟩ (.slice A8 (i + 1) c8)) := set_kp _ (fun h => h.2.2 rfl)
        have hr3 := row_set R3.out 1 (.slice A8 (i + 1) c8)
        replace HO8 := Lib.hid (HO8.out.kept (gr_set u10 g3 1 (.slice A8 (i + 1) c8)) (own_row_types HO8.out R3.out (by decide)))
        replace XF := Lib.hid (FoV.keep hkp _ XF.out)
        replace R3 := Lib.hid (show (u10.setCell ⟨g3, 1, none⟩ (.slice A8 (i + 1) c8)).heap[g3]? = some (.cells #[.int .i64 o, .slice A8 (i + 1) c8] 24 (0, 0)) from hr3)
        replace HBX := Lib.hid (HBX.out.trans hbs2)
        clear hbs2 hkp hr3
        refine Tin.reg_done (by kernel_rfl) ?_
        go_wp2_with fail
        exact ⟨⟨i + 1, A8, c8, _, by omega, rfl, R3.out, HO8.out, XF.out, HBX.out⟩, by simp only [intOf]; omega⟩
end Go.Proofs.Ytkepbobnjplpoaa
