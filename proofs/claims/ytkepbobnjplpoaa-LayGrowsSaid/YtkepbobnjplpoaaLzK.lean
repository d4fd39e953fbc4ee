/- LayGrows: the walk. -/
import Derived.Test.YtkepbobnjplpoaaLzJ
namespace Go.Proofs.Ytkepbobnjplpoaa
open Go.RowKit
open Go.Tin
set_option linter.unusedVariables false
set_option linter.unusedSimpArgs false


theorem FoV.cells {w : World} {p : Nat → Prop} : ∀ {k : Bool} (f : Fo) {xs : List Value}, FoV w p k f xs → ∀ u ∈ xs, u.oneCell' = true
  | _, .nil, _, h, u, hu => by rw [show _ = ([] : List Value) from h] at hu; cases hu
  | k, .cons tag _ _ sub rest, _, h, u, hu => by
    obtain ⟨At, ct, As, cs, Ab, cb, zs, rfl, _, _, _, _, _, h8⟩ := h
    rcases List.mem_append.1 hu with hu | hu
    · cases k with
      | true => obtain rfl := List.mem_singleton.1 hu; rfl
      | false => cases hu
    · rcases List.mem_cons.1 hu with rfl | hu
      · rfl
      rcases List.mem_cons.1 hu with rfl | hu
      · rfl
      rcases List.mem_cons.1 hu with rfl | hu
      · rfl
      exact FoV.cells rest h8 u hu
theorem ownv_zero (w : World) (t : TypeId) (B : Nat) (hB : B ≤ w.heap.size) : OwnV t 3 (w.alloc (.cells #[] t)) B (.slice (some ⟨w.heap.size, 0, none⟩) 0 0) 0 [] :=
  ⟨rfl, .inr ⟨w.heap.size, 0, #[], rfl, hB, heap_alloc_new w _, by simp, by simp, by simp, by simp⟩⟩
theorem sideL_mem {L : List Di} : ∀ {r : List Sp} {p : Sp} {e e' : Nat}, sideL L p e r e' → ∀ s ∈ r, 0 ≤ s.i ∧ s.i < L.length ∧ p.a + p.l ≤ s.a ∧ s.a + s.l ≤ endL (p :: r) ∧ 1 ≤ s.l
  | x :: r, p, e, e', h, s, hs => by
    obtain ⟨⟨_, h1, _, h2, h3, h4, _⟩, h5⟩ := h
    rw [endL_two]
    rcases List.mem_cons.1 hs with rfl | hs
    · exact ⟨h3, by omega, h1, sideL_end h5, h2⟩
    · have := sideL_mem h5 s hs
      exact ⟨this.1, this.2.1, by omega, this.2.2.2⟩
theorem okF_app {f g : Fo} (h1 : smF f) (h2 : smF g) (c1 : f.cnt ≤ 40) (c2 : g.cnt ≤ 40) : okF (f.app g) = (mayF f && mayF g) := by
  rw [okF_may (smF_app h1 h2) (by rw [Fo.app_cnt]; omega), mayF_app]
set_option maxRecDepth 100000 in
set_option maxHeartbeats 16000000 in
theorem grows_any (cs0 cs1 : Array Value) (w : World) (sz0 : cs0.size = 2) (ft0 : TiffOk w cs0) (sz1 : cs1.size = 2) (ft1 : TiffOk w cs1) :
    Calls Try.prog 6 #[.agg cs0, .agg cs1] w fun e w' => e = .returned (.bool true) ∧ Below w.heap.size w w' := by
  obtain ⟨o, Ad, cd, f, rfl, hf, hN⟩ := ft0
  obtain ⟨om, Ae, ce, g, rfl, hg, hM⟩ := ft1
  clear sz0 sz1
  have HU := Lib.hid (fun (W : World) (h : FoK W Ad f) => huge_any o Ad cd f W h hN)
  have HV := Lib.hid (fun (W : World) (h : FoK W Ae g) => huge_any om Ae ce g W h hM)
  generalize hsub : f.len = NS at *
  have HSUB := Lib.hid hsub
  generalize hsug : g.len = NT at *
  have HSUG := Lib.hid hsug
  clear hsub hsug
  have hb1 := ba (brefl w) (.cells (trow o Ad NS cd) 24)
  have hb2 := ba (brefl (w.alloc (.cells (trow o Ad NS cd) 24))) (.cells (trow om Ae NT ce) 24)
  have hz : (w.alloc (.cells (trow o Ad NS cd) 24)).heap.size = w.heap.size + 1 := by simp
  have hr1 := heap_alloc_new w (.cells (trow o Ad NS cd) 24)
  have hr2 := heap_alloc_new (w.alloc (.cells (trow o Ad NS cd) 24)) (.cells (trow om Ae NT ce) 24)
  rw [hz] at hr2
  have R1 := Lib.hid ((hb2.block _ (row_lt hr1)).trans hr1)
  have R2 := Lib.hid hr2
  have HB := Lib.hid (hb1.trans (hb2.mono hb1.size))
  have HF := Lib.hid (FoK.keep (FoK.keep hf hb1) hb2)
  have HG := Lib.hid (FoK.keep (FoK.keep hg hb1) hb2)
  clear hb1 hb2 hr1 hr2 hf hg hz
  go_enter Try.func6, Try.ntmps6
  go_wp2_with (first | ((with_reducible refine wpl_load_row rtTf ?_ (.tmp 2) ?_ (w.heap.size) ?_ 24 (trow o Ad NS cd) ?_ R1.out ?_); rfl; rfl; rfl; rfl; simp only [Act.put, List.setIfInBounds_toArray, List.set_cons_succ, List.set_cons_zero]) | ((with_reducible refine wpl_load_row rtTf ?_ (.tmp 3) ?_ (w.heap.size + 1) ?_ 24 (trow om Ae NT ce) ?_ R2.out ?_); rfl; rfl; rfl; rfl; simp only [Act.put, List.setIfInBounds_toArray, List.set_cons_succ, List.set_cons_zero]))
  generalize (w.alloc (.cells (trow o Ad NS cd) 24)).alloc (.cells (trow om Ae NT ce) 24) = w1 at *
  refine (HU.out _ HF.out).mono ?_
  clear HU
  cases hh : hugeF f with
  | true =>
    clear hh
    rintro e w2 ⟨rfl, hb⟩
    replace R1 := Lib.hid ((hb.block _ (row_lt R1.out)).trans R1.out)
    replace R2 := Lib.hid ((hb.block _ (row_lt R2.out)).trans R2.out)
    replace HF := Lib.hid (HF.out.keep hb)
    replace HG := Lib.hid (HG.out.keep hb)
    replace HB := Lib.hid (HB.out.trans (hb.mono HB.out.size))
    clear hb
    go_wp2_with fail
    refine (awake_any _).mono ?_
    rintro e v1 ⟨rfl, hb⟩
    replace R1 := Lib.hid ((hb.block _ (row_lt R1.out)).trans R1.out)
    replace R2 := Lib.hid ((hb.block _ (row_lt R2.out)).trans R2.out)
    replace HF := Lib.hid (HF.out.keep hb)
    replace HG := Lib.hid (HG.out.keep hb)
    replace HB := Lib.hid (HB.out.trans (hb.mono HB.out.size))
    clear hb
    go_wp2_with fail
    go_ret
    exact ⟨rfl, HB.out⟩
  | false =>
  obtain ⟨hsm, hcnt, hlen⟩ := hugeF_no hh
  have HSM := Lib.hid hsm
  clear hh hsm
  rintro e w2 ⟨rfl, hb⟩
  replace R1 := Lib.hid ((hb.block _ (row_lt R1.out)).trans R1.out)
  replace R2 := Lib.hid ((hb.block _ (row_lt R2.out)).trans R2.out)
  replace HF := Lib.hid (HF.out.keep hb)
  replace HG := Lib.hid (HG.out.keep hb)
  replace HB := Lib.hid (HB.out.trans (hb.mono HB.out.size))
  clear hb
  go_wp2_with (first | ((with_reducible refine wpl_load_row rtTf ?_ (.tmp 2) ?_ (w.heap.size) ?_ 24 (trow o Ad NS cd) ?_ R1.out ?_); rfl; rfl; rfl; rfl; simp only [Act.put, List.setIfInBounds_toArray, List.set_cons_succ, List.set_cons_zero]) | ((with_reducible refine wpl_load_row rtTf ?_ (.tmp 3) ?_ (w.heap.size + 1) ?_ 24 (trow om Ae NT ce) ?_ R2.out ?_); rfl; rfl; rfl; rfl; simp only [Act.put, List.setIfInBounds_toArray, List.set_cons_succ, List.set_cons_zero]))
  refine (HV.out _ HG.out).mono ?_
  clear HV
  cases hh : hugeF g with
  | true =>
    clear hh
    rintro e w3 ⟨rfl, hb⟩
    replace R1 := Lib.hid ((hb.block _ (row_lt R1.out)).trans R1.out)
    replace R2 := Lib.hid ((hb.block _ (row_lt R2.out)).trans R2.out)
    replace HF := Lib.hid (HF.out.keep hb)
    replace HG := Lib.hid (HG.out.keep hb)
    replace HB := Lib.hid (HB.out.trans (hb.mono HB.out.size))
    clear hb
    go_wp2_with fail
    refine (awake_any _).mono ?_
    rintro e v1 ⟨rfl, hb⟩
    replace R1 := Lib.hid ((hb.block _ (row_lt R1.out)).trans R1.out)
    replace R2 := Lib.hid ((hb.block _ (row_lt R2.out)).trans R2.out)
    replace HF := Lib.hid (HF.out.keep hb)
    replace HG := Lib.hid (HG.out.keep hb)
    replace HB := Lib.hid (HB.out.trans (hb.mono HB.out.size))
    clear hb
    go_wp2_with fail
    go_ret
    exact ⟨rfl, HB.out⟩
  | false =>
  obtain ⟨hsmg, hcntg, hleng⟩ := hugeF_no hh
  have HSG := Lib.hid hsmg
  clear hh hsmg
  rintro e w3 ⟨rfl, hb⟩
  replace R1 := Lib.hid ((hb.block _ (row_lt R1.out)).trans R1.out)
  replace R2 := Lib.hid ((hb.block _ (row_lt R2.out)).trans R2.out)
  replace HF := Lib.hid (HF.out.keep hb)
  replace HG := Lib.hid (HG.out.keep hb)
  replace HB := Lib.hid (HB.out.trans (hb.mono HB.out.size))
  clear hb
  rw [HSUB.out] at hlen
  rw [HSUG.out] at hleng
  go_wp2_with fail
  rename_i K3 hK3
  have HK3 := Lib.hid hK3
  clear hK3
  have HLA := Lib.hid (show (f.app g).len = NS + NT by rw [Fo.app_len, HSUB.out, HSUG.out])
  have tail3 : ∀ (X : World) (g5 : Nat) (A31 : Option Addr) (c31 : Nat) (u23 u24 u25 u26 u27 u28 u29 u30 u31 u32 : Value), X.heap[g5]? = some (.cells #[.int .i64 o, .slice A31 (NS + NT) c31] 24 (0, 0)) → FoK X A31 (f.app g) → X.heap[w.heap.size]? = some (.cells (trow o Ad NS cd) 24 (0, 0)) → X.heap[w.heap.size + 1]? = some (.cells (trow om Ae NT ce) 24 (0, 0)) → FoK X Ad f → FoK X Ae g → Below w.heap.size w X → K3 { tmps := #[Value.agg #[Value.int IntKind.i64 o, Value.slice Ad NS cd], Value.agg #[Value.int IntKind.i64 om, Value.slice Ae NT ce], Value.pointer (some { block := w.heap.size, off := 0 }), Value.pointer (some { block := w.heap.size + 1, off := 0 }), Value.bool false, .pointer (some ⟨g5, 0, none⟩), undef, undef, undef, undef, undef, undef, undef, undef, undef, undef, Value.agg (trow o Ad NS cd), Value.bool false, Value.bool false, Value.agg (trow om Ae NT ce), Value.bool false, Value.bool false, undef, u23, u24, u25, u26, u27, u28, u29, u30, u31, u32, undef, undef, undef, undef, undef, undef, undef, undef, undef, undef, undef, undef, undef, undef, undef, undef, undef, undef, undef, undef, undef, undef, undef, undef, undef, undef, undef, undef, undef, undef, undef, undef, undef, undef, undef, undef, undef, undef, undef, undef, undef, undef, undef, undef, undef, undef, undef, undef, undef, undef, undef, undef, undef, undef, undef, undef, undef, undef, undef, undef, undef, undef, undef, undef, undef, undef, undef, undef, undef, undef, undef, undef, undef, undef, undef, undef, undef, undef, undef, undef, undef, undef, undef], defers := [] } X := by
    intro X g5 A31 c31 u23 u24 u25 u26 u27 u28 u29 u30 u31 u32 hr5 hfb hr1 hr2 hf hg hb
    clear R1 R2 HF HG HB
    have R5 := Lib.hid hr5
    have HFB := Lib.hid hfb
    have R1 := Lib.hid hr1
    have R2 := Lib.hid hr2
    have HF := Lib.hid hf
    have HG := Lib.hid hg
    have HB := Lib.hid hb
    clear hr5 hfb hr1 hr2 hf hg hb
    refine HK3.out _ _ ?_
    clear HK3
    dsimp only
    have HLF := Lib.hid (fun (W : World) (h : FoK W Ad f) => lof_any o Ad cd f W h HSM.out (by omega))
    have HLG := Lib.hid (fun (W : World) (h : FoK W Ae g) => lof_any om Ae ce g W h HSG.out (by omega))
    have HLB := Lib.hid (fun (W : World) (h : FoK W A31 (f.app g)) => lof_any o A31 c31 (f.app g) W h (smF_app HSM.out HSG.out) (by rw [Fo.app_cnt]; omega))
    rw [HSUB.out] at HLF
    rw [HSUG.out] at HLG
    rw [HLA.out] at HLB
    have HOF := Lib.hid (okF_may (f := f) HSM.out (by omega))
    have HOG := Lib.hid (okF_may (f := g) HSG.out (by omega))
    have HOB := Lib.hid (okF_app HSM.out HSG.out hcnt hcntg)
    cases hmf : mayF f with
    | false =>
      have k1 : okF f = false := by rw [HOF.out, hmf]
      have k3 : okF (f.app g) = false := by rw [HOB.out, hmf]; rfl
      have K1 := Lib.hid k1
      have K3_ := Lib.hid k3
      clear k1 k3 hmf
      go_wp2_with ((with_reducible refine wpl_load_row rtTf ?_ (.tmp 2) ?_ (w.heap.size) ?_ 24 (trow o Ad NS cd) ?_ R1.out ?_); rfl; rfl; rfl; rfl; simp only [Act.put, List.setIfInBounds_toArray, List.set_cons_succ, List.set_cons_zero])
      refine (HLF.out _ HF.out).mono ?_
      rintro e t1 ⟨A6, c6, rfl, ho, hb⟩
      have hs := ho.sl'.2.1
      rw [K1.out]
      replace R1 := Lib.hid ((hb.block _ (row_lt R1.out)).trans R1.out)
      replace R2 := Lib.hid ((hb.block _ (row_lt R2.out)).trans R2.out)
      replace R5 := Lib.hid ((hb.block _ (row_lt R5.out)).trans R5.out)
      replace HF := Lib.hid (HF.out.keep hb)
      replace HG := Lib.hid (HG.out.keep hb)
      replace HFB := Lib.hid (HFB.out.keep hb)
      replace HB := Lib.hid (HB.out.trans (hb.mono HB.out.size))
      have HS6 := Lib.hid hs
      clear ho hb hs
      go_wp2_with ((with_reducible refine wpl_load_row rtTf ?_ (.tmp 3) ?_ (w.heap.size + 1) ?_ 24 (trow om Ae NT ce) ?_ R2.out ?_); rfl; rfl; rfl; rfl; simp only [Act.put, List.setIfInBounds_toArray, List.set_cons_succ, List.set_cons_zero])
      refine (HLG.out _ HG.out).mono ?_
      rintro e t2 ⟨A8, c8, rfl, ho, hb⟩
      have hs := ho.sl'.2.1
      replace R1 := Lib.hid ((hb.block _ (row_lt R1.out)).trans R1.out)
      replace R2 := Lib.hid ((hb.block _ (row_lt R2.out)).trans R2.out)
      replace R5 := Lib.hid ((hb.block _ (row_lt R5.out)).trans R5.out)
      replace HF := Lib.hid (HF.out.keep hb)
      replace HG := Lib.hid (HG.out.keep hb)
      replace HFB := Lib.hid (HFB.out.keep hb)
      replace HS6 := Lib.hid (HS6.out.keep hb)
      replace HB := Lib.hid (HB.out.trans (hb.mono HB.out.size))
      have HS8 := Lib.hid hs
      clear ho hb hs
      go_wp2_with ((with_reducible refine wpl_load_row rtTf ?_ (.tmp 5) ?_ (g5) ?_ 24 (#[.int .i64 o, .slice A31 (NS + NT) c31]) ?_ R5.out ?_); rfl; rfl; rfl; rfl; simp only [Act.put, List.setIfInBounds_toArray, List.set_cons_succ, List.set_cons_zero])
      refine (HLB.out _ HFB.out).mono ?_
      rintro e t3 ⟨A10, c10, rfl, ho, hb⟩
      have hs := ho.sl'.2.1
      rw [K3_.out]
      replace R1 := Lib.hid ((hb.block _ (row_lt R1.out)).trans R1.out)
      replace R2 := Lib.hid ((hb.block _ (row_lt R2.out)).trans R2.out)
      replace R5 := Lib.hid ((hb.block _ (row_lt R5.out)).trans R5.out)
      replace HF := Lib.hid (HF.out.keep hb)
      replace HG := Lib.hid (HG.out.keep hb)
      replace HFB := Lib.hid (HFB.out.keep hb)
      replace HS6 := Lib.hid (HS6.out.keep hb)
      replace HS8 := Lib.hid (HS8.out.keep hb)
      replace HB := Lib.hid (HB.out.trans (hb.mono HB.out.size))
      have HS10 := Lib.hid hs
      clear ho hb hs
      go_wp2_with fail
      refine (awake_any _).mono ?_
      rintro e t4 ⟨rfl, hb⟩
      replace R1 := Lib.hid ((hb.block _ (row_lt R1.out)).trans R1.out)
      replace R2 := Lib.hid ((hb.block _ (row_lt R2.out)).trans R2.out)
      replace R5 := Lib.hid ((hb.block _ (row_lt R5.out)).trans R5.out)
      replace HF := Lib.hid (HF.out.keep hb)
      replace HG := Lib.hid (HG.out.keep hb)
      replace HFB := Lib.hid (HFB.out.keep hb)
      replace HS6 := Lib.hid (HS6.out.keep hb)
      replace HS8 := Lib.hid (HS8.out.keep hb)
      replace HS10 := Lib.hid (HS10.out.keep hb)
      replace HB := Lib.hid (HB.out.trans (hb.mono HB.out.size))
      clear hb
      go_wp2_with fail
      go_ret
      exact ⟨rfl, HB.out⟩
    | true =>
      cases hmg : mayF g with
      | false =>
        have k1 : okF f = true := by rw [HOF.out, hmf]
        have k2 : okF g = false := by rw [HOG.out, hmg]
        have k3 : okF (f.app g) = false := by rw [HOB.out, hmf, hmg]; rfl
        have K1 := Lib.hid k1
        have K2_ := Lib.hid k2
        have K3_ := Lib.hid k3
        clear k1 k2 k3 hmf hmg
        go_wp2_with ((with_reducible refine wpl_load_row rtTf ?_ (.tmp 2) ?_ (w.heap.size) ?_ 24 (trow o Ad NS cd) ?_ R1.out ?_); rfl; rfl; rfl; rfl; simp only [Act.put, List.setIfInBounds_toArray, List.set_cons_succ, List.set_cons_zero])
        refine (HLF.out _ HF.out).mono ?_
        rintro e t1 ⟨A6, c6, rfl, ho, hb⟩
        have hs := ho.sl'.2.1
        rw [K1.out]
        replace R1 := Lib.hid ((hb.block _ (row_lt R1.out)).trans R1.out)
        replace R2 := Lib.hid ((hb.block _ (row_lt R2.out)).trans R2.out)
        replace R5 := Lib.hid ((hb.block _ (row_lt R5.out)).trans R5.out)
        replace HF := Lib.hid (HF.out.keep hb)
        replace HG := Lib.hid (HG.out.keep hb)
        replace HFB := Lib.hid (HFB.out.keep hb)
        replace HB := Lib.hid (HB.out.trans (hb.mono HB.out.size))
        have HS6 := Lib.hid hs
        clear ho hb hs
        go_wp2_with ((with_reducible refine wpl_load_row rtTf ?_ (.tmp 3) ?_ (w.heap.size + 1) ?_ 24 (trow om Ae NT ce) ?_ R2.out ?_); rfl; rfl; rfl; rfl; simp only [Act.put, List.setIfInBounds_toArray, List.set_cons_succ, List.set_cons_zero])
        refine (HLG.out _ HG.out).mono ?_
        rintro e t2 ⟨A8, c8, rfl, ho, hb⟩
        have hs := ho.sl'.2.1
        rw [K2_.out]
        replace R1 := Lib.hid ((hb.block _ (row_lt R1.out)).trans R1.out)
        replace R2 := Lib.hid ((hb.block _ (row_lt R2.out)).trans R2.out)
        replace R5 := Lib.hid ((hb.block _ (row_lt R5.out)).trans R5.out)
        replace HF := Lib.hid (HF.out.keep hb)
        replace HG := Lib.hid (HG.out.keep hb)
        replace HFB := Lib.hid (HFB.out.keep hb)
        replace HS6 := Lib.hid (HS6.out.keep hb)
        replace HB := Lib.hid (HB.out.trans (hb.mono HB.out.size))
        have HS8 := Lib.hid hs
        clear ho hb hs
        go_wp2_with ((with_reducible refine wpl_load_row rtTf ?_ (.tmp 5) ?_ (g5) ?_ 24 (#[.int .i64 o, .slice A31 (NS + NT) c31]) ?_ R5.out ?_); rfl; rfl; rfl; rfl; simp only [Act.put, List.setIfInBounds_toArray, List.set_cons_succ, List.set_cons_zero])
        refine (HLB.out _ HFB.out).mono ?_
        rintro e t3 ⟨A10, c10, rfl, ho, hb⟩
        have hs := ho.sl'.2.1
        rw [K3_.out]
        replace R1 := Lib.hid ((hb.block _ (row_lt R1.out)).trans R1.out)
        replace R2 := Lib.hid ((hb.block _ (row_lt R2.out)).trans R2.out)
        replace R5 := Lib.hid ((hb.block _ (row_lt R5.out)).trans R5.out)
        replace HF := Lib.hid (HF.out.keep hb)
        replace HG := Lib.hid (HG.out.keep hb)
        replace HFB := Lib.hid (HFB.out.keep hb)
        replace HS6 := Lib.hid (HS6.out.keep hb)
        replace HS8 := Lib.hid (HS8.out.keep hb)
        replace HB := Lib.hid (HB.out.trans (hb.mono HB.out.size))
        have HS10 := Lib.hid hs
        clear ho hb hs
        go_wp2_with fail
        refine (awake_any _).mono ?_
        rintro e t4 ⟨rfl, hb⟩
        replace R1 := Lib.hid ((hb.block _ (row_lt R1.out)).trans R1.out)
        replace R2 := Lib.hid ((hb.block _ (row_lt R2.out)).trans R2.out)
        replace R5 := Lib.hid ((hb.block _ (row_lt R5.out)).trans R5.out)
        replace HF := Lib.hid (HF.out.keep hb)
        replace HG := Lib.hid (HG.out.keep hb)
        replace HFB := Lib.hid (HFB.out.keep hb)
        replace HS6 := Lib.hid (HS6.out.keep hb)
        replace HS8 := Lib.hid (HS8.out.keep hb)
        replace HS10 := Lib.hid (HS10.out.keep hb)
        replace HB := Lib.hid (HB.out.trans (hb.mono HB.out.size))
        clear hb
        go_wp2_with fail
        go_ret
        exact ⟨rfl, HB.out⟩
      | true =>
        have k1 : okF f = true := by rw [HOF.out, hmf]
        have k2 : okF g = true := by rw [HOG.out, hmg]
        have k3 : okF (f.app g) = true := by rw [HOB.out, hmf, hmg]; rfl
        obtain ⟨E, hE1, hE2⟩ := lay_grows f g
        obtain ⟨r, hr, hsd⟩ := lay_side (f := g)
        obtain rfl : E = r := (List.cons.inj (hE1.symm.trans hr)).2
        have HSM2 := Lib.hid (sideL_mem hsd)
        have hEg := (layF_bd2 g headL 0 HSG.out hmg).2
        have hEf := layF_bd2 f headL 0 HSM.out hmf
        rw [show endL headL = 8 from rfl] at hEg hEf
        rw [hr] at hEg
        have hlf := (layF_bd0 HSM.out (by omega)).2.2
        have hlg := (layF_bd0 HSG.out (by omega)).2.2
        have o1 : ofF f = layF headL 0 f := by unfold ofF; rw [k1]; rfl
        have o2 : ofF g = hS :: E := by unfold ofF; rw [k2, if_pos rfl]; exact hr
        have o3 : ofF (f.app g) = layF headL 0 f ++ E.map (shS f.cnt (endL (layF headL 0 f) + endL (layF headL 0 f) % 2 - 8)) := by unfold ofF; rw [k3, if_pos rfl]; exact hE2
        have hL0 : longF f = endL (layF headL 0 f) := by unfold longF; rw [o1]
        rw [hr, List.length_cons] at hlg
        generalize layF headL 0 f = lf at *
        generalize hEE : endL lf = E0 at *
        generalize hBY : E0 + E0 % 2 - 8 = BY at *
        have K1 := Lib.hid (And.intro k1 o1)
        have K2_ := Lib.hid (And.intro k2 o2)
        have K3_ := Lib.hid (And.intro k3 o3)
        have HL0 := Lib.hid hL0
        have HBY := Lib.hid hBY
        clear k1 k2 k3 o1 o2 o3 hL0 hmf hmg hE1 hE2 hr hsd hEE hBY
        go_wp2_with ((with_reducible refine wpl_load_row rtTf ?_ (.tmp 2) ?_ (w.heap.size) ?_ 24 (trow o Ad NS cd) ?_ R1.out ?_); rfl; rfl; rfl; rfl; simp only [Act.put, List.setIfInBounds_toArray, List.set_cons_succ, List.set_cons_zero])
        refine (HLF.out _ HF.out).mono ?_
        rintro e t1 ⟨A6, c6, rfl, ho, hb⟩
        have hs := ho.sl'.2.1
        rw [K1.out.1, K1.out.2]
        rw [K1.out.2] at hs
        replace R1 := Lib.hid ((hb.block _ (row_lt R1.out)).trans R1.out)
        replace R2 := Lib.hid ((hb.block _ (row_lt R2.out)).trans R2.out)
        replace R5 := Lib.hid ((hb.block _ (row_lt R5.out)).trans R5.out)
        replace HF := Lib.hid (HF.out.keep hb)
        replace HG := Lib.hid (HG.out.keep hb)
        replace HFB := Lib.hid (HFB.out.keep hb)
        replace HB := Lib.hid (HB.out.trans (hb.mono HB.out.size))
        have HS6 := Lib.hid hs
        clear ho hb hs
        go_wp2_with ((with_reducible refine wpl_load_row rtTf ?_ (.tmp 3) ?_ (w.heap.size + 1) ?_ 24 (trow om Ae NT ce) ?_ R2.out ?_); rfl; rfl; rfl; rfl; simp only [Act.put, List.setIfInBounds_toArray, List.set_cons_succ, List.set_cons_zero])
        refine (HLG.out _ HG.out).mono ?_
        rintro e t2 ⟨A8, c8, rfl, ho, hb⟩
        have hs := ho.sl'.2.1
        rw [K2_.out.1, K2_.out.2]
        rw [K2_.out.2] at hs
        replace R1 := Lib.hid ((hb.block _ (row_lt R1.out)).trans R1.out)
        replace R2 := Lib.hid ((hb.block _ (row_lt R2.out)).trans R2.out)
        replace R5 := Lib.hid ((hb.block _ (row_lt R5.out)).trans R5.out)
        replace HF := Lib.hid (HF.out.keep hb)
        replace HG := Lib.hid (HG.out.keep hb)
        replace HFB := Lib.hid (HFB.out.keep hb)
        replace HS6 := Lib.hid (HS6.out.keep hb)
        replace HB := Lib.hid (HB.out.trans (hb.mono HB.out.size))
        have HS8 := Lib.hid hs
        clear ho hb hs
        go_wp2_with ((with_reducible refine wpl_load_row rtTf ?_ (.tmp 5) ?_ (g5) ?_ 24 (#[.int .i64 o, .slice A31 (NS + NT) c31]) ?_ R5.out ?_); rfl; rfl; rfl; rfl; simp only [Act.put, List.setIfInBounds_toArray, List.set_cons_succ, List.set_cons_zero])
        refine (HLB.out _ HFB.out).mono ?_
        rintro e t3 ⟨A10, c10, rfl, ho, hb⟩
        have hs := ho.sl'.2.1
        rw [K3_.out.1, K3_.out.2]
        rw [K3_.out.2] at hs
        replace R1 := Lib.hid ((hb.block _ (row_lt R1.out)).trans R1.out)
        replace R2 := Lib.hid ((hb.block _ (row_lt R2.out)).trans R2.out)
        replace R5 := Lib.hid ((hb.block _ (row_lt R5.out)).trans R5.out)
        replace HF := Lib.hid (HF.out.keep hb)
        replace HG := Lib.hid (HG.out.keep hb)
        replace HFB := Lib.hid (HFB.out.keep hb)
        replace HS6 := Lib.hid (HS6.out.keep hb)
        replace HS8 := Lib.hid (HS8.out.keep hb)
        replace HB := Lib.hid (HB.out.trans (hb.mono HB.out.size))
        have HS10 := Lib.hid hs
        clear ho hb hs
        generalize hn1 : lf.length = n1 at *
        have HN1 := Lib.hid hn1
        have HN2 := Lib.hid (show (hS :: E).length = E.length + 1 from rfl)
        have HN3 := Lib.hid (show (lf ++ E.map (shS f.cnt BY)).length = n1 + E.length by rw [List.length_append, List.length_map, hn1])
        clear hn1
        try rw [HN2.out]
        rw [HN3.out]
        generalize hne : E.length = ne at *
        have HNE := Lib.hid hne
        clear hne
        obtain ⟨n3, hn3⟩ : ∃ n3, n1 + ne = n3 := ⟨_, rfl⟩
        obtain ⟨n2, hn2⟩ : ∃ n2, ne + 1 = n2 := ⟨_, rfl⟩
        rw [hn3]
        try rw [hn2]
        have HN3b := Lib.hid hn3
        have HN2b := Lib.hid hn2
        have e3 : ((n3 : Int) == (n1 : Int) + (n2 : Int) - 1) = true := by rw [beq_iff_eq]; omega
        have e4 : ((n3 : Int) != (n1 : Int) + (n2 : Int) - 1) = false := by rw [bne_eq_false_iff_eq]; omega
        have hb3 : n3 ≤ 200000 ∧ n1 ≤ 200000 ∧ n2 ≤ 200000 := by omega
        clear hn3 hn2
        have HRD := Lib.hid (fun (W : World) (h : FoK W Ad f) => rdirs_any W.heap.size o Ad cd f W h (Nat.le_refl _) (by omega))
        rw [HSUB.out] at HRD
        have HLL := Lib.hid (fun (W : World) (h : FoK W Ad f) => llong_any o Ad cd f W h HSM.out (by omega))
        rw [HSUB.out, HL0.out] at HLL
        go_wp2_with ((with_reducible refine wpl_load_row rtTf ?_ (.tmp 2) ?_ (w.heap.size) ?_ 24 (trow o Ad NS cd) ?_ R1.out ?_); rfl; rfl; rfl; rfl; simp only [Act.put, List.setIfInBounds_toArray, List.set_cons_succ, List.set_cons_zero])
        clear e3 e4
        refine (HRD.out _ HF.out).mono ?_
        clear HRD
        rintro e t4 ⟨A12, c12, xs12, rfl, _, _, hb⟩
        replace R1 := Lib.hid ((hb.block _ (row_lt R1.out)).trans R1.out)
        replace R2 := Lib.hid ((hb.block _ (row_lt R2.out)).trans R2.out)
        replace R5 := Lib.hid ((hb.block _ (row_lt R5.out)).trans R5.out)
        replace HF := Lib.hid (HF.out.keep hb)
        replace HG := Lib.hid (HG.out.keep hb)
        replace HFB := Lib.hid (HFB.out.keep hb)
        replace HS6 := Lib.hid (HS6.out.keep hb)
        replace HS8 := Lib.hid (HS8.out.keep hb)
        replace HS10 := Lib.hid (HS10.out.keep hb)
        replace HB := Lib.hid (HB.out.trans (hb.mono HB.out.size))
        clear hb
        generalize hcn : f.cnt = CN at *
        go_wp2_with fail
        have LT_R1 : _ < t4.heap.size := row_lt R1.out
        have LT_R2 : _ < t4.heap.size := row_lt R2.out
        have LT_R5 : _ < t4.heap.size := row_lt R5.out
        have SZ : t4.heap.size ≤ t4.drew.heap.size := Nat.le_refl _
        have hb := ud' (brefl t4)
        replace R1 := Lib.hid ((hb.block _ (row_lt R1.out)).trans R1.out)
        replace R2 := Lib.hid ((hb.block _ (row_lt R2.out)).trans R2.out)
        replace R5 := Lib.hid ((hb.block _ (row_lt R5.out)).trans R5.out)
        replace HF := Lib.hid (HF.out.keep hb)
        replace HG := Lib.hid (HG.out.keep hb)
        replace HFB := Lib.hid (HFB.out.keep hb)
        replace HS6 := Lib.hid (HS6.out.keep hb)
        replace HS8 := Lib.hid (HS8.out.keep hb)
        replace HS10 := Lib.hid (HS10.out.keep hb)
        replace HB := Lib.hid (HB.out.trans (hb.mono HB.out.size))
        clear hb
        refine Tin.reg_begin (t4.heap.size) 8 (by rfl) (by kernel_rfl) ?_
        generalize t4.drew = y0 at *
        refine Tin.reg_quiets [0, 2] _ 6 rfl (by simp only [Tin.pick, List.map_cons, List.map_nil, Array.getD_eq_getD_getElem?, List.getElem?_toArray, List.getElem?_cons_zero, List.getElem?_cons_succ, Option.getD_some]; rfl) (by kernel_rfl) (by kernel_rfl) ?_
        repeat (first | ((with_reducible refine wpq_load_row rtTf ?_ (.tmp 2) ?_ (w.heap.size) ?_ 24 (trow o Ad NS cd) ?_ (fun W h => by obtain ⟨p, rfl⟩ := h; exact (p.h.block _ LT_R1).trans R1.out) ?_); rfl; rfl; rfl; rfl; simp only [Act.put, List.setIfInBounds_toArray, List.set_cons_succ, List.set_cons_zero]) | go_big_quiet_step (fail))
        refine wpQuiet_nil ?_
        refine Tin.reg_one 1 _ rfl (by kernel_rfl) ?_
        try simp only [List.getElem_toArray, List.getElem_cons_succ, List.getElem_cons_zero]
        go_wp2_with fail
        refine (HLL.out _ HF.out).mono ?_
        rintro e t5 ⟨rfl, hv⟩
        go_wp2_with fail
        refine ⟨t4.heap.size, hv.mono SZ, Nat.le_refl _, ?_⟩
        replace R1 := Lib.hid ((hv.block _ (row_lt R1.out)).trans R1.out)
        replace R2 := Lib.hid ((hv.block _ (row_lt R2.out)).trans R2.out)
        replace R5 := Lib.hid ((hv.block _ (row_lt R5.out)).trans R5.out)
        replace HF := Lib.hid (HF.out.keep hv)
        replace HG := Lib.hid (HG.out.keep hv)
        replace HFB := Lib.hid (HFB.out.keep hv)
        replace HS6 := Lib.hid (HS6.out.keep hv)
        replace HS8 := Lib.hid (HS8.out.keep hv)
        replace HS10 := Lib.hid (HS10.out.keep hv)
        replace HB := Lib.hid (HB.out.trans (hv.mono HB.out.size))
        replace SZ := Nat.le_trans SZ hv.size
        clear hv
        refine Tin.reg_one 3 _ rfl (by kernel_rfl) ?_
        try simp only [List.getElem_toArray, List.getElem_cons_succ, List.getElem_cons_zero]
        go_wp2_with fail
        refine (HLL.out _ HF.out).mono ?_
        rintro e t6 ⟨rfl, hv⟩
        go_wp2_with fail
        refine ⟨t4.heap.size, hv.mono SZ, Nat.le_refl _, ?_⟩
        replace R1 := Lib.hid ((hv.block _ (row_lt R1.out)).trans R1.out)
        replace R2 := Lib.hid ((hv.block _ (row_lt R2.out)).trans R2.out)
        replace R5 := Lib.hid ((hv.block _ (row_lt R5.out)).trans R5.out)
        replace HF := Lib.hid (HF.out.keep hv)
        replace HG := Lib.hid (HG.out.keep hv)
        replace HFB := Lib.hid (HFB.out.keep hv)
        replace HS6 := Lib.hid (HS6.out.keep hv)
        replace HS8 := Lib.hid (HS8.out.keep hv)
        replace HS10 := Lib.hid (HS10.out.keep hv)
        replace HB := Lib.hid (HB.out.trans (hv.mono HB.out.size))
        replace SZ := Nat.le_trans SZ hv.size
        clear hv
        have ht : Int.tmod E0 2 = E0 % 2 := Int.tmod_eq_emod_of_nonneg (by omega)
        have hm2 : 0 ≤ E0 % 2 ∧ E0 % 2 ≤ 1 := by omega
        refine Tin.reg_quiets [4, 5, 6, 7] _ 0 rfl (by simp only [Tin.pick, List.map_cons, List.map_nil, Array.getD_eq_getD_getElem?, List.getElem?_toArray, List.getElem?_cons_zero, List.getElem?_cons_succ, Option.getD_some]; rfl) (by kernel_rfl) (by kernel_rfl) ?_
        repeat (first | go_big_quiet_step (fail))
        refine wpQuiet_nil ?_
        refine Tin.reg_done (by kernel_rfl) ?_
        clear ht hm2
        go_wp2_with fail
        rw [HBY.out]
        have hBY : -10 ≤ BY ∧ BY ≤ 10000000 := by have := HBY.out; omega
        have hcnb : CN ≤ 40 := hcnt
        try simp only [Bool.not_true, Bool.not_false]
        obtain ⟨q1, hq1⟩ : ∃ q1, q1 = t6 := ⟨_, rfl⟩
        rw [← hq1] at HS6 HS8 HS10 HB ⊢
        clear hq1 R1 R2 R5 HF HG HFB HLL HLF HLG HLB
        go_loopw [14] (fun s14 wr => ∃ (i : Nat), i ≤ n3 ∧ s14 = .int .i64 (i : Int) ∧ Below q1.heap.size q1 wr) (fun s14 _ => n3 - (intOf s14).toNat)
        case atStart => exact ⟨0, by omega, rfl, Below.refl _ _⟩
        case round =>
          obtain ⟨i, hi, rfl, hbj⟩ := hrel
          have HBJ := Lib.hid hbj
          clear hbj
          by_cases hin : i < n3
          case neg =>
            obtain rfl : i = n3 := by omega
            replace HB := Lib.hid (HB.out.trans (HBJ.out.mono HB.out.size))
            go_wp2_with fail
            refine (awake_any _).mono ?_
            rintro e a7 ⟨rfl, hb⟩
            replace HB := Lib.hid (HB.out.trans (hb.mono HB.out.size))
            clear hb
            go_wp2_with fail
            go_ret
            exact ⟨rfl, HB.out⟩
          have i1 : (i : Int) < (n3 : Int) := by omega
          have HN33 := HN3.out
          have hi10 : i < (lf ++ E.map (shS CN BY)).length := by rw [HN33]; have := HN3b.out; omega
          obtain ⟨b10, off10, rfl, hb10, hc10⟩ := SpS.at_ HS10.out (by omega)
          have hr10 := hc10 i hi10
          clear hc10
          by_cases hi1 : i < n1
          · have i2 : (i : Int) < (n1 : Int) := by omega
            have hil : i < lf.length := by rw [HN1.out]; exact hi1
            rw [List.getElem_append_left hil] at hr10
            obtain ⟨b6, off6, rfl, hb6, hc6⟩ := SpS.at_ HS6.out (by omega)
            have hr6 := hc6 i hil
            clear hc6
            generalize lf[i] = s at *
            obtain ⟨s1, s2, s3, s4, s5⟩ := s
            have E10 := Lib.hid (show RgK wr b10 (off10 + i * 5) [.int .i64 s1, .int .i64 s2, .int .i64 s3, .int .i64 s4, .int .i64 s5] from ⟨Nat.lt_of_lt_of_le hb10 HBJ.out.size, rng_below HBJ.out hb10 hr10⟩)
            have E6 := Lib.hid (RgK.keep (show RgK wr b6 (off6 + i * 5) [.int .i64 s1, .int .i64 s2, .int .i64 s3, .int .i64 s4, .int .i64 s5] from ⟨Nat.lt_of_lt_of_le hb6 HBJ.out.size, rng_below HBJ.out hb6 hr6⟩) (ba (brefl wr) (.cells #[.int .i64 0, .int .i64 0, .int .i64 0, .int .i64 0, .int .i64 0] 53)))
            clear hr6 hr10
            go_wp2_with ((with_reducible refine wpl_loadv rtSp ?_ (.tmp 89) ?_ b6 (off6 + i * 5) ?_ [.int .i64 s1, .int .i64 s2, .int .i64 s3, .int .i64 s4, .int .i64 s5] ?_ E6.out.rng ?_); rfl; rfl; rfl; rfl; simp only [Act.put, List.setIfInBounds_toArray, List.set_cons_succ, List.set_cons_zero])
            clear E6
            have R15 := Lib.hid (heap_alloc_new wr (.cells #[.int .i64 s1, .int .i64 s2, .int .i64 s3, .int .i64 s4, .int .i64 s5] 53))
            have hba := ba (brefl wr) (.cells #[.int .i64 s1, .int .i64 s2, .int .i64 s3, .int .i64 s4, .int .i64 s5] 53)
            replace E10 := Lib.hid (E10.out.keep hba)
            replace HBJ := Lib.hid (HBJ.out.trans (hba.mono HBJ.out.size))
            clear hba
            generalize wr.alloc (.cells #[.int .i64 s1, .int .i64 s2, .int .i64 s3, .int .i64 s4, .int .i64 s5] 53) = y2 at *
            generalize wr.heap.size = g15 at *
            have LTP := E10.out.1
            have LT_R15 : _ < y2.heap.size := row_lt R15.out
            have SZ : y2.heap.size ≤ y2.drew.heap.size := Nat.le_refl _
            have hb := ud' (brefl y2)
            replace R15 := Lib.hid ((hb.block _ (row_lt R15.out)).trans R15.out)
            replace E10 := Lib.hid (E10.out.keep hb)
            replace HBJ := Lib.hid (HBJ.out.trans (hb.mono HBJ.out.size))
            clear hb
            refine Tin.reg_begin (y2.heap.size) 6 (by rfl) (by kernel_rfl) ?_
            refine Tin.reg_quiets [0, 1, 2, 3, 4, 5] _ 0 rfl (by simp only [Tin.pick, List.map_cons, List.map_nil, Array.getD_eq_getD_getElem?, List.getElem?_toArray, List.getElem?_cons_zero, List.getElem?_cons_succ, Option.getD_some]; rfl) (by kernel_rfl) (by kernel_rfl) ?_
            repeat (first | ((with_reducible refine wpq_loadv rtSp ?_ (.tmp 111) ?_ b10 (off10 + i * 5) ?_ [.int .i64 s1, .int .i64 s2, .int .i64 s3, .int .i64 s4, .int .i64 s5] ?_ (fun W h => by obtain ⟨p, rfl⟩ := h; exact rng_below p.h LTP E10.out.rng) ?_); rfl; rfl; rfl; rfl; simp only [Act.put, List.setIfInBounds_toArray, List.set_cons_succ, List.set_cons_zero]) | ((with_reducible refine wpq_load_row rtSp ?_ (.tmp 15) ?_ (g15) ?_ 53 (#[.int .i64 s1, .int .i64 s2, .int .i64 s3, .int .i64 s4, .int .i64 s5]) ?_ (fun W h => by obtain ⟨p, rfl⟩ := h; exact (p.h.block _ LT_R15).trans R15.out) ?_); rfl; rfl; rfl; rfl; simp only [Act.put, List.setIfInBounds_toArray, List.set_cons_succ, List.set_cons_zero]) | ((with_reducible refine wpq_neq spotE ?_ (.tmp 112) (.tmp 113) 53 rfl rfl rfl (spot_q _ _ _ _ _) ?_); rfl; simp only [Act.put, List.setIfInBounds_toArray, List.set_cons_succ, List.set_cons_zero]) | go_big_quiet_step (fail))
            refine wpQuiet_nil ?_
            refine Tin.reg_done (by kernel_rfl) ?_
            go_wp2_with fail
            exact ⟨⟨i + 1, by omega, rfl, HBJ.out⟩, by simp only [intOf]; omega⟩
          have i2 : ¬ (i : Int) < (n1 : Int) := by omega
          obtain ⟨j, hj⟩ : ∃ j, i = n1 + j := ⟨i - n1, by omega⟩
          have hjE : j < E.length := by rw [HNE.out]; have := HN3b.out; omega
          have hg10 : (lf ++ E.map (shS CN BY))[i] = shS CN BY E[j] := by subst hj; rw [List.getElem_append_right (by rw [HN1.out]; omega), List.getElem_map]; simp only [HN1.out, Nat.add_sub_cancel_left]
          rw [hg10] at hr10
          obtain ⟨b8, off8, rfl, hb8, hc8⟩ := SpS.at_ HS8.out (by rw [HN2.out]; omega)
          have hr8 : q1.rangeAt b8 (off8 + (j + 1) * 5) (spC E[j]) := hc8 (j + 1) (by rw [HN2.out]; omega)
          have hbd := HSM2.out _ (List.getElem_mem hjE)
          rw [flatF_len] at hbd
          clear hc8 hg10
          generalize E[j] = s at *
          obtain ⟨s1, s2, s3, s4, s5⟩ := s
          dsimp only at hbd
          have e2 : (i : Int) - (n1 : Int) = (j : Int) := by omega
          have e6 : (j : Int) + 1 < (n2 : Int) := by have h1 := HN2b.out; have h2 := HNE.out; omega
          have e7 : 0 ≤ (j : Int) + 1 := by omega
          have hs8 : 0 ≤ s4 := by have := hbd.2.2.1; rw [show hS.a + hS.l = 8 from rfl] at this; omega
          obtain ⟨d1, d2, d3, d4, d5⟩ := hbd
          rw [show hS.a + hS.l = 8 from rfl] at d3
          have E10 := Lib.hid (show RgK wr b10 (off10 + i * 5) [.int .i64 s1, .int .i64 (s2 + (CN : Int)), .int .i64 s3, .int .i64 (s4 + BY), .int .i64 s5] from ⟨Nat.lt_of_lt_of_le hb10 HBJ.out.size, rng_below HBJ.out hb10 hr10⟩)
          have E8 := Lib.hid (RgK.keep (show RgK wr b8 (off8 + (j + 1) * 5) [.int .i64 s1, .int .i64 s2, .int .i64 s3, .int .i64 s4, .int .i64 s5] from ⟨Nat.lt_of_lt_of_le hb8 HBJ.out.size, rng_below HBJ.out hb8 hr8⟩) (ba (brefl wr) (.cells #[.int .i64 0, .int .i64 0, .int .i64 0, .int .i64 0, .int .i64 0] 53)))
          have HJ := Lib.hid hj
          clear hr8 hr10 hj
          go_wp2_with ((with_reducible refine wpl_loadv rtSp ?_ (.tmp 97) ?_ b8 (off8 + (j + 1) * 5) ?_ [.int .i64 s1, .int .i64 s2, .int .i64 s3, .int .i64 s4, .int .i64 s5] ?_ E8.out.rng ?_); rfl; rfl; rfl; rfl; simp only [Act.put, List.setIfInBounds_toArray, List.set_cons_succ, List.set_cons_zero])
          clear E8 e2 e6 e7
          have R15 := Lib.hid (heap_alloc_new wr (.cells #[.int .i64 s1, .int .i64 (s2 + (CN : Int)), .int .i64 s3, .int .i64 (s4 + BY), .int .i64 s5] 53))
          have hba := ba (brefl wr) (.cells #[.int .i64 s1, .int .i64 (s2 + (CN : Int)), .int .i64 s3, .int .i64 (s4 + BY), .int .i64 s5] 53)
          replace E10 := Lib.hid (E10.out.keep hba)
          replace HBJ := Lib.hid (HBJ.out.trans (hba.mono HBJ.out.size))
          clear hba
          generalize wr.alloc (.cells #[.int .i64 s1, .int .i64 (s2 + (CN : Int)), .int .i64 s3, .int .i64 (s4 + BY), .int .i64 s5] 53) = y2 at *
          generalize wr.heap.size = g15 at *
          have LTP := E10.out.1
          have LT_R15 : _ < y2.heap.size := row_lt R15.out
          have SZ : y2.heap.size ≤ y2.drew.heap.size := Nat.le_refl _
          have hb := ud' (brefl y2)
          replace R15 := Lib.hid ((hb.block _ (row_lt R15.out)).trans R15.out)
          replace E10 := Lib.hid (E10.out.keep hb)
          replace HBJ := Lib.hid (HBJ.out.trans (hb.mono HBJ.out.size))
          clear hb
          refine Tin.reg_begin (y2.heap.size) 6 (by rfl) (by kernel_rfl) ?_
          refine Tin.reg_quiets [0, 1, 2, 3, 4, 5] _ 0 rfl (by simp only [Tin.pick, List.map_cons, List.map_nil, Array.getD_eq_getD_getElem?, List.getElem?_toArray, List.getElem?_cons_zero, List.getElem?_cons_succ, Option.getD_some]; rfl) (by kernel_rfl) (by kernel_rfl) ?_
          repeat (first | ((with_reducible refine wpq_loadv rtSp ?_ (.tmp 111) ?_ b10 (off10 + i * 5) ?_ [.int .i64 s1, .int .i64 (s2 + (CN : Int)), .int .i64 s3, .int .i64 (s4 + BY), .int .i64 s5] ?_ (fun W h => by obtain ⟨p, rfl⟩ := h; exact rng_below p.h LTP E10.out.rng) ?_); rfl; rfl; rfl; rfl; simp only [Act.put, List.setIfInBounds_toArray, List.set_cons_succ, List.set_cons_zero]) | ((with_reducible refine wpq_load_row rtSp ?_ (.tmp 15) ?_ (g15) ?_ 53 (#[.int .i64 s1, .int .i64 (s2 + (CN : Int)), .int .i64 s3, .int .i64 (s4 + BY), .int .i64 s5]) ?_ (fun W h => by obtain ⟨p, rfl⟩ := h; exact (p.h.block _ LT_R15).trans R15.out) ?_); rfl; rfl; rfl; rfl; simp only [Act.put, List.setIfInBounds_toArray, List.set_cons_succ, List.set_cons_zero]) | ((with_reducible refine wpq_neq spotE ?_ (.tmp 112) (.tmp 113) 53 rfl rfl rfl (spot_q _ _ _ _ _) ?_); rfl; simp only [Act.put, List.setIfInBounds_toArray, List.set_cons_succ, List.set_cons_zero]) | go_big_quiet_step (fail))
          refine wpQuiet_nil ?_
          refine Tin.reg_done (by kernel_rfl) ?_
          go_wp2_with fail
          exact ⟨⟨i + 1, by omega, rfl, HBJ.out⟩, by simp only [intOf]; omega⟩
  obtain ⟨xs, sx, hx⟩ := HF.out
  obtain ⟨ys, sy, hy⟩ := HG.out
  have XF := Lib.hid hx
  have XG := Lib.hid hy
  have SX := Lib.hid sx
  have SY := Lib.hid sy
  clear sx hx sy hy
  have LT1 : w.heap.size < w3.heap.size := row_lt R1.out
  have LT2 : w.heap.size + 1 < w3.heap.size := row_lt R2.out
  have hrb : w.heap.size ≤ w3.heap.size := Nat.le_of_lt LT1
  have SZ : w3.heap.size ≤ w3.drew.heap.size := Nat.le_refl _
  have hb := ud' (brefl w3)
  replace R1 := Lib.hid ((hb.block _ LT1).trans R1.out)
  replace R2 := Lib.hid ((hb.block _ LT2).trans R2.out)
  replace XF := Lib.hid (FoV.keep (Kp.below hb fun _ _ h => h) f XF.out)
  replace XG := Lib.hid (FoV.keep (Kp.below hb fun _ _ h => h) g XG.out)
  replace SX := Lib.hid (SX.out.keep (Kp.below hb fun _ _ h => h))
  replace SY := Lib.hid (SY.out.keep (Kp.below hb fun _ _ h => h))
  replace HB := Lib.hid (HB.out.trans (hb.mono hrb))
  clear hb
  refine Tin.reg_begin (w3.heap.size) 12 (by rfl) (by kernel_rfl) ?_
  generalize w3.drew = u0 at *
  have k0 : ∀ p : Bel (w3.heap.size) u0, p.w'.cell? ⟨w.heap.size, 0, none⟩ = some (.int .i64 o) := fun p => row_cell ((p.h.block _ LT1).trans R1.out) 0 rfl
  have k1 : ∀ p : Bel (w3.heap.size) u0, p.w'.cell? ⟨w.heap.size, 1, none⟩ = some (.slice Ad NS cd) := fun p => row_cell ((p.h.block _ LT1).trans R1.out) 1 rfl
  have k2 : ∀ p : Bel (w3.heap.size) u0, p.w'.cell? ⟨w.heap.size + 1, 1, none⟩ = some (.slice Ae NT ce) := fun p => row_cell ((p.h.block _ LT2).trans R2.out) 1 rfl
  refine Tin.reg_quiets [0, 1, 3, 4, 6, 7] _ 6 rfl (by simp only [Tin.pick, List.map_cons, List.map_nil, Array.getD_eq_getD_getElem?, List.getElem?_toArray, List.getElem?_cons_zero, List.getElem?_cons_succ, Option.getD_some]; rfl) (by kernel_rfl) (by kernel_rfl) ?_
  repeat (first | go_big_quiet_step (fail))
  refine wpQuiet_nil ?_
  clear k0 k1 k2
  refine Tin.reg_two 2 10 _ _ rfl rfl (by kernel_rfl) ?_ ?_
  · try simp only [List.getElem_toArray, List.getElem_cons_succ, List.getElem_cons_zero]
    go_wp2_with fail
    have hv := ba (brefl u0) (.cells #[] 42)
    have hown := ownv_zero u0 42 (w3.heap.size) SZ
    refine ⟨w3.heap.size, hv.mono SZ, Nat.le_refl _, ?_⟩
    have hb := hv.mono SZ
    replace R1 := Lib.hid ((hb.block _ LT1).trans R1.out)
    replace R2 := Lib.hid ((hb.block _ LT2).trans R2.out)
    replace XF := Lib.hid (FoV.keep (Kp.below hb fun _ _ h => h) f XF.out)
    replace XG := Lib.hid (FoV.keep (Kp.below hb fun _ _ h => h) g XG.out)
    replace SX := Lib.hid (SX.out.keep (Kp.below hb fun _ _ h => h))
    replace SY := Lib.hid (SY.out.keep (Kp.below hb fun _ _ h => h))
    replace HB := Lib.hid (HB.out.trans (hb.mono hrb))
    have HO := Lib.hid hown
    clear hown
    replace SZ := Nat.le_trans SZ hv.size
    clear hv hb
    generalize u0.alloc (.cells #[] 42) = s1 at *
    refine Tin.reg_two 5 10 _ _ rfl rfl (by kernel_rfl) ?_ ?_
    · try simp only [List.getElem_toArray, List.getElem_cons_succ, List.getElem_cons_zero]
      have hl := FoV.len f XF.out
      rw [HSUB.out, show wid false = 3 from rfl] at hl
      go_wp2_with (at_builtin; refine Tin.wplv_app svDi s1 rfl (.tmp 25) (.tmp 27) rfl (w3.heap.size) _ _ _ rfl HO.out Ad NS cd xs rfl hl SX.out.sl (FoV.cells f XF.out) (by omega) (by omega) SZ ?_; intro A28 c28 s2 ho hg how; simp only [Nat.zero_add, List.nil_append] at ho hg how ⊢; have HO2 := Lib.hid ho; have HG2 := Lib.hid hg; have HW2 := Lib.hid how; clear ho hg how; (try simp only [Act.put, List.setIfInBounds_toArray, List.set_cons_succ, List.set_cons_zero]))
      have hb : Below (w3.heap.size) s1 s2 := (Below.refl _ _).grown HG2.out SZ (fun k hk => (World.ownsRow.lt HO.out k hk).1)
      refine ⟨w3.heap.size, hb, Nat.le_refl _, ?_⟩
      replace R1 := Lib.hid ((hb.block _ LT1).trans R1.out)
      replace R2 := Lib.hid ((hb.block _ LT2).trans R2.out)
      replace XF := Lib.hid (FoV.keep (Kp.below hb fun _ _ h => h) f XF.out)
      replace XG := Lib.hid (FoV.keep (Kp.below hb fun _ _ h => h) g XG.out)
      replace SX := Lib.hid (SX.out.keep (Kp.below hb fun _ _ h => h))
      replace SY := Lib.hid (SY.out.keep (Kp.below hb fun _ _ h => h))
      replace HB := Lib.hid (HB.out.trans (hb.mono hrb))
      replace SZ := Nat.le_trans SZ HG2.out.size
      replace HO := HO2
      clear hb hl HG2 HO2 HW2
      refine Tin.reg_two 8 10 _ _ rfl rfl (by kernel_rfl) ?_ ?_
      · try simp only [List.getElem_toArray, List.getElem_cons_succ, List.getElem_cons_zero]
        have hl := FoV.len g XG.out
        rw [HSUG.out, show wid false = 3 from rfl] at hl
        go_wp2_with (at_builtin; refine Tin.wplv_app svDi s2 rfl (.tmp 28) (.tmp 30) rfl (w3.heap.size) _ _ _ rfl HO.out Ae NT ce ys rfl hl SY.out.sl (FoV.cells g XG.out) (by omega) (by omega) SZ ?_; intro A31 c31 s3 ho hg how; simp only [Nat.zero_add, List.nil_append] at ho hg how ⊢; have HO2 := Lib.hid ho; have HG2 := Lib.hid hg; have HW2 := Lib.hid how; clear ho hg how; (try simp only [Act.put, List.setIfInBounds_toArray, List.set_cons_succ, List.set_cons_zero]))
        have hb : Below (w3.heap.size) s2 s3 := (Below.refl _ _).grown HG2.out SZ (fun k hk => (World.ownsRow.lt HO.out k hk).1)
        refine ⟨w3.heap.size, hb, Nat.le_refl _, ?_⟩
        replace R1 := Lib.hid ((hb.block _ LT1).trans R1.out)
        replace R2 := Lib.hid ((hb.block _ LT2).trans R2.out)
        replace XF := Lib.hid (FoV.keep (Kp.below hb fun _ _ h => h) f XF.out)
        replace XG := Lib.hid (FoV.keep (Kp.below hb fun _ _ h => h) g XG.out)
        replace SX := Lib.hid (SX.out.keep (Kp.below hb fun _ _ h => h))
        replace SY := Lib.hid (SY.out.keep (Kp.below hb fun _ _ h => h))
        replace HB := Lib.hid (HB.out.trans (hb.mono hrb))
        replace SZ := Nat.le_trans SZ HG2.out.size
        replace HO := HO2
        clear hb hl HG2 HO2 HW2
        refine Tin.reg_quiets [9] _ 2 rfl (by simp only [Tin.pick, List.map_cons, List.map_nil, Array.getD_eq_getD_getElem?, List.getElem?_toArray, List.getElem?_cons_zero, List.getElem?_cons_succ, Option.getD_some]; rfl) (by kernel_rfl) (by kernel_rfl) ?_
        repeat (first | go_big_quiet_step (fail))
        refine wpQuiet_nil ?_
        refine Tin.reg_one 10 _ rfl (by kernel_rfl) ?_
        try simp only [List.getElem_toArray, List.getElem_cons_succ, List.getElem_cons_zero]
        go_wp2_with fail
        refine ⟨w3.heap.size, (ba (brefl s3) (.cells #[.int .i64 0, .slice none 0 0] 24)).mono SZ, Nat.le_refl _, ?_⟩
        refine Tin.reg_one 11 _ rfl (by kernel_rfl) ?_
        try simp only [List.getElem_toArray, List.getElem_cons_succ, List.getElem_cons_zero]
        go_wp2_with fail
        have hv := ba (brefl s3) (.cells #[.int .i64 o, .slice A31 (NS + NT) c31] 24)
        refine ⟨w3.heap.size, ⟨rfl, rfl, rfl, by simp, fun i hi => (heap_alloc_old s3 _ (Nat.lt_of_lt_of_le hi SZ)).trans (heap_alloc_old s3 _ (Nat.lt_of_lt_of_le hi SZ)).symm⟩, Nat.le_refl _, ?_⟩
        have R5 := Lib.hid (heap_alloc_new s3 (.cells #[.int .i64 o, .slice A31 (NS + NT) c31] 24))
        replace HO := Lib.hid (HO.out.keep hv)
        have hb := hv.mono SZ
        replace R1 := Lib.hid ((hb.block _ LT1).trans R1.out)
        replace R2 := Lib.hid ((hb.block _ LT2).trans R2.out)
        replace XF := Lib.hid (FoV.keep (Kp.below hb fun _ _ h => h) f XF.out)
        replace XG := Lib.hid (FoV.keep (Kp.below hb fun _ _ h => h) g XG.out)
        replace SX := Lib.hid (SX.out.keep (Kp.below hb fun _ _ h => h))
        replace SY := Lib.hid (SY.out.keep (Kp.below hb fun _ _ h => h))
        replace HB := Lib.hid (HB.out.trans (hb.mono hrb))
        clear hb hv
        generalize s3.alloc (.cells #[.int .i64 o, .slice A31 (NS + NT) c31] 24) = s4 at *
        have HFB := Lib.hid (show FoK s4 A31 (f.app g) from ⟨xs ++ ys, SvP.ofOwn HO.out (fun b hb _ => hb), FoV.app f g (FoV.mono (fun b h _ => h) f XF.out) (FoV.mono (fun b h _ => h) g XG.out)⟩)
        refine Tin.reg_done (by kernel_rfl) ?_
        exact tail3 _ _ _ _ _ _ _ _ _ _ _ _ _ _ R5.out HFB.out R1.out R2.out ⟨xs, SX.out.mono (fun b h _ => h), FoV.mono (fun b h _ => h) f XF.out⟩ ⟨ys, SY.out.mono (fun b h _ => h), FoV.mono (fun b h _ => h) g XG.out⟩ HB.out
      · try simp only [List.getElem_toArray, List.getElem_cons_succ, List.getElem_cons_zero]
        have HN5 := Lib.hid (show ∀ q, (Value.slice A28 NS c28).ownBlock = some q → q ≠ s2.heap.size from fun q hq e => by have := (World.ownsRow.lt HO.out q hq).2; omega)
        go_wp2_with fail
        have hv := ba (brefl s2) (.cells #[.int .i64 0, .slice none 0 0] 24)
        have hr5 := heap_alloc_new s2 (.cells #[.int .i64 0, .slice none 0 0] 24)
        refine ⟨w3.heap.size, hv.mono SZ, Nat.le_refl _, ?_⟩
        have hb := hv.mono SZ
        replace R1 := Lib.hid ((hb.block _ LT1).trans R1.out)
        replace R2 := Lib.hid ((hb.block _ LT2).trans R2.out)
        replace XF := Lib.hid (FoV.keep (Kp.below hb fun _ _ h => h) f XF.out)
        replace XG := Lib.hid (FoV.keep (Kp.below hb fun _ _ h => h) g XG.out)
        replace SX := Lib.hid (SX.out.keep (Kp.below hb fun _ _ h => h))
        replace SY := Lib.hid (SY.out.keep (Kp.below hb fun _ _ h => h))
        replace HB := Lib.hid (HB.out.trans (hb.mono hrb))
        replace HO := Lib.hid (HO.out.keep hv)
        have R5 := Lib.hid hr5
        have hq5 : w3.heap.size ≤ s2.heap.size := SZ
        clear hr5
        replace SZ := Nat.le_trans SZ hv.size
        clear hv hb
        generalize s2.alloc (.cells #[.int .i64 0, .slice none 0 0] 24) = s3 at *
        refine Tin.reg_one 8 _ rfl (by kernel_rfl) ?_
        try simp only [List.getElem_toArray, List.getElem_cons_succ, List.getElem_cons_zero]
        have hl := FoV.len g XG.out
        rw [HSUG.out, show wid false = 3 from rfl] at hl
        go_wp2_with (at_builtin; refine Tin.wplv_app svDi s3 rfl (.tmp 28) (.tmp 30) rfl (w3.heap.size) _ _ _ rfl HO.out Ae NT ce ys rfl hl SY.out.sl (FoV.cells g XG.out) (by omega) (by omega) SZ ?_; intro A31 c31 s4 ho hg how; simp only [Nat.zero_add, List.nil_append] at ho hg how ⊢; have HO2 := Lib.hid ho; have HG2 := Lib.hid hg; have HW2 := Lib.hid how; clear ho hg how; (try simp only [Act.put, List.setIfInBounds_toArray, List.set_cons_succ, List.set_cons_zero]))
        have hb : Below (w3.heap.size) s3 s4 := (Below.refl _ _).grown HG2.out SZ (fun k hk => (World.ownsRow.lt HO.out k hk).1)
        refine ⟨w3.heap.size, hb, Nat.le_refl _, ?_⟩
        have LT5 : s2.heap.size < s3.heap.size := row_lt R5.out
        replace R5 := Lib.hid ((HG2.out.block _ (row_lt R5.out) (fun e => HN5.out _ e.symm rfl)).trans R5.out)
        replace HN5 := Lib.hid (show ∀ q, (Value.slice A31 (NS + NT) c31).ownBlock = some q → q ≠ s2.heap.size from fun q hq e => HW2.out.elim (fun h => HN5.out q (h ▸ hq) e) (fun h => by rw [h] at hq; cases hq; have := LT5; omega))
        replace R1 := Lib.hid ((hb.block _ LT1).trans R1.out)
        replace R2 := Lib.hid ((hb.block _ LT2).trans R2.out)
        replace XF := Lib.hid (FoV.keep (Kp.below hb fun _ _ h => h) f XF.out)
        replace XG := Lib.hid (FoV.keep (Kp.below hb fun _ _ h => h) g XG.out)
        replace SX := Lib.hid (SX.out.keep (Kp.below hb fun _ _ h => h))
        replace SY := Lib.hid (SY.out.keep (Kp.below hb fun _ _ h => h))
        replace HB := Lib.hid (HB.out.trans (hb.mono hrb))
        replace SZ := Nat.le_trans SZ HG2.out.size
        replace HO := HO2
        clear hb hl HG2 HO2 HW2 LT5
        refine Tin.reg_quiets [9] _ 1 rfl (by simp only [Tin.pick, List.map_cons, List.map_nil, Array.getD_eq_getD_getElem?, List.getElem?_toArray, List.getElem?_cons_zero, List.getElem?_cons_succ, Option.getD_some]; rfl) (by kernel_rfl) (by kernel_rfl) ?_
        repeat (first | go_big_quiet_step (fail))
        refine wpQuiet_nil ?_
        refine Tin.reg_one 11 _ rfl (by kernel_rfl) ?_
        try simp only [List.getElem_toArray, List.getElem_cons_succ, List.getElem_cons_zero]
        go_wp2_with ((with_reducible refine wpl_store_row rtTf ?_ (.tmp 5) (.tmp 32) ?_ (s2.heap.size) ?_ #[.int .i64 o, .slice A31 (NS + NT) c31] ?_ ?_ 24 ?_ #[.int .i64 0, .slice none 0 0] ?_ R5.out ?_); rfl; rfl; rfl; rfl; (simp [Value.oneCell']); rfl; rfl; intro s5 hr5 hg5 hs5; (try simp only [Act.put, List.setIfInBounds_toArray, List.set_cons_succ, List.set_cons_zero]))
        have hb : Below (w3.heap.size) s4 s5 := (Below.refl _ _).grown hg5 SZ (fun k hk => by cases hk; exact hq5)
        refine ⟨w3.heap.size, hb, Nat.le_refl _, ?_⟩
        replace R5 := Lib.hid hr5
        replace HO := Lib.hid (HO.out.kept hg5 (ne_own (fun q hq => HN5.out q hq)))
        replace R1 := Lib.hid ((hb.block _ LT1).trans R1.out)
        replace R2 := Lib.hid ((hb.block _ LT2).trans R2.out)
        replace XF := Lib.hid (FoV.keep (Kp.below hb fun _ _ h => h) f XF.out)
        replace XG := Lib.hid (FoV.keep (Kp.below hb fun _ _ h => h) g XG.out)
        replace SX := Lib.hid (SX.out.keep (Kp.below hb fun _ _ h => h))
        replace SY := Lib.hid (SY.out.keep (Kp.below hb fun _ _ h => h))
        replace HB := Lib.hid (HB.out.trans (hb.mono hrb))
        clear hb
        have HFB := Lib.hid (show FoK s5 A31 (f.app g) from ⟨xs ++ ys, SvP.ofOwn HO.out (fun b hb _ => hb), FoV.app f g (FoV.mono (fun b h _ => h) f XF.out) (FoV.mono (fun b h _ => h) g XG.out)⟩)
        refine Tin.reg_done (by kernel_rfl) ?_
        exact tail3 _ _ _ _ _ _ _ _ _ _ _ _ _ _ R5.out HFB.out R1.out R2.out ⟨xs, SX.out.mono (fun b h _ => h), FoV.mono (fun b h _ => h) f XF.out⟩ ⟨ys, SY.out.mono (fun b h _ => h), FoV.mono (fun b h _ => h) g XG.out⟩ HB.out
    · try simp only [List.getElem_toArray, List.getElem_cons_succ, List.getElem_cons_zero]
      have HN5 := Lib.hid (show ∀ q, (Value.slice (some ⟨u0.heap.size, 0, none⟩) 0 0).ownBlock = some q → q ≠ s1.heap.size from fun q hq e => by have := (World.ownsRow.lt HO.out q hq).2; omega)
      go_wp2_with fail
      have hv := ba (brefl s1) (.cells #[.int .i64 0, .slice none 0 0] 24)
      have hr5 := heap_alloc_new s1 (.cells #[.int .i64 0, .slice none 0 0] 24)
      refine ⟨w3.heap.size, hv.mono SZ, Nat.le_refl _, ?_⟩
      have hb := hv.mono SZ
      replace R1 := Lib.hid ((hb.block _ LT1).trans R1.out)
      replace R2 := Lib.hid ((hb.block _ LT2).trans R2.out)
      replace XF := Lib.hid (FoV.keep (Kp.below hb fun _ _ h => h) f XF.out)
      replace XG := Lib.hid (FoV.keep (Kp.below hb fun _ _ h => h) g XG.out)
      replace SX := Lib.hid (SX.out.keep (Kp.below hb fun _ _ h => h))
      replace SY := Lib.hid (SY.out.keep (Kp.below hb fun _ _ h => h))
      replace HB := Lib.hid (HB.out.trans (hb.mono hrb))
      replace HO := Lib.hid (HO.out.keep hv)
      have R5 := Lib.hid hr5
      have hq5 : w3.heap.size ≤ s1.heap.size := SZ
      clear hr5
      replace SZ := Nat.le_trans SZ hv.size
      clear hv hb
      generalize s1.alloc (.cells #[.int .i64 0, .slice none 0 0] 24) = s2 at *
      refine Tin.reg_one 5 _ rfl (by kernel_rfl) ?_
      try simp only [List.getElem_toArray, List.getElem_cons_succ, List.getElem_cons_zero]
      have hl := FoV.len f XF.out
      rw [HSUB.out, show wid false = 3 from rfl] at hl
      go_wp2_with (at_builtin; refine Tin.wplv_app svDi s2 rfl (.tmp 25) (.tmp 27) rfl (w3.heap.size) _ _ _ rfl HO.out Ad NS cd xs rfl hl SX.out.sl (FoV.cells f XF.out) (by omega) (by omega) SZ ?_; intro A28 c28 s3 ho hg how; simp only [Nat.zero_add, List.nil_append] at ho hg how ⊢; have HO2 := Lib.hid ho; have HG2 := Lib.hid hg; have HW2 := Lib.hid how; clear ho hg how; (try simp only [Act.put, List.setIfInBounds_toArray, List.set_cons_succ, List.set_cons_zero]))
      have hb : Below (w3.heap.size) s2 s3 := (Below.refl _ _).grown HG2.out SZ (fun k hk => (World.ownsRow.lt HO.out k hk).1)
      refine ⟨w3.heap.size, hb, Nat.le_refl _, ?_⟩
      have LT5 : s1.heap.size < s2.heap.size := row_lt R5.out
      replace R5 := Lib.hid ((HG2.out.block _ (row_lt R5.out) (fun e => HN5.out _ e.symm rfl)).trans R5.out)
      replace HN5 := Lib.hid (show ∀ q, (Value.slice A28 NS c28).ownBlock = some q → q ≠ s1.heap.size from fun q hq e => HW2.out.elim (fun h => HN5.out q (h ▸ hq) e) (fun h => by rw [h] at hq; cases hq; have := LT5; omega))
      replace R1 := Lib.hid ((hb.block _ LT1).trans R1.out)
      replace R2 := Lib.hid ((hb.block _ LT2).trans R2.out)
      replace XF := Lib.hid (FoV.keep (Kp.below hb fun _ _ h => h) f XF.out)
      replace XG := Lib.hid (FoV.keep (Kp.below hb fun _ _ h => h) g XG.out)
      replace SX := Lib.hid (SX.out.keep (Kp.below hb fun _ _ h => h))
      replace SY := Lib.hid (SY.out.keep (Kp.below hb fun _ _ h => h))
      replace HB := Lib.hid (HB.out.trans (hb.mono hrb))
      replace SZ := Nat.le_trans SZ HG2.out.size
      replace HO := HO2
      clear hb hl HG2 HO2 HW2 LT5
      refine Tin.reg_one 8 _ rfl (by kernel_rfl) ?_
      try simp only [List.getElem_toArray, List.getElem_cons_succ, List.getElem_cons_zero]
      have hl := FoV.len g XG.out
      rw [HSUG.out, show wid false = 3 from rfl] at hl
      go_wp2_with (at_builtin; refine Tin.wplv_app svDi s3 rfl (.tmp 28) (.tmp 30) rfl (w3.heap.size) _ _ _ rfl HO.out Ae NT ce ys rfl hl SY.out.sl (FoV.cells g XG.out) (by omega) (by omega) SZ ?_; intro A31 c31 s4 ho hg how; simp only [Nat.zero_add, List.nil_append] at ho hg how ⊢; have HO2 := Lib.hid ho; have HG2 := Lib.hid hg; have HW2 := Lib.hid how; clear ho hg how; (try simp only [Act.put, List.setIfInBounds_toArray, List.set_cons_succ, List.set_cons_zero]))
      have hb : Below (w3.heap.size) s3 s4 := (Below.refl _ _).grown HG2.out SZ (fun k hk => (World.ownsRow.lt HO.out k hk).1)
      refine ⟨w3.heap.size, hb, Nat.le_refl _, ?_⟩
      have LT5 : s1.heap.size < s3.heap.size := row_lt R5.out
      replace R5 := Lib.hid ((HG2.out.block _ (row_lt R5.out) (fun e => HN5.out _ e.symm rfl)).trans R5.out)
      replace HN5 := Lib.hid (show ∀ q, (Value.slice A31 (NS + NT) c31).ownBlock = some q → q ≠ s1.heap.size from fun q hq e => HW2.out.elim (fun h => HN5.out q (h ▸ hq) e) (fun h => by rw [h] at hq; cases hq; have := LT5; omega))
      replace R1 := Lib.hid ((hb.block _ LT1).trans R1.out)
      replace R2 := Lib.hid ((hb.block _ LT2).trans R2.out)
      replace XF := Lib.hid (FoV.keep (Kp.below hb fun _ _ h => h) f XF.out)
      replace XG := Lib.hid (FoV.keep (Kp.below hb fun _ _ h => h) g XG.out)
      replace SX := Lib.hid (SX.out.keep (Kp.below hb fun _ _ h => h))
      replace SY := Lib.hid (SY.out.keep (Kp.below hb fun _ _ h => h))
      replace HB := Lib.hid (HB.out.trans (hb.mono hrb))
      replace SZ := Nat.le_trans SZ HG2.out.size
      replace HO := HO2
      clear hb hl HG2 HO2 HW2 LT5
      refine Tin.reg_quiets [9] _ 1 rfl (by simp only [Tin.pick, List.map_cons, List.map_nil, Array.getD_eq_getD_getElem?, List.getElem?_toArray, List.getElem?_cons_zero, List.getElem?_cons_succ, Option.getD_some]; rfl) (by kernel_rfl) (by kernel_rfl) ?_
      repeat (first | go_big_quiet_step (fail))
      refine wpQuiet_nil ?_
      refine Tin.reg_one 11 _ rfl (by kernel_rfl) ?_
      try simp only [List.getElem_toArray, List.getElem_cons_succ, List.getElem_cons_zero]
      go_wp2_with ((with_reducible refine wpl_store_row rtTf ?_ (.tmp 5) (.tmp 32) ?_ (s1.heap.size) ?_ #[.int .i64 o, .slice A31 (NS + NT) c31] ?_ ?_ 24 ?_ #[.int .i64 0, .slice none 0 0] ?_ R5.out ?_); rfl; rfl; rfl; rfl; (simp [Value.oneCell']); rfl; rfl; intro s5 hr5 hg5 hs5; (try simp only [Act.put, List.setIfInBounds_toArray, List.set_cons_succ, List.set_cons_zero]))
      have hb : Below (w3.heap.size) s4 s5 := (Below.refl _ _).grown hg5 SZ (fun k hk => by cases hk; exact hq5)
      refine ⟨w3.heap.size, hb, Nat.le_refl _, ?_⟩
      replace R5 := Lib.hid hr5
      replace HO := Lib.hid (HO.out.kept hg5 (ne_own (fun q hq => HN5.out q hq)))
      replace R1 := Lib.hid ((hb.block _ LT1).trans R1.out)
      replace R2 := Lib.hid ((hb.block _ LT2).trans R2.out)
      replace XF := Lib.hid (FoV.keep (Kp.below hb fun _ _ h => h) f XF.out)
      replace XG := Lib.hid (FoV.keep (Kp.below hb fun _ _ h => h) g XG.out)
      replace SX := Lib.hid (SX.out.keep (Kp.below hb fun _ _ h => h))
      replace SY := Lib.hid (SY.out.keep (Kp.below hb fun _ _ h => h))
      replace HB := Lib.hid (HB.out.trans (hb.mono hrb))
      clear hb
      have HFB := Lib.hid (show FoK s5 A31 (f.app g) from ⟨xs ++ ys, SvP.ofOwn HO.out (fun b hb _ => hb), FoV.app f g (FoV.mono (fun b h _ => h) f XF.out) (FoV.mono (fun b h _ => h) g XG.out)⟩)
      refine Tin.reg_done (by kernel_rfl) ?_
      exact tail3 _ _ _ _ _ _ _ _ _ _ _ _ _ _ R5.out HFB.out R1.out R2.out ⟨xs, SX.out.mono (fun b h _ => h), FoV.mono (fun b h _ => h) f XF.out⟩ ⟨ys, SY.out.mono (fun b h _ => h), FoV.mono (fun b h _ => h) g XG.out⟩ HB.out
  · try simp only [List.getElem_toArray, List.getElem_cons_succ, List.getElem_cons_zero]
    go_wp2_with fail
    have hv := ba (brefl u0) (.cells #[.int .i64 0, .slice none 0 0] 24)
    have hr5 := heap_alloc_new u0 (.cells #[.int .i64 0, .slice none 0 0] 24)
    refine ⟨w3.heap.size, hv.mono SZ, Nat.le_refl _, ?_⟩
    have hb := hv.mono SZ
    replace R1 := Lib.hid ((hb.block _ LT1).trans R1.out)
    replace R2 := Lib.hid ((hb.block _ LT2).trans R2.out)
    replace XF := Lib.hid (FoV.keep (Kp.below hb fun _ _ h => h) f XF.out)
    replace XG := Lib.hid (FoV.keep (Kp.below hb fun _ _ h => h) g XG.out)
    replace SX := Lib.hid (SX.out.keep (Kp.below hb fun _ _ h => h))
    replace SY := Lib.hid (SY.out.keep (Kp.below hb fun _ _ h => h))
    replace HB := Lib.hid (HB.out.trans (hb.mono hrb))
    have R5 := Lib.hid hr5
    have hq5 : w3.heap.size ≤ u0.heap.size := SZ
    clear hr5
    replace SZ := Nat.le_trans SZ hv.size
    clear hv hb
    generalize u0.alloc (.cells #[.int .i64 0, .slice none 0 0] 24) = s1 at *
    refine Tin.reg_one 2 _ rfl (by kernel_rfl) ?_
    try simp only [List.getElem_toArray, List.getElem_cons_succ, List.getElem_cons_zero]
    have LT5 : u0.heap.size < s1.heap.size := row_lt R5.out
    go_wp2_with fail
    have hv := ba (brefl s1) (.cells #[] 42)
    have hown := ownv_zero s1 42 (w3.heap.size) SZ
    refine ⟨w3.heap.size, hv.mono SZ, Nat.le_refl _, ?_⟩
    have hb := hv.mono SZ
    replace R1 := Lib.hid ((hb.block _ LT1).trans R1.out)
    replace R2 := Lib.hid ((hb.block _ LT2).trans R2.out)
    replace XF := Lib.hid (FoV.keep (Kp.below hb fun _ _ h => h) f XF.out)
    replace XG := Lib.hid (FoV.keep (Kp.below hb fun _ _ h => h) g XG.out)
    replace SX := Lib.hid (SX.out.keep (Kp.below hb fun _ _ h => h))
    replace SY := Lib.hid (SY.out.keep (Kp.below hb fun _ _ h => h))
    replace HB := Lib.hid (HB.out.trans (hb.mono hrb))
    replace R5 := Lib.hid ((hv.block _ (row_lt R5.out)).trans R5.out)
    have HO := Lib.hid hown
    clear hown
    have HN5 := Lib.hid (show ∀ q, (Value.slice (some ⟨s1.heap.size, 0, none⟩) 0 0).ownBlock = some q → q ≠ u0.heap.size from fun q hq e => by cases hq; have h1 := LT5; have h2 : s1.heap.size = u0.heap.size := e; omega)
    clear LT5
    replace SZ := Nat.le_trans SZ hv.size
    clear hv hb
    generalize s1.alloc (.cells #[] 42) = s2 at *
    refine Tin.reg_one 5 _ rfl (by kernel_rfl) ?_
    try simp only [List.getElem_toArray, List.getElem_cons_succ, List.getElem_cons_zero]
    have hl := FoV.len f XF.out
    rw [HSUB.out, show wid false = 3 from rfl] at hl
    go_wp2_with (at_builtin; refine Tin.wplv_app svDi s2 rfl (.tmp 25) (.tmp 27) rfl (w3.heap.size) _ _ _ rfl HO.out Ad NS cd xs rfl hl SX.out.sl (FoV.cells f XF.out) (by omega) (by omega) SZ ?_; intro A28 c28 s3 ho hg how; simp only [Nat.zero_add, List.nil_append] at ho hg how ⊢; have HO2 := Lib.hid ho; have HG2 := Lib.hid hg; have HW2 := Lib.hid how; clear ho hg how; (try simp only [Act.put, List.setIfInBounds_toArray, List.set_cons_succ, List.set_cons_zero]))
    have hb : Below (w3.heap.size) s2 s3 := (Below.refl _ _).grown HG2.out SZ (fun k hk => (World.ownsRow.lt HO.out k hk).1)
    refine ⟨w3.heap.size, hb, Nat.le_refl _, ?_⟩
    have LT5 : u0.heap.size < s2.heap.size := row_lt R5.out
    replace R5 := Lib.hid ((HG2.out.block _ (row_lt R5.out) (fun e => HN5.out _ e.symm rfl)).trans R5.out)
    replace HN5 := Lib.hid (show ∀ q, (Value.slice A28 NS c28).ownBlock = some q → q ≠ u0.heap.size from fun q hq e => HW2.out.elim (fun h => HN5.out q (h ▸ hq) e) (fun h => by rw [h] at hq; cases hq; have := LT5; omega))
    replace R1 := Lib.hid ((hb.block _ LT1).trans R1.out)
    replace R2 := Lib.hid ((hb.block _ LT2).trans R2.out)
    replace XF := Lib.hid (FoV.keep (Kp.below hb fun _ _ h => h) f XF.out)
    replace XG := Lib.hid (FoV.keep (Kp.below hb fun _ _ h => h) g XG.out)
    replace SX := Lib.hid (SX.out.keep (Kp.below hb fun _ _ h => h))
    replace SY := Lib.hid (SY.out.keep (Kp.below hb fun _ _ h => h))
    replace HB := Lib.hid (HB.out.trans (hb.mono hrb))
    replace SZ := Nat.le_trans SZ HG2.out.size
    replace HO := HO2
    clear hb hl HG2 HO2 HW2 LT5
    refine Tin.reg_one 8 _ rfl (by kernel_rfl) ?_
    try simp only [List.getElem_toArray, List.getElem_cons_succ, List.getElem_cons_zero]
    have hl := FoV.len g XG.out
    rw [HSUG.out, show wid false = 3 from rfl] at hl
    go_wp2_with (at_builtin; refine Tin.wplv_app svDi s3 rfl (.tmp 28) (.tmp 30) rfl (w3.heap.size) _ _ _ rfl HO.out Ae NT ce ys rfl hl SY.out.sl (FoV.cells g XG.out) (by omega) (by omega) SZ ?_; intro A31 c31 s4 ho hg how; simp only [Nat.zero_add, List.nil_append] at ho hg how ⊢; have HO2 := Lib.hid ho; have HG2 := Lib.hid hg; have HW2 := Lib.hid how; clear ho hg how; (try simp only [Act.put, List.setIfInBounds_toArray, List.set_cons_succ, List.set_cons_zero]))
    have hb : Below (w3.heap.size) s3 s4 := (Below.refl _ _).grown HG2.out SZ (fun k hk => (World.ownsRow.lt HO.out k hk).1)
    refine ⟨w3.heap.size, hb, Nat.le_refl _, ?_⟩
    have LT5 : u0.heap.size < s3.heap.size := row_lt R5.out
    replace R5 := Lib.hid ((HG2.out.block _ (row_lt R5.out) (fun e => HN5.out _ e.symm rfl)).trans R5.out)
    replace HN5 := Lib.hid (show ∀ q, (Value.slice A31 (NS + NT) c31).ownBlock = some q → q ≠ u0.heap.size from fun q hq e => HW2.out.elim (fun h => HN5.out q (h ▸ hq) e) (fun h => by rw [h] at hq; cases hq; have := LT5; omega))
    replace R1 := Lib.hid ((hb.block _ LT1).trans R1.out)
    replace R2 := Lib.hid ((hb.block _ LT2).trans R2.out)
    replace XF := Lib.hid (FoV.keep (Kp.below hb fun _ _ h => h) f XF.out)
    replace XG := Lib.hid (FoV.keep (Kp.below hb fun _ _ h => h) g XG.out)
    replace SX := Lib.hid (SX.out.keep (Kp.below hb fun _ _ h => h))
    replace SY := Lib.hid (SY.out.keep (Kp.below hb fun _ _ h => h))
    replace HB := Lib.hid (HB.out.trans (hb.mono hrb))
    replace SZ := Nat.le_trans SZ HG2.out.size
    replace HO := HO2
    clear hb hl HG2 HO2 HW2 LT5
    refine Tin.reg_quiets [9] _ 1 rfl (by simp only [Tin.pick, List.map_cons, List.map_nil, Array.getD_eq_getD_getElem?, List.getElem?_toArray, List.getElem?_cons_zero, List.getElem?_cons_succ, Option.getD_some]; rfl) (by kernel_rfl) (by kernel_rfl) ?_
    repeat (first | go_big_quiet_step (fail))
    refine wpQuiet_nil ?_
    refine Tin.reg_one 11 _ rfl (by kernel_rfl) ?_
    try simp only [List.getElem_toArray, List.getElem_cons_succ, List.getElem_cons_zero]
    go_wp2_with ((with_reducible refine wpl_store_row rtTf ?_ (.tmp 5) (.tmp 32) ?_ (u0.heap.size) ?_ #[.int .i64 o, .slice A31 (NS + NT) c31] ?_ ?_ 24 ?_ #[.int .i64 0, .slice none 0 0] ?_ R5.out ?_); rfl; rfl; rfl; rfl; (simp [Value.oneCell']); rfl; rfl; intro s5 hr5 hg5 hs5; (try simp only [Act.put, List.setIfInBounds_toArray, List.set_cons_succ, List.set_cons_zero]))
    have hb : Below (w3.heap.size) s4 s5 := (Below.refl _ _).grown hg5 SZ (fun k hk => by cases hk; exact hq5)
    refine ⟨w3.heap.size, hb, Nat.le_refl _, ?_⟩
    replace R5 := Lib.hid hr5
    replace HO := Lib.hid (HO.out.kept hg5 (ne_own (fun q hq => HN5.out q hq)))
    replace R1 := Lib.hid ((hb.block _ LT1).trans R1.out)
    replace R2 := Lib.hid ((hb.block _ LT2).trans R2.out)
    replace XF := Lib.hid (FoV.keep (Kp.below hb fun _ _ h => h) f XF.out)
    replace XG := Lib.hid (FoV.keep (Kp.below hb fun _ _ h => h) g XG.out)
    replace SX := Lib.hid (SX.out.keep (Kp.below hb fun _ _ h => h))
    replace SY := Lib.hid (SY.out.keep (Kp.below hb fun _ _ h => h))
    replace HB := Lib.hid (HB.out.trans (hb.mono hrb))
    clear hb
    have HFB := Lib.hid (show FoK s5 A31 (f.app g) from ⟨xs ++ ys, SvP.ofOwn HO.out (fun b hb _ => hb), FoV.app f g (FoV.mono (fun b h _ => h) f XF.out) (FoV.mono (fun b h _ => h) g XG.out)⟩)
    refine Tin.reg_done (by kernel_rfl) ?_
    exact tail3 _ _ _ _ _ _ _ _ _ _ _ _ _ _ R5.out HFB.out R1.out R2.out ⟨xs, SX.out.mono (fun b h _ => h), FoV.mono (fun b h _ => h) f XF.out⟩ ⟨ys, SY.out.mono (fun b h _ => h), FoV.mono (fun b h _ => h) g XG.out⟩ HB.out
end Go.Proofs.Ytkepbobnjplpoaa
