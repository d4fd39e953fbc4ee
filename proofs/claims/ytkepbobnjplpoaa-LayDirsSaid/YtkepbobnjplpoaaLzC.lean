/- The contract of lay.may. -/
import Derived.Test.YtkepbobnjplpoaaLzB
namespace Go.Proofs.Ytkepbobnjplpoaa
open Go.RowKit
open Go.Tin
set_option linter.unusedVariables false
set_option linter.unusedSimpArgs false

attribute [local go_sem] Oper.semAt_some

set_option maxRecDepth 100000 in
theorem may1_any (n t c : Int) (A : Option Addr) (d : List Int) (cp : Nat) (w : World) (hs : Sl .u8 w A d) (hl : d.length ≤ 1000000000) (hby : Byts d) :
    Calls Try.prog 52 #[.agg #[.int .i64 n, .int .i64 t, .int .i64 c, .slice A d.length cp]] w fun e w' => e = .returned (.bool (!(mayV t c d))) ∧ Below w.heap.size w w' := by
  have hb := ba (brefl w) (.cells #[.int .i64 n, .int .i64 t, .int .i64 c, .slice A d.length cp] 50)
  have hr := heap_alloc_new w (.cells #[.int .i64 n, .int .i64 t, .int .i64 c, .slice A d.length cp] 50)
  have HRT := Lib.hid (show (w.alloc (.cells #[.int .i64 n, .int .i64 t, .int .i64 c, .slice A d.length cp] 50)).rangeAt w.heap.size 1 [.int .i64 t, .int .i64 c, .slice A d.length cp] from rng_tail (row_rng hr))
  have HM := Lib.hid (vmay_any t c A d cp (w.alloc (.cells #[.int .i64 n, .int .i64 t, .int .i64 c, .slice A d.length cp] 50)) (hs.keep hb) hl hby)
  have HB := Lib.hid hb
  clear hb hr hs hby
  go_enter Try.func52, Try.ntmps52
  go_wp2_with ((with_reducible refine wpl_loadv rtVl ?_ (.tmp 3) ?_ (w.heap.size) 1 ?_ [.int .i64 t, .int .i64 c, .slice A d.length cp] ?_ HRT.out ?_); rfl; rfl; rfl; rfl; simp only [Act.put, List.setIfInBounds_toArray, List.set_cons_succ, List.set_cons_zero])
  refine HM.out.mono ?_
  clear HM
  rintro e w1 ⟨rfl, hb1⟩
  go_wp2_with fail
  go_ret
  exact ⟨rfl, HB.out.trans (hb1.mono HB.out.size)⟩
theorem take_nextT {ts : List Tg} {i : Nat} (h : i < ts.length) : ts.take (i + 1) = ts.take i ++ [ts[i]] := (List.take_append_getElem h).symm
set_option maxRecDepth 100000 in
set_option maxHeartbeats 4000000 in
theorem index_tags (B : Nat) (A : Option Addr) (c : Nat) (ts : List Tg) (w : World) (hs : TgS w (· < B) A ts) (hB : B ≤ w.heap.size) (hn : ts.length ≤ 1000000) (hd : ∀ t ∈ ts, t.d.length ≤ 1000000) :
    Calls Try.prog 67 #[.slice A ts.length c, .func (.func 52) #[] #[]] w fun e w' => ∃ r : Int, e = .returned (.int .i64 r) ∧ decide (0 ≤ r) = ts.any (fun t => !(mayV t.t t.c t.d)) ∧ Below w.heap.size w w' := by
  have HS := Lib.hid hs
  have HD := Lib.hid hd
  clear hs hd
  generalize hN : ts.length = N at *
  have HN0 := Lib.hid hN
  clear hN
  go_enter Try.func67, Try.ntmps67
  go_wp2_with fail
  go_loopw [8] (fun s8 wr => ∃ (i : Nat), i ≤ N ∧ s8 = .int .i64 (i : Int) ∧ (ts.take i).any (fun t => !(mayV t.t t.c t.d)) = false ∧ Below w.heap.size w wr) (fun s8 _ => N - (intOf s8).toNat)
  case atStart => exact ⟨0, by omega, rfl, rfl, Below.refl _ _⟩
  case round =>
    obtain ⟨i, hi, rfl, hno, hb⟩ := hrel
    have HN := Lib.hid hno
    have HB := Lib.hid hb
    clear hno hb
    by_cases hil : i < N
    case neg =>
      obtain rfl : i = N := by omega
      have HNA := Lib.hid (show ts.any (fun t => !(mayV t.t t.c t.d)) = false by have := HN.out; rwa [List.take_of_length_le (by rw [HN0.out]; exact Nat.le_refl _)] at this)
      go_wp2_with fail
      go_ret
      exact ⟨_, rfl, by rw [HNA.out]; rfl, HB.out⟩
    have i1 : (i : Int) < (N : Int) := by omega
    have hit : i < ts.length := by rw [HN0.out]; exact hil
    obtain ⟨b, off, rfl, hpb, hlt, hc⟩ := (HS.out.keep (Kp.below (HB.out.mono hB) fun _ _ h => h)).at_ (by omega)
    obtain ⟨Ad, cd, hr, hsl, hby, _⟩ := hc i hit
    have hdl := HD.out _ (List.getElem_mem hit)
    have HX := Lib.hid (take_nextT hit)
    have HAT := Lib.hid (fun (h : (!(mayV ts[i].t ts[i].c ts[i].d)) = true) => (List.any_eq_true (p := fun t => !(mayV t.t t.c t.d))).2 ⟨ts[i], List.getElem_mem hit, h⟩)
    have RG := Lib.hid hr
    have HSL := Lib.hid hsl
    clear hr hsl hc
    generalize ts[i] = tg at *
    obtain ⟨tn, tt, tc, td⟩ := tg
    dsimp only at HX HAT RG HSL hby hdl
    have HCA := Lib.hid (may1_any tn tt tc Ad td cd wr HSL.out.sl (by omega) hby)
    go_wp2_with ((with_reducible refine wpl_loadv rtTg ?_ (.tmp 14) ?_ b (off + i * 4) ?_ [.int .i64 tn, .int .i64 tt, .int .i64 tc, .slice Ad td.length cd] ?_ RG.out ?_); rfl; rfl; rfl; rfl; simp only [Act.put, List.setIfInBounds_toArray, List.set_cons_succ, List.set_cons_zero])
    refine HCA.out.mono ?_
    clear HCA
    cases hq : mayV tt tc td with
    | false =>
      have HE := Lib.hid (HAT.out (by rw [hq]; rfl))
      clear hq HX HAT
      rintro e w' ⟨rfl, hb⟩
      go_wp2_with fail
      go_ret
      exact ⟨_, rfl, by rw [HE.out]; simp, HB.out.trans (hb.mono HB.out.size)⟩
    | true =>
      have HE := Lib.hid (show (ts.take (i + 1)).any (fun t => !(mayV t.t t.c t.d)) = false by rw [HX.out, List.any_append, HN.out]; simp [hq])
      clear hq HX HAT
      rintro e w' ⟨rfl, hb⟩
      go_wp2_with fail
      exact ⟨⟨i + 1, by omega, rfl, HE.out, HB.out.trans (hb.mono HB.out.size)⟩, by simp only [intOf]; omega⟩
set_option maxRecDepth 100000 in
theorem contains_tags (B : Nat) (A : Option Addr) (c : Nat) (ts : List Tg) (w : World) (hs : TgS w (· < B) A ts) (hB : B ≤ w.heap.size) (hn : ts.length ≤ 1000000) (hd : ∀ t ∈ ts, t.d.length ≤ 1000000) :
    Calls Try.prog 51 #[.slice A ts.length c, .func (.func 52) #[] #[]] w fun e w' => e = .returned (.bool (!(ts.all fun t => mayV t.t t.c t.d))) ∧ Below w.heap.size w w' := by
  have HI := Lib.hid (index_tags B A c ts w hs hB hn hd)
  have HA := Lib.hid (show ts.any (fun t => !(mayV t.t t.c t.d)) = !(ts.all fun t => mayV t.t t.c t.d) by rw [List.all_eq_not_any_not, Bool.not_not])
  clear hs hd
  go_enter Try.func51, Try.ntmps51
  go_wp2_with fail
  refine Calls.mono HI.out ?_
  clear HI
  rintro e w' ⟨r, rfl, hr, hb⟩
  have HR := Lib.hid (hr.trans HA.out)
  clear hr HA
  go_wp2_with fail
  go_ret
  exact ⟨ret_bool (by rw [HR.out]), hb⟩
set_option maxRecDepth 100000 in
theorem dirs_any (o : Int) (Ad : Option Addr) (N cd : Nat) (w : World) :
    Calls Try.prog 17 #[.agg #[.int .i64 o, .slice Ad N cd]] w fun e w' => e = .returned (.func (.func 38) #[] #[.pointer (some ⟨w.heap.size, 0, none⟩)]) ∧ w' = w.alloc (.cells (trow o Ad N cd) 24) := by
  go_enter Try.func17, Try.ntmps17
  go_wp2_with fail
  go_ret
  exact ⟨rfl, rfl⟩
theorem put_old {W : World} {l b : Nat} {o : Obj} (h : b < l) : (W.putObj l o).heap[b]? = W.heap[b]? := World.putObj_heap_other (by omega)
theorem set_kp {p : Nat → Prop} {g i : Nat} {W : World} (v : Value) (h : ¬ p g) : Kp p W (W.setCell ⟨g, i, none⟩ v) :=
  ⟨by simp [World.setCell], fun k hk _ => heap_setCell_other _ _ _ _ (fun e => h (by rw [← show k = g from e]; exact hk))⟩
/-- Between two rounds of may's loop. -/
structure MI (f : Fo) (w0 : World) (i : Nat) (W : World) : Prop where
  b : Below w0.heap.size w0 W
  r : W.heap[w0.heap.size + 1]? = some (.cells #[.bool false] 4 (0, 0))
  m : ((flatF f).take i).all (fun d => mayD d.ts d.bl d.sub) = true
structure MX (f : Fo) (w0 : World) (c : Code) (j : Nat) (W : World) : Prop where
  c : c = .ret
  b : Below w0.heap.size w0 W
  r : W.heap[w0.heap.size + 1]? = some (.cells #[.bool false] 4 (0, 0))
  m : mayF f = false
set_option maxRecDepth 100000 in
set_option maxHeartbeats 8000000 in
theorem may_in (o : Int) (Ad : Option Addr) (cd : Nat) (f : Fo) (w : World) (hf : FoS w (· < w.heap.size) false Ad f) (hsm : smF f) (hcnt : f.cnt ≤ 1000) :
    CallsIn Fence.wide 3 Try.prog 30 #[.agg #[.int .i64 o, .slice Ad f.len cd]] w fun e w' => e = .returned (.bool (mayF f)) ∧ Below w.heap.size w w' := by
  have HF := Lib.hid hf
  have HSM := Lib.hid hsm
  clear hf hsm
  obtain ⟨W0, hW0⟩ : ∃ W0, W0 = ((w.alloc (.cells #[.int .i64 o, .slice Ad f.len cd] 24)).alloc (.cells #[.bool false] 4)).alloc (.cells (trow o Ad f.len cd) 24) := ⟨_, rfl⟩
  have hs0 : W0.heap.size = w.heap.size + 3 := by rw [hW0]; simp
  have r0 : W0.heap[w.heap.size + 1]? = some (.cells #[.bool false] 4 (0, 0)) := by
    rw [hW0, heap_alloc_old _ _ (by simp)]
    have := heap_alloc_new (w.alloc (.cells #[.int .i64 o, .slice Ad f.len cd] 24)) (.cells #[.bool false] 4)
    rw [World.size_alloc] at this
    exact this
  have r2 : W0.heap[w.heap.size + 1 + 1]? = some (.cells (trow o Ad f.len cd) 24 (0, 0)) := by
    have := heap_alloc_new ((w.alloc (.cells #[.int .i64 o, .slice Ad f.len cd] 24)).alloc (.cells #[.bool false] 4)) (.cells (trow o Ad f.len cd) 24)
    rw [World.size_alloc, World.size_alloc] at this
    rw [hW0]; exact this
  have hb0 : Below w.heap.size w W0 := by rw [hW0]; exact ba (ba (ba (brefl w) _) _) _
  have HD := Lib.hid (dirs1_any w.heap.size (w.heap.size + 1 + 1) o Ad cd f W0 r2 hb0.size (HF.out.keep (Kp.all hb0)) (by omega))
  have HI0 := Lib.hid (show MI f w 0 W0 from ⟨hb0, r0, rfl⟩)
  have HS0 := Lib.hid hs0
  clear r0 r2 hb0 hs0 HF
  refine callsIn_of_wp_marks Try.func30 rfl trivial ?_ rfl
  simp only [Try.ntmps30, List.size_toArray, List.length_cons, List.length_nil, Nat.reduceAdd, Nat.reduceSub, Array.replicate_succ, Array.replicate_zero, List.push_toArray, List.append_toArray, List.nil_append, List.cons_append]
  gi_wp2
  refine ⟨trivial, (callsIn_wide.2 (dirs_any o Ad f.len cd _)).mono ?_⟩
  rintro e w1 ⟨rfl, rfl⟩
  gi_wp2
  rw [← hW0]
  clear hW0
  refine range_law (gf := 38) (lb := #[.pointer (some ⟨w.heap.size + 1 + 1, 0, none⟩)]) rfl (fun _ _ => by rfl) encD (fun _ => rfl) f.cnt w.heap.size (by rw [HS0.out]; omega) (XD (flatF f) w.heap.size) HD.out (MI f w) (MX f w) ?hI ?hIx HI0.out ?round ?done ?stop
  case hI =>
    rintro i A B ⟨h1, h2, h3⟩ hb
    exact ⟨h1.trans (hb.mono (by have := h1.size; rw [HS0.out]; omega)), (hb.block _ (by rw [HS0.out]; omega)).trans h2, h3⟩
  case hIx =>
    rintro c i A B ⟨h0, h1, h2, h3⟩ hb
    exact ⟨h0, h1.trans (hb.mono (by have := h1.size; rw [HS0.out]; omega)), (hb.block _ (by rw [HS0.out]; omega)).trans h2, h3⟩
  case round =>
    rintro l i ⟨no, At, nt, ct, As, ns, cs, Ab, nb, cb⟩ W m hl hlW hI hi ⟨hiL, h1, h2, h3, h4, hdi⟩
    dsimp only at h1 h2 h3 h4 hdi
    subst h1 h2 h3 h4
    simp only [encD, Dv.agg]
    have HTK := Lib.hid (fun h => take_all (P := fun d : Di => mayD d.ts d.bl d.sub) hiL hI.m h)
    have HNO := Lib.hid (fun h => mayF_no (f := f) hiL h)
    have hse := smF_flat f HSM.out _ (List.getElem_mem hiL)
    generalize (flatF f)[no] = ed at *
    obtain ⟨s1, s2, s3, s4, _⟩ := hse
    have HENT := Lib.hid (entV_N ed.ts ed.bl ed.sub)
    have HMD := Lib.hid (show mayD ed.ts ed.bl ed.sub = (decide (1 ≤ entN ed.ts ed.bl ed.sub) && (decide (entN ed.ts ed.bl ed.sub ≤ 65535) && ed.ts.all fun t => mayV t.t t.c t.d)) from rfl)
    have hent := entN_bd (bl := ed.bl) s1 s3
    generalize entN ed.ts ed.bl ed.sub = EN at *
    have HS4 := Lib.hid s4
    clear s4
    have HRES := Lib.hid hI.r
    have HBW := Lib.hid hI.b
    clear hI
    gi_wp2
    refine ⟨ba (brefl W) _, fun ob => ?_⟩
    have hs0 := HS0.out
    have hv : ((W.alloc (.cells #[.slice At ed.ts.length ct, .slice As ed.sub.len cs, .slice Ab ed.bl.length cb] 42)).putObj l ob).heap[W.heap.size]? = some (.cells #[.slice At ed.ts.length ct, .slice As ed.sub.len cs, .slice Ab ed.bl.length cb] 42 (0, 0)) := (World.putObj_heap_other (by omega)).trans (heap_alloc_new W _)
    have hb := ba (brefl W) (.cells #[.slice At ed.ts.length ct, .slice As ed.sub.len cs, .slice Ab ed.bl.length cb] 42)
    have hrV := (put_old (W := W.alloc (.cells #[.slice At ed.ts.length ct, .slice As ed.sub.len cs, .slice Ab ed.bl.length cb] 42)) (l := l) (o := ob) (b := w.heap.size + 1) (by omega)).trans ((hb.block _ (row_lt HRES.out)).trans HRES.out)
    have hbV : Below w.heap.size w ((W.alloc (.cells #[.slice At ed.ts.length ct, .slice As ed.sub.len cs, .slice Ab ed.bl.length cb] 42)).putObj l ob) := (HBW.out.trans (hb.mono HBW.out.size)).trans (put_below _ (by omega))
    have hkV : Kp (fun b => b < w.heap.size) W ((W.alloc (.cells #[.slice At ed.ts.length ct, .slice As ed.sub.len cs, .slice Ab ed.bl.length cb] 42)).putObj l ob) := (Kp.mono (Kp.all hb) (fun _ h _ => h)).trans (put_kp _ (by omega))
    have HDV := Lib.hid (hdi.keep hkV)
    generalize (W.alloc (.cells #[.slice At ed.ts.length ct, .slice As ed.sub.len cs, .slice Ab ed.bl.length cb] 42)).putObj l ob = V at *
    have RV := Lib.hid hrV
    have BV := Lib.hid hbV
    have RD := Lib.hid hv
    have HRG := Lib.hid (show V.rangeAt W.heap.size 0 [.slice At ed.ts.length ct, .slice As ed.sub.len cs, .slice Ab ed.bl.length cb] from row_rng hv)
    clear hv hb hrV hbV hkV hdi hs0
    have HE1 := Lib.hid (lent_any At As Ab ed.ts.length ct ed.sub.len cs ed.bl.length cb V (by omega) (by omega))
    gi_wp2_with ((with_reducible refine wpli_loadv rtDi (fun _ => trivial) ?_ (.tmp 4) ?_ (W.heap.size) 0 ?_ [.slice At ed.ts.length ct, .slice As ed.sub.len cs, .slice Ab ed.bl.length cb] ?_ HRG.out ?_); rfl; rfl; rfl; rfl; simp only [Act.put, List.setIfInBounds_toArray, List.set_cons_succ, List.set_cons_zero])
    refine ⟨trivial, fun h => (by cases h), (show CallsIn (Fence.wide.inRound l) (m - 1) Try.prog 19 _ V _ from callsIn_wide.2 HE1.out).mono ?_⟩
    rintro e V2 ⟨rfl, hb2⟩
    rw [HENT.out]
    replace RV := Lib.hid ((hb2.block _ (row_lt RV.out)).trans RV.out)
    replace RD := Lib.hid ((hb2.block _ (row_lt RD.out)).trans RD.out)
    replace BV := Lib.hid (BV.out.trans (hb2.mono BV.out.size))
    replace HDV := Lib.hid (HDV.out.keep (Kp.mono (Kp.all hb2) (fun _ _ h => h)))
    have KV := Lib.hid (show Kp (fun b => b < w.heap.size ∨ W0.heap.size ≤ b) V V2 from Kp.mono (Kp.all hb2) (fun _ h _ => h))
    have hnp : ¬ (w.heap.size + 1 < w.heap.size ∨ W0.heap.size ≤ w.heap.size + 1) := by have := HS0.out; omega
    have HNP := Lib.hid hnp
    clear hb2 HE1 HRG hnp
    have k0 := row_cell (v := .slice At ed.ts.length ct) RD.out 0 rfl
    by_cases h1 : EN < 1
    · have i4 : (EN : Int) < 1 := by omega
      have c5 := row_cell (v := .bool false) RV.out 0 rfl
      have y5 := frozen_of_row _ _ 0 _ _ RV.out
      have HN := Lib.hid (HNO.out (by rw [HMD.out, decide_eq_false (show ¬ 1 ≤ EN by omega)]; rfl))
      clear h1
      gi_wp2
      refine ⟨trivial, ?_⟩
      gi_wp2
      exact ⟨KV.out.trans (set_kp _ HNP.out), rfl, BV.out.setCell (p := ⟨w.heap.size + 1, 0, none⟩) (by show w.heap.size ≤ w.heap.size + 1; omega) _, row_set RV.out 0 _, HN.out⟩
    have i4 : decide ((EN : Int) < 1) = false := decide_eq_false (by omega)
    have i5 : decide (65535 < (EN : Int)) = false := decide_eq_false (by omega)
    have HMD2 := Lib.hid (show mayD ed.ts ed.bl ed.sub = ed.ts.all fun t => mayV t.t t.c t.d by rw [HMD.out, decide_eq_true (show 1 ≤ EN by omega), decide_eq_true (show EN ≤ 65535 by omega)]; rfl)
    clear h1 HMD
    gi_wp2
    refine ⟨trivial, fun h => (by cases h), (show CallsIn (Fence.wide.inRound l) (m - 1) Try.prog 51 _ V2 _ from callsIn_wide.2 (contains_tags w.heap.size At ct ed.ts V2 HDV.out.tg BV.out.size (by omega) (fun t ht => by have := HS4.out t ht; omega))).mono ?_⟩
    rw [← HMD2.out]
    clear k0
    cases hq : mayD ed.ts ed.bl ed.sub with
    | true =>
      have HT := Lib.hid (HTK.out hq)
      clear hq i4 i5
      rintro e V3 ⟨rfl, hb3⟩
      gi_wp2
      exact ⟨KV.out.trans (Kp.mono (Kp.all hb3) (fun _ h _ => h)), BV.out.trans (hb3.mono BV.out.size), (hb3.block _ (row_lt RV.out)).trans RV.out, HT.out⟩
    | false =>
      have HN := Lib.hid (HNO.out hq)
      clear hq i4 i5
      rintro e V3 ⟨rfl, hb3⟩
      replace RV := Lib.hid ((hb3.block _ (row_lt RV.out)).trans RV.out)
      have c5 := row_cell (v := .bool false) RV.out 0 rfl
      have y5 := frozen_of_row _ _ 0 _ _ RV.out
      gi_wp2
      exact ⟨(KV.out.trans (Kp.mono (Kp.all hb3) (fun _ h _ => h))).trans (set_kp _ HNP.out), rfl, (BV.out.trans (hb3.mono BV.out.size)).setCell (p := ⟨w.heap.size + 1, 0, none⟩) (by show w.heap.size ≤ w.heap.size + 1; omega) _, row_set RV.out 0 _, HN.out⟩
  case done =>
    rintro D W hD hI hK
    rename_i Q' K hK'
    show K _ W
    refine hK' _ _ ?_
    have c5 := row_cell (v := .bool false) hI.r 0 rfl
    have y5 := frozen_of_row _ _ 0 _ _ hI.r
    have HW := Lib.hid hI
    have HK := Lib.hid hK
    have HT := Lib.hid (show mayF f = true by
      have := hI.m
      rw [List.take_of_length_le (by rw [flatF_len]; exact Nat.le_refl _)] at this
      rw [mayF_flat]; exact this)
    clear hI hK
    gi_wp2
    have rW := row_set HW.out.r 0 (.bool true)
    have hD1 : D ≠ w.heap.size + 1 := by have := HS0.out; omega
    have K4 := (heap_setCell_other W ⟨w.heap.size + 1, 0, none⟩ D (.bool true) hD1).trans HK.out
    have c6 := row_cell (v := .bool true) ((put_old (l := D) (o := .deferred none) (b := w.heap.size + 1) (by have := HS0.out; omega)).trans rW) 0 rfl
    refine ⟨by simp, .inl ⟨_, _, rfl, run_takeDeferred K4, ?_⟩⟩
    refine ⟨.bool true, by simp [results, Try.results30, go_sem, c6], by rw [HT.out], ?_⟩
    exact (HW.out.b.setCell (p := ⟨w.heap.size + 1, 0, none⟩) (by show w.heap.size ≤ w.heap.size + 1; omega) _).trans (put_below _ (by have := HS0.out; omega))
  case stop =>
    rintro D c j W hD hj0 hj1 hI hK
    obtain ⟨rfl, hb, hr, hm⟩ := hI
    gi_wp2
    have c6 := row_cell (v := .bool false) ((put_old (l := D) (o := .deferred none) (b := w.heap.size + 1) (by have := HS0.out; omega)).trans hr) 0 rfl
    refine ⟨by simp, .inl ⟨_, _, rfl, run_takeDeferred hK, ?_⟩⟩
    refine ⟨.bool false, by simp [results, Try.results30, go_sem, c6], by rw [hm], ?_⟩
    exact hb.trans (put_below _ (by have := HS0.out; omega))
theorem may_any (o : Int) (Ad : Option Addr) (cd : Nat) (f : Fo) (w : World) (hf : FoS w (· < w.heap.size) false Ad f) (hsm : smF f) (hcnt : f.cnt ≤ 1000) :
    Calls Try.prog 30 #[.agg #[.int .i64 o, .slice Ad f.len cd]] w fun e w' => e = .returned (.bool (mayF f)) ∧ Below w.heap.size w w' := callsIn_wide.1 (may_in o Ad cd f w hf hsm hcnt)
end Go.Proofs.Ytkepbobnjplpoaa
