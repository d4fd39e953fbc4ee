/- LayDirs: the walk. -/
import Derived.Test.YtkepbobnjplpoaaLzU
namespace Go.Proofs.Ytkepbobnjplpoaa
open Go.RowKit
open Go.Tin
set_option linter.unusedVariables false
set_option linter.unusedSimpArgs false

attribute [local go_sem] Oper.semAt_some

theorem flatF_sub : ∀ f : Fo, ∀ d ∈ flatF f, d.sub.cnt < f.cnt
  | .nil, d, h => by simp [flatF] at h
  | .cons _ ts bl s r, d, h => by
    rw [flatF, List.mem_cons, List.mem_append] at h
    rcases h with rfl | h | h
    · simp only [Fo.cnt]; omega
    · have := flatF_sub s d h; simp only [Fo.cnt]; omega
    · have := flatF_sub r d h; simp only [Fo.cnt]; omega
/-- Between two rounds of the law's loop. -/
structure LI (f : Fo) (w0 : World) (most : Int) (A : Option Addr) (c : Nat) (xs : List Value) (g lo : Nat) (i : Nat) (W : World) : Prop where
  b : Below w0.heap.size w0 W
  r3 : W.heap[w0.heap.size + 1]? = some (.cells #[.int .i64 most] 3 (0, 0))
  r4 : W.heap[w0.heap.size + 1 + 1]? = some (.cells #[.bool false] 4 (0, 0))
  r5 : W.heap[g]? = some (.cells #[.slice A f.cnt c] 22 (0, 0))
  r6 : W.heap[g + 1]? = some (.cells #[.int .i64 (i : Int)] 3 (0, 0))
  s : SvP W (fun b => lo ≤ b ∧ b < g) A xs
  v : DiV W (· < lo) (flatF f) xs
theorem LI.keep {f : Fo} {w0 : World} {most : Int} {A : Option Addr} {c : Nat} {xs : List Value} {g lo i B : Nat} {V W : World} (h : LI f w0 most A c xs g lo i V) (hb : Below B V W) (h4 : w0.heap.size + 1 + 1 < B) (hg : lo ≤ g ∧ g + 1 < B) : LI f w0 most A c xs g lo i W :=
  ⟨h.b.trans (hb.mono (by omega)), (hb.block _ (by omega)).trans h.r3, (hb.block _ (by omega)).trans h.r4, (hb.block _ (by omega)).trans h.r5, (hb.block _ (by omega)).trans h.r6, h.s.keep (Kp.below hb (fun b _ h => by have := h.2; omega)), DiV.keep (Kp.below hb (fun b _ h => by have : b < lo := h; omega)) h.v⟩
def LX (f : Fo) (w0 : World) (most : Int) (A : Option Addr) (c : Nat) (xs : List Value) (g lo : Nat) (cd : Code) (j : Nat) (W : World) : Prop := cd = .exit 0 ∧ LI f w0 most A c xs g lo j W ∧ (j : Int) = most
set_option maxRecDepth 100000 in
set_option maxHeartbeats 16000000 in
theorem dirslaw_in (cs0 : Array Value) (most : Int) (w : World) (ft0 : TiffOk w cs0) :
    CallsIn Fence.wide 3 Try.prog 4 #[.agg cs0, .int .i64 most] w fun e w' => e = .returned (.bool true) ∧ Below w.heap.size w w' := by
  obtain ⟨o, Ad, cd, f, rfl, hf, hN⟩ := ft0
  have HU := Lib.hid (fun (W : World) (h : FoK W Ad f) => huge_any o Ad cd f W h hN)
  generalize hsub : f.len = NS at *
  have HSUB := Lib.hid hsub
  clear hsub
  have b1 := ba (brefl w) (.cells (trow o Ad NS cd) 24)
  have b2 := ba (brefl (w.alloc (.cells (trow o Ad NS cd) 24))) (.cells #[.int .i64 most] 3)
  have b3 := ba (brefl ((w.alloc (.cells (trow o Ad NS cd) 24)).alloc (.cells #[.int .i64 most] 3))) (.cells #[.bool false] 4)
  have r1 := heap_alloc_new w (.cells (trow o Ad NS cd) 24)
  have r2 := heap_alloc_new (w.alloc (.cells (trow o Ad NS cd) 24)) (.cells #[.int .i64 most] 3)
  have r3 := heap_alloc_new ((w.alloc (.cells (trow o Ad NS cd) 24)).alloc (.cells #[.int .i64 most] 3)) (.cells #[.bool false] 4)
  simp only [World.size_alloc] at r2 r3
  have R2 := Lib.hid ((b3.block _ (row_lt ((b2.block _ (row_lt r1)).trans r1))).trans ((b2.block _ (row_lt r1)).trans r1))
  have R3 := Lib.hid ((b3.block _ (row_lt r2)).trans r2)
  have R4 := Lib.hid r3
  have HF := Lib.hid (FoK.keep (FoK.keep (FoK.keep hf b1) b2) b3)
  have HB := Lib.hid ((b1.trans (b2.mono b1.size)).trans (b3.mono (b1.trans (b2.mono b1.size)).size))
  clear b1 b2 b3 r1 r2 r3 hf
  refine callsIn_of_wp_marks Try.func4 rfl trivial ?_ rfl
  simp only [Try.ntmps4, List.size_toArray, List.length_cons, List.length_nil, Nat.reduceAdd, Nat.reduceSub, Array.replicate_succ, Array.replicate_zero, List.push_toArray, List.append_toArray, List.nil_append, List.cons_append]
  gi_wp2
  have HW1 := Lib.hid (show (((w.alloc (.cells (trow o Ad NS cd) 24)).alloc (.cells #[.int .i64 most] 3)).alloc (.cells #[.bool false] 4)) = ((w.alloc (.cells #[.int .i64 o, .slice Ad NS cd] 24)).alloc (.cells #[.int .i64 most] 3)).alloc (.cells #[.bool false] 4) from rfl)
  rw [HW1.out] at R2 R3 R4 HF HB
  clear HW1
  generalize ((w.alloc (.cells #[.int .i64 o, .slice Ad NS cd] 24)).alloc (.cells #[.int .i64 most] 3)).alloc (.cells #[.bool false] 4) = v1 at *
  refine ⟨trivial, (callsIn_wide.2 (HU.out _ HF.out)).mono ?_⟩
  clear HU
  cases hh : hugeF f with
  | true =>
    clear hh
    rintro e v2 ⟨rfl, hb⟩
    replace R2 := Lib.hid ((hb.block _ (row_lt R2.out)).trans R2.out)
    replace R3 := Lib.hid ((hb.block _ (row_lt R3.out)).trans R3.out)
    replace R4 := Lib.hid ((hb.block _ (row_lt R4.out)).trans R4.out)
    replace HF := Lib.hid (HF.out.keep hb)
    replace HB := Lib.hid (HB.out.trans (hb.mono HB.out.size))
    clear hb
    gi_wp2
    refine ⟨trivial, (callsIn_wide.2 (awake_any _)).mono ?_⟩
    rintro e v3 ⟨rfl, hb⟩
    replace R2 := Lib.hid ((hb.block _ (row_lt R2.out)).trans R2.out)
    replace R3 := Lib.hid ((hb.block _ (row_lt R3.out)).trans R3.out)
    replace R4 := Lib.hid ((hb.block _ (row_lt R4.out)).trans R4.out)
    replace HF := Lib.hid (HF.out.keep hb)
    replace HB := Lib.hid (HB.out.trans (hb.mono HB.out.size))
    have c4 := row_cell (v := .bool false) R4.out 0 rfl
    have y4 := frozen_of_row _ _ 0 _ _ R4.out
    clear hb
    gi_wp2
    have c6 := row_cell (v := .bool true) (row_set R4.out 0 (.bool true)) 0 rfl
    refine ⟨.bool true, by simp [results, Try.results4, go_sem, c6], rfl, HB.out.setCell (p := ⟨w.heap.size + 1 + 1, 0, none⟩) (by show w.heap.size ≤ w.heap.size + 1 + 1; omega) _⟩
  | false =>
  obtain ⟨hsm, hcnt, hlen⟩ := hugeF_no hh
  have HSM := Lib.hid hsm
  clear hh hsm
  rintro e v2 ⟨rfl, hb⟩
  replace R2 := Lib.hid ((hb.block _ (row_lt R2.out)).trans R2.out)
  replace R3 := Lib.hid ((hb.block _ (row_lt R3.out)).trans R3.out)
  replace R4 := Lib.hid ((hb.block _ (row_lt R4.out)).trans R4.out)
  replace HF := Lib.hid (HF.out.keep hb)
  replace HB := Lib.hid (HB.out.trans (hb.mono HB.out.size))
  clear hb
  have HRG := Lib.hid (row_rng R2.out)
  have HRD := Lib.hid (rdirs_any v2.heap.size o Ad cd f v2 HF.out (Nat.le_refl _) (by omega))
  rw [HSUB.out] at HRD
  gi_wp2_with ((with_reducible refine wpli_loadv rtTf (fun _ => trivial) ?_ (.tmp 2) ?_ (w.heap.size) 0 ?_ [.int .i64 o, .slice Ad NS cd] ?_ HRG.out ?_); rfl; rfl; rfl; rfl; simp only [Act.put, List.setIfInBounds_toArray, List.set_cons_succ, List.set_cons_zero])
  refine ⟨trivial, (callsIn_wide.2 HRD.out).mono ?_⟩
  clear HRD HRG
  rintro e v3 ⟨A5, c5, xs5, rfl, ho5, hv5, hb⟩
  have hsz3 := hb.size
  have HF2 := Lib.hid (show FoS v3 (· < v2.heap.size) false Ad f from FoS.keep HF.out (Kp.all hb))
  have HNE := Lib.hid (show w.heap.size + 1 + 1 < v3.heap.size from Nat.lt_of_lt_of_le (row_lt R4.out) hb.size)
  replace R2 := Lib.hid ((hb.block _ (row_lt R2.out)).trans R2.out)
  replace R3 := Lib.hid ((hb.block _ (row_lt R3.out)).trans R3.out)
  replace R4 := Lib.hid ((hb.block _ (row_lt R4.out)).trans R4.out)
  replace HF := Lib.hid (HF.out.keep hb)
  replace HB := Lib.hid (HB.out.trans (hb.mono HB.out.size))
  have S5 := Lib.hid (show SvP v3 (fun b => v2.heap.size ≤ b ∧ b < v3.heap.size) A5 xs5 from (SvP.ofOwn ho5 (fun b hb h => ⟨h, hb⟩)))
  have V5 := Lib.hid hv5
  clear hb ho5 hv5
  have b1 := ba (brefl v3) (.cells #[.slice A5 f.cnt c5] 22)
  have b2 := ba (brefl (v3.alloc (.cells #[.slice A5 f.cnt c5] 22))) (.cells #[.int .i64 0] 3)
  have r1 := heap_alloc_new v3 (.cells #[.slice A5 f.cnt c5] 22)
  have r2 := heap_alloc_new (v3.alloc (.cells #[.slice A5 f.cnt c5] 22)) (.cells #[.int .i64 0] 3)
  simp only [World.size_alloc] at r2
  have hb34 := b1.trans (b2.mono b1.size)
  have hs4 : ((v3.alloc (.cells #[.slice A5 f.cnt c5] 22)).alloc (.cells #[.int .i64 0] 3)).heap.size = v3.heap.size + 1 + 1 := by simp only [World.size_alloc]
  have R5 := Lib.hid ((b2.block _ (row_lt r1)).trans r1)
  have R6 := Lib.hid (show ((v3.alloc (.cells #[.slice A5 f.cnt c5] 22)).alloc (.cells #[.int .i64 0] 3)).heap[v3.heap.size + 1]? = some (.cells #[.int .i64 ((0 : Nat) : Int)] 3 (0, 0)) from r2)
  replace R2 := Lib.hid ((hb34.block _ (row_lt R2.out)).trans R2.out)
  replace R3 := Lib.hid ((hb34.block _ (row_lt R3.out)).trans R3.out)
  replace R4 := Lib.hid ((hb34.block _ (row_lt R4.out)).trans R4.out)
  replace HF := Lib.hid (HF.out.keep hb34)
  replace HB := Lib.hid (HB.out.trans (hb34.mono HB.out.size))
  replace HF2 := Lib.hid (HF2.out.keep (Kp.mono (Kp.all hb34) (fun _ h _ => h)))
  replace S5 := Lib.hid (S5.out.keep (Kp.mono (Kp.all hb34) (fun _ h _ => h)))
  replace V5 := Lib.hid (DiV.bel V5.out (hb34.mono hsz3))
  have HRG := Lib.hid (row_rng R2.out)
  clear b1 b2 r1 r2 hb34
  gi_wp2_with ((with_reducible refine wpli_loadv rtTf (fun _ => trivial) ?_ (.tmp 2) ?_ (w.heap.size) 0 ?_ [.int .i64 o, .slice Ad NS cd] ?_ HRG.out ?_); rfl; rfl; rfl; rfl; simp only [Act.put, List.setIfInBounds_toArray, List.set_cons_succ, List.set_cons_zero])
  generalize ((v3.alloc (.cells #[.slice A5 f.cnt c5] 22)).alloc (.cells #[.int .i64 0] 3)) = v4 at *
  refine ⟨trivial, (callsIn_wide.2 (dirs_any o Ad NS cd _)).mono ?_⟩
  rintro e v5 ⟨rfl, rfl⟩
  have hfn : ∀ (A : Array Value) (B : Array Value) (W : World), Sem.run Try.prog (binOp .eql 36 (.func (.func 38) A B) .nilFunc) W = .ok (.bool false) W := fun _ _ _ => by kernel_rfl
  gi_wp2
  clear hfn
  have b1 := ba (brefl v4) (.cells (trow o Ad NS cd) 24)
  have r1 := heap_alloc_new v4 (.cells (trow o Ad NS cd) 24)
  rw [hs4] at r1
  replace R2 := Lib.hid ((b1.block _ (row_lt R2.out)).trans R2.out)
  replace R3 := Lib.hid ((b1.block _ (row_lt R3.out)).trans R3.out)
  replace R4 := Lib.hid ((b1.block _ (row_lt R4.out)).trans R4.out)
  replace HF := Lib.hid (HF.out.keep b1)
  replace HB := Lib.hid (HB.out.trans (b1.mono HB.out.size))
  replace R5 := Lib.hid ((b1.block _ (row_lt R5.out)).trans R5.out)
  replace R6 := Lib.hid ((b1.block _ (row_lt R6.out)).trans R6.out)
  replace S5 := Lib.hid (S5.out.keep (Kp.mono (Kp.all b1) (fun _ h _ => h)))
  replace V5 := Lib.hid (DiV.keep (Kp.mono (Kp.all b1) (fun _ h _ => h)) V5.out)
  replace HF2 := Lib.hid (HF2.out.keep (Kp.mono (Kp.all b1) (fun _ h _ => h)))
  have HS5 := Lib.hid (show (v4.alloc (.cells (trow o Ad NS cd) 24)).heap.size = v3.heap.size + 1 + 1 + 1 by rw [World.size_alloc, hs4])
  clear hs4 b1
  generalize v4.alloc (.cells (trow o Ad NS cd) 24) = v5 at *
  have LT4 := row_lt R4.out
  have LT3 := row_lt R3.out
  have HD := Lib.hid (dirs1_any v2.heap.size (v3.heap.size + 1 + 1) o Ad cd f v5 (by rw [HSUB.out]; exact r1) (by have := HS5.out; omega) HF2.out (by omega))
  have HI0 := Lib.hid (show LI f w most A5 c5 xs5 v3.heap.size v2.heap.size 0 v5 from ⟨HB.out, R3.out, R4.out, R5.out, R6.out, S5.out, V5.out⟩)
  clear r1 R2 R3 R4 R5 R6 S5 V5 HF2 HF HB HRG
  refine range_law (gf := 38) (lb := #[.pointer (some ⟨v3.heap.size + 1 + 1, 0, none⟩)]) rfl (fun _ _ => by rfl) encD (fun _ => rfl) f.cnt v2.heap.size (by rw [HS5.out]; omega) (XD (flatF f) v2.heap.size) HD.out (LI f w most A5 c5 xs5 v3.heap.size v2.heap.size) (LX f w most A5 c5 xs5 v3.heap.size v2.heap.size) ?hI ?hIx HI0.out ?round ?done ?stop
  case hI =>
    rintro i A B h hb
    exact h.keep hb LT4 (by have := HS5.out; omega)
  case hIx =>
    rintro c i A B ⟨h0, h1, h2⟩ hb
    exact ⟨h0, h1.keep hb LT4 (by have := HS5.out; omega), h2⟩
  case round =>
    rintro l i ⟨no, At, nt, ct, As, ns, cs, Ab, nb, cb⟩ W m hl hlW hI hi ⟨hiL, h1, h2, h3, h4, hdi⟩
    dsimp only at h1 h2 h3 h4 hdi
    subst h1 h2 h3 h4
    simp only [encD, Dv.agg]
    have hse := smF_flat f HSM.out _ (List.getElem_mem hiL)
    have hec := flatF_sub f _ (List.getElem_mem hiL)
    have HI := Lib.hid hI
    have HDI := Lib.hid hdi
    have HED := Lib.hid (rfl : (flatF f)[no] = (flatF f)[no])
    generalize hed : (flatF f)[no] = ed at hse hec HDI ⊢
    have HED2 := Lib.hid hed
    clear hI hdi hed HED
    obtain ⟨s1, s2, s3, s4, s5⟩ := id hse
    have HSE := Lib.hid hse
    clear s4 s5 hse
    gi_wp2
    refine ⟨ba (brefl W) _, fun ob => ?_⟩
    have hs0 := HS5.out
    have hb := ba (brefl W) (.cells #[.slice At ed.ts.length ct, .slice As ed.sub.len cs, .slice Ab ed.bl.length cb] 42)
    have E1 : RgK ((W.alloc (.cells #[.slice At ed.ts.length ct, .slice As ed.sub.len cs, .slice Ab ed.bl.length cb] 42)).putObj l ob) W.heap.size 0 [.slice At ed.ts.length ct, .slice As ed.sub.len cs, .slice Ab ed.bl.length cb] := by
      have hv := (World.putObj_heap_other (o := ob) (show W.heap.size ≠ l by omega)).trans (heap_alloc_new W (.cells #[.slice At ed.ts.length ct, .slice As ed.sub.len cs, .slice Ab ed.bl.length cb] 42))
      exact ⟨row_lt hv, row_rng hv⟩
    have hr3 := (put_old (W := W.alloc (.cells #[.slice At ed.ts.length ct, .slice As ed.sub.len cs, .slice Ab ed.bl.length cb] 42)) (l := l) (o := ob) (b := w.heap.size + 1) (by omega)).trans ((hb.block _ (row_lt HI.out.r3)).trans HI.out.r3)
    have hr4 := (put_old (W := W.alloc (.cells #[.slice At ed.ts.length ct, .slice As ed.sub.len cs, .slice Ab ed.bl.length cb] 42)) (l := l) (o := ob) (b := w.heap.size + 1 + 1) (by omega)).trans ((hb.block _ (row_lt HI.out.r4)).trans HI.out.r4)
    have hr5 := (put_old (W := W.alloc (.cells #[.slice At ed.ts.length ct, .slice As ed.sub.len cs, .slice Ab ed.bl.length cb] 42)) (l := l) (o := ob) (b := v3.heap.size) (by omega)).trans ((hb.block _ (row_lt HI.out.r5)).trans HI.out.r5)
    have hr6 := (put_old (W := W.alloc (.cells #[.slice At ed.ts.length ct, .slice As ed.sub.len cs, .slice Ab ed.bl.length cb] 42)) (l := l) (o := ob) (b := v3.heap.size + 1) (by omega)).trans ((hb.block _ (row_lt HI.out.r6)).trans HI.out.r6)
    have hbV : Below w.heap.size w ((W.alloc (.cells #[.slice At ed.ts.length ct, .slice As ed.sub.len cs, .slice Ab ed.bl.length cb] 42)).putObj l ob) := (HI.out.b.trans (hb.mono HI.out.b.size)).trans (put_below _ (by omega))
    have hkV : ∀ q : Nat → Prop, (∀ b, q b → b < v3.heap.size) → Kp q W ((W.alloc (.cells #[.slice At ed.ts.length ct, .slice As ed.sub.len cs, .slice Ab ed.bl.length cb] 42)).putObj l ob) := fun q hq => (Kp.mono (Kp.all hb) (fun _ h _ => h)).trans (put_kp _ (fun h => by have := hq _ h; omega))
    have S5 := Lib.hid (HI.out.s.keep (hkV _ (fun b h => h.2)))
    have V5 := Lib.hid (DiV.keep (hkV _ (fun b h => Nat.lt_of_lt_of_le h hsz3)) HI.out.v)
    have hdv := HDI.out.keep (hkV _ (fun b h => Nat.lt_of_lt_of_le h hsz3))
    generalize (W.alloc (.cells #[.slice At ed.ts.length ct, .slice As ed.sub.len cs, .slice Ab ed.bl.length cb] 42)).putObj l ob = V at *
    replace E1 := Lib.hid E1
    have R3 := Lib.hid hr3
    have R4 := Lib.hid hr4
    have R5 := Lib.hid hr5
    have R6 := Lib.hid hr6
    have BV := Lib.hid hbV
    have D1 := Lib.hid (show DiK V At As Ab ed from hdv.mono (fun b h _ => h))
    have KV := Lib.hid (show Kp (fun b => b < v2.heap.size ∨ v5.heap.size ≤ b) V V from ⟨Nat.le_refl _, fun _ _ _ => rfl⟩)
    clear hr3 hr4 hr5 hr6 hbV hkV hdv hb HI HDI
    obtain ⟨b, off, rfl, hb5, hat5⟩ := DiS.at_ (SvP.sl S5.out) V5.out (Nat.lt_of_le_of_lt (Nat.zero_le _) hiL)
    obtain ⟨At2, ct2, As2, cs2, Ab2, cb2, hr2, hd2⟩ := hat5 no hiL
    rw [HED2.out] at hr2 hd2
    have E2 := Lib.hid (show RgK V b (off + no * 3) [.slice At2 ed.ts.length ct2, .slice As2 ed.sub.len cs2, .slice Ab2 ed.bl.length cb2] from ⟨hb5, hr2⟩)
    have D2 := Lib.hid (show DiK V At2 As2 Ab2 ed from hd2.mono (fun b h _ => h))
    clear hat5 hr2 hd2 hb5
    have L1 := E1.out.1
    have L2 := E2.out.1
    have nn : ((no : Int) == (no : Int)) = true := by rw [beq_iff_eq]
    have nl : (no : Int) < (f.cnt : Int) := by omega
    have ng : decide (f.cnt ≤ no) = false := decide_eq_false (by omega)
    have HNP := Lib.hid (show ¬ (v3.heap.size + 1 < v2.heap.size ∨ v5.heap.size ≤ v3.heap.size + 1) by omega)
    have NE4 := Lib.hid (show w.heap.size + 1 + 1 ≠ v3.heap.size + 1 by have := HNE.out; omega)
    have NE3 := Lib.hid (show w.heap.size + 1 ≠ v3.heap.size + 1 by have := HNE.out; omega)
    clear hs0
    gi_wp2
    have LT_R3 : _ < V.heap.size := row_lt R3.out
    have LT_R4 : _ < V.heap.size := row_lt R4.out
    have LT_R5 : _ < V.heap.size := row_lt R5.out
    have LT_R6 : _ < V.heap.size := row_lt R6.out
    have SZ : V.heap.size ≤ V.drew.heap.size := Nat.le_refl _
    have hb := ud' (brefl V)
    replace E1 := Lib.hid (E1.out.keep hb)
    replace E2 := Lib.hid (E2.out.keep hb)
    replace D1 := Lib.hid (D1.out.keep hb)
    replace D2 := Lib.hid (D2.out.keep hb)
    replace R3 := Lib.hid ((hb.block _ (row_lt R3.out)).trans R3.out)
    replace R4 := Lib.hid ((hb.block _ (row_lt R4.out)).trans R4.out)
    replace R5 := Lib.hid ((hb.block _ (row_lt R5.out)).trans R5.out)
    replace R6 := Lib.hid ((hb.block _ (row_lt R6.out)).trans R6.out)
    replace S5 := Lib.hid (S5.out.keep (Kp.mono (Kp.all hb) (fun _ h _ => h)))
    replace V5 := Lib.hid (DiV.keep (Kp.mono (Kp.all hb) (fun _ h _ => h)) V5.out)
    replace KV := Lib.hid (KV.out.trans (Kp.mono (Kp.all hb) (fun _ h _ => h)))
    replace BV := Lib.hid (BV.out.trans (hb.mono BV.out.size))
    clear hb
    refine reg_begin_in (V.heap.size) 28 (by rfl) (by kernel_rfl) (by kernel_rfl) ?hq2 ?_
    case hq2 => rintro ⟨a, w', h⟩; exact h
    have q5 : ∀ p : Bel (V.heap.size) V.drew, p.w'.cell? ⟨v3.heap.size, 0, none⟩ = some (.slice (some ⟨b, off, none⟩) f.cnt c5) := fun p => row_cell ((p.h.block _ LT_R5).trans R5.out) 0 rfl
    have q6 : ∀ p : Bel (V.heap.size) V.drew, p.w'.cell? ⟨v3.heap.size + 1, 0, none⟩ = some (.int .i64 (no : Int)) := fun p => row_cell ((p.h.block _ LT_R6).trans R6.out) 0 rfl
    refine Tin.reg_quiets [0, 1, 2, 3, 4, 5, 6, 7, 8, 9, 10, 11, 12, 13, 14] _ 13 rfl (by simp only [Tin.pick, List.map_cons, List.map_nil, Array.getD_eq_getD_getElem?, List.getElem?_toArray, List.getElem?_cons_zero, List.getElem?_cons_succ, Option.getD_some]; rfl) (by kernel_rfl) (by kernel_rfl) ?_
    repeat (first | ((with_reducible refine wpq_loadv rtDi ?_ (.tmp 9) ?_ (W.heap.size) (0) ?_ [.slice At ed.ts.length ct, .slice As ed.sub.len cs, .slice Ab ed.bl.length cb] ?_ (fun W h => by obtain ⟨p, rfl⟩ := h; exact rng_below p.h L1 E1.out.rng) ?_); rfl; rfl; rfl; rfl; simp only [Act.put, List.setIfInBounds_toArray, List.set_cons_succ, List.set_cons_zero]) | ((with_reducible refine wpq_loadv rtDi ?_ (.tmp 35) ?_ b (off + no * 3) ?_ [.slice At2 ed.ts.length ct2, .slice As2 ed.sub.len cs2, .slice Ab2 ed.bl.length cb2] ?_ (fun W h => by obtain ⟨p, rfl⟩ := h; exact rng_below p.h L2 E2.out.rng) ?_); rfl; rfl; rfl; rfl; simp only [Act.put, List.setIfInBounds_toArray, List.set_cons_succ, List.set_cons_zero]) | go_big_quiet_step (fail))
    refine wpQuiet_nil ?_
    clear q5 q6
    refine Tin.reg_one 15 _ rfl (by kernel_rfl) ?_
    try simp only [List.getElem_toArray, List.getElem_cons_succ, List.getElem_cons_zero]
    go_wp2_with fail
    refine (dir_same _ At As Ab ct cs cb At2 As2 Ab2 ct2 cs2 cb2 ed _ (Nat.lt_succ_self _) D1.out D2.out HSE.out (by omega)).mono ?_
    rintro e z1 ⟨rfl, hv⟩
    go_wp2_with fail
    refine ⟨V.heap.size, hv.mono SZ, Nat.le_refl _, ?_⟩
    replace E1 := Lib.hid (E1.out.keep hv)
    replace E2 := Lib.hid (E2.out.keep hv)
    replace D1 := Lib.hid (D1.out.keep hv)
    replace D2 := Lib.hid (D2.out.keep hv)
    replace R3 := Lib.hid ((hv.block _ (row_lt R3.out)).trans R3.out)
    replace R4 := Lib.hid ((hv.block _ (row_lt R4.out)).trans R4.out)
    replace R5 := Lib.hid ((hv.block _ (row_lt R5.out)).trans R5.out)
    replace R6 := Lib.hid ((hv.block _ (row_lt R6.out)).trans R6.out)
    replace S5 := Lib.hid (S5.out.keep (Kp.mono (Kp.all hv) (fun _ h _ => h)))
    replace V5 := Lib.hid (DiV.keep (Kp.mono (Kp.all hv) (fun _ h _ => h)) V5.out)
    replace KV := Lib.hid (KV.out.trans (Kp.mono (Kp.all hv) (fun _ h _ => h)))
    replace BV := Lib.hid (BV.out.trans (hv.mono BV.out.size))
    replace SZ := Nat.le_trans SZ hv.size
    clear hv
    have q5 : ∀ p : Bel (V.heap.size) z1, p.w'.cell? ⟨v3.heap.size, 0, none⟩ = some (.slice (some ⟨b, off, none⟩) f.cnt c5) := fun p => row_cell ((p.h.block _ LT_R5).trans R5.out) 0 rfl
    have q6 : ∀ p : Bel (V.heap.size) z1, p.w'.cell? ⟨v3.heap.size + 1, 0, none⟩ = some (.int .i64 (no : Int)) := fun p => row_cell ((p.h.block _ LT_R6).trans R6.out) 0 rfl
    refine Tin.reg_quiets [16, 17, 18, 19, 21, 22, 23, 24] _ 4 rfl (by simp only [Tin.pick, List.map_cons, List.map_nil, Array.getD_eq_getD_getElem?, List.getElem?_toArray, List.getElem?_cons_zero, List.getElem?_cons_succ, Option.getD_some]; rfl) (by kernel_rfl) (by kernel_rfl) ?_
    repeat (first | ((with_reducible refine wpq_loadv rtDi ?_ (.tmp 9) ?_ (W.heap.size) (0) ?_ [.slice At ed.ts.length ct, .slice As ed.sub.len cs, .slice Ab ed.bl.length cb] ?_ (fun W h => by obtain ⟨p, rfl⟩ := h; exact rng_below p.h L1 E1.out.rng) ?_); rfl; rfl; rfl; rfl; simp only [Act.put, List.setIfInBounds_toArray, List.set_cons_succ, List.set_cons_zero]) | ((with_reducible refine wpq_loadv rtDi ?_ (.tmp 45) ?_ b (off + no * 3) ?_ [.slice At2 ed.ts.length ct2, .slice As2 ed.sub.len cs2, .slice Ab2 ed.bl.length cb2] ?_ (fun W h => by obtain ⟨p, rfl⟩ := h; exact rng_below p.h L2 E2.out.rng) ?_); rfl; rfl; rfl; rfl; simp only [Act.put, List.setIfInBounds_toArray, List.set_cons_succ, List.set_cons_zero]) | go_big_quiet_step (fail))
    refine wpQuiet_nil ?_
    clear q5 q6
    refine Tin.reg_one 20 _ rfl (by kernel_rfl) ?_
    try simp only [List.getElem_toArray, List.getElem_cons_succ, List.getElem_cons_zero]
    go_wp2_with fail
    refine (lent_any At As Ab ed.ts.length ct ed.sub.len cs ed.bl.length cb _ (by omega) (by omega)).mono ?_
    rintro e z2 ⟨rfl, hv⟩
    go_wp2_with fail
    refine ⟨V.heap.size, hv.mono SZ, Nat.le_refl _, ?_⟩
    replace E1 := Lib.hid (E1.out.keep hv)
    replace E2 := Lib.hid (E2.out.keep hv)
    replace D1 := Lib.hid (D1.out.keep hv)
    replace D2 := Lib.hid (D2.out.keep hv)
    replace R3 := Lib.hid ((hv.block _ (row_lt R3.out)).trans R3.out)
    replace R4 := Lib.hid ((hv.block _ (row_lt R4.out)).trans R4.out)
    replace R5 := Lib.hid ((hv.block _ (row_lt R5.out)).trans R5.out)
    replace R6 := Lib.hid ((hv.block _ (row_lt R6.out)).trans R6.out)
    replace S5 := Lib.hid (S5.out.keep (Kp.mono (Kp.all hv) (fun _ h _ => h)))
    replace V5 := Lib.hid (DiV.keep (Kp.mono (Kp.all hv) (fun _ h _ => h)) V5.out)
    replace KV := Lib.hid (KV.out.trans (Kp.mono (Kp.all hv) (fun _ h _ => h)))
    replace BV := Lib.hid (BV.out.trans (hv.mono BV.out.size))
    replace SZ := Nat.le_trans SZ hv.size
    clear hv
    refine Tin.reg_one 25 _ rfl (by kernel_rfl) ?_
    try simp only [List.getElem_toArray, List.getElem_cons_succ, List.getElem_cons_zero]
    go_wp2_with fail
    refine (rent_any At2 As2 Ab2 ed.ts.length ct2 ed.sub.len cs2 ed.bl.length cb2 _ (by omega) (by omega)).mono ?_
    rintro e z3 ⟨rfl, hv⟩
    go_wp2_with fail
    refine ⟨V.heap.size, hv.mono SZ, Nat.le_refl _, ?_⟩
    replace E1 := Lib.hid (E1.out.keep hv)
    replace E2 := Lib.hid (E2.out.keep hv)
    replace D1 := Lib.hid (D1.out.keep hv)
    replace D2 := Lib.hid (D2.out.keep hv)
    replace R3 := Lib.hid ((hv.block _ (row_lt R3.out)).trans R3.out)
    replace R4 := Lib.hid ((hv.block _ (row_lt R4.out)).trans R4.out)
    replace R5 := Lib.hid ((hv.block _ (row_lt R5.out)).trans R5.out)
    replace R6 := Lib.hid ((hv.block _ (row_lt R6.out)).trans R6.out)
    replace S5 := Lib.hid (S5.out.keep (Kp.mono (Kp.all hv) (fun _ h _ => h)))
    replace V5 := Lib.hid (DiV.keep (Kp.mono (Kp.all hv) (fun _ h _ => h)) V5.out)
    replace KV := Lib.hid (KV.out.trans (Kp.mono (Kp.all hv) (fun _ h _ => h)))
    replace BV := Lib.hid (BV.out.trans (hv.mono BV.out.size))
    replace SZ := Nat.le_trans SZ hv.size
    clear hv
    have mm : (entV ed.ts.length ed.sub.len ed.bl.length == entV ed.ts.length ed.sub.len ed.bl.length) = true := by rw [beq_iff_eq]
    refine Tin.reg_quiets [26, 27] _ 0 rfl (by simp only [Tin.pick, List.map_cons, List.map_nil, Array.getD_eq_getD_getElem?, List.getElem?_toArray, List.getElem?_cons_zero, List.getElem?_cons_succ, Option.getD_some]; rfl) (by kernel_rfl) (by kernel_rfl) ?_
    repeat (first | go_big_quiet_step (fail))
    refine wpQuiet_nil ?_
    refine Tin.reg_done (by kernel_rfl) ?_
    clear mm
    have c6 := row_cell (v := .int .i64 (no : Int)) R6.out 0 rfl
    have y6 := frozen_of_row _ _ 0 _ _ R6.out
    have c3 := row_cell (v := .int .i64 most) R3.out 0 rfl
    have HLI := Lib.hid (show LI f w most (some ⟨b, off, none⟩) c5 xs5 v3.heap.size v2.heap.size (no + 1) (z3.setCell ⟨v3.heap.size + 1, 0, none⟩ (.int .i64 ((no : Int) + 1))) from ⟨BV.out.setCell (p := ⟨v3.heap.size + 1, 0, none⟩) (by show w.heap.size ≤ v3.heap.size + 1; have := HNE.out; omega) _, (heap_setCell_other _ _ _ _ NE3.out).trans R3.out, (heap_setCell_other _ _ _ _ NE4.out).trans R4.out, (heap_setCell_other _ _ _ _ (show v3.heap.size ≠ v3.heap.size + 1 by omega)).trans R5.out, row_set R6.out 0 _, S5.out.keep (set_kp _ (fun h => by have := h.2; omega)), DiV.keep (set_kp _ (fun h => by have : v3.heap.size + 1 < v2.heap.size := h; omega)) V5.out⟩)
    have ne3 : ¬ (w.heap.size + 1 = v3.heap.size + 1) := NE3.out
    by_cases hm : (no : Int) + 1 = most
    · have mq : ((no : Int) + 1 == most) = true := by rw [beq_iff_eq]; exact hm
      gi_wp2
      exact ⟨KV.out.trans (set_kp _ HNP.out), rfl, hm ▸ HLI.out, hm⟩
    · have mq : ((no : Int) + 1 == most) = false := by rw [beq_eq_false_iff_ne]; exact hm
      gi_wp2
      exact ⟨KV.out.trans (set_kp _ HNP.out), HLI.out⟩
  case done =>
    rintro D W hD hI hK
    rename_i Q' K hK'
    show K _ W
    refine hK' _ _ ?_
    have nn : ((f.cnt : Int) == (f.cnt : Int)) = true := by rw [beq_iff_eq]
    have c6 := row_cell (v := .int .i64 (f.cnt : Int)) hI.r6 0 rfl
    have c5 := row_cell (v := .slice A5 f.cnt c5) hI.r5 0 rfl
    have c3 := row_cell (v := .int .i64 most) hI.r3 0 rfl
    have R4 := Lib.hid hI.r4
    have HB := Lib.hid hI.b
    have HK := Lib.hid hK
    clear hI hK
    gi_wp2
    refine ⟨trivial, (callsIn_wide.2 (awake_any _)).mono ?_⟩
    rintro e W2 ⟨rfl, hb⟩
    replace R4 := Lib.hid ((hb.block _ (row_lt R4.out)).trans R4.out)
    replace HK := Lib.hid ((hb.block _ (row_lt HK.out)).trans HK.out)
    replace HB := Lib.hid (HB.out.trans (hb.mono HB.out.size))
    clear hb c6 c5 c3
    have c4 := row_cell (v := .bool false) R4.out 0 rfl
    have y4 := frozen_of_row _ _ 0 _ _ R4.out
    gi_wp2
    have rW := row_set R4.out 0 (.bool true)
    have hD1 : D ≠ w.heap.size + 1 + 1 := by omega
    have K4 := (heap_setCell_other W2 ⟨w.heap.size + 1 + 1, 0, none⟩ D (.bool true) hD1).trans HK.out
    have c7 := row_cell (v := .bool true) ((put_old (l := D) (o := .deferred none) (b := w.heap.size + 1 + 1) (by omega)).trans rW) 0 rfl
    refine ⟨by simp, .inl ⟨_, _, rfl, run_takeDeferred K4, ?_⟩⟩
    refine ⟨.bool true, by simp [results, Try.results4, go_sem, c7], rfl, ?_⟩
    exact (HB.out.setCell (p := ⟨w.heap.size + 1 + 1, 0, none⟩) (by show w.heap.size ≤ w.heap.size + 1 + 1; omega) _).trans (put_below _ (by omega))
  case stop =>
    rintro D c j W hD hj0 hj1 ⟨rfl, hI, hm⟩ hK
    have c6 := row_cell (v := .int .i64 (j : Int)) hI.r6 0 rfl
    have c5 := row_cell (v := .slice A5 f.cnt c5) hI.r5 0 rfl
    have c3 := row_cell (v := .int .i64 most) hI.r3 0 rfl
    have R4 := Lib.hid hI.r4
    have HB := Lib.hid hI.b
    have HK := Lib.hid hK
    clear hI hK
    by_cases hj : (j : Int) = (f.cnt : Int)
    · have nn : ((j : Int) == (f.cnt : Int)) = true := by rw [beq_iff_eq]; exact hj
      gi_wp2
      refine ⟨trivial, (callsIn_wide.2 (awake_any _)).mono ?_⟩
      rintro e W2 ⟨rfl, hb⟩
      replace R4 := Lib.hid ((hb.block _ (row_lt R4.out)).trans R4.out)
      replace HK := Lib.hid ((hb.block _ (row_lt HK.out)).trans HK.out)
      replace HB := Lib.hid (HB.out.trans (hb.mono HB.out.size))
      clear hb c6 c5 c3
      have c4 := row_cell (v := .bool false) R4.out 0 rfl
      have y4 := frozen_of_row _ _ 0 _ _ R4.out
      gi_wp2
      have rW := row_set R4.out 0 (.bool true)
      have hD1 : D ≠ w.heap.size + 1 + 1 := by omega
      have K4 := (heap_setCell_other W2 ⟨w.heap.size + 1 + 1, 0, none⟩ D (.bool true) hD1).trans HK.out
      have c7 := row_cell (v := .bool true) ((put_old (l := D) (o := .deferred none) (b := w.heap.size + 1 + 1) (by omega)).trans rW) 0 rfl
      refine ⟨by simp, .inl ⟨_, _, rfl, run_takeDeferred K4, ?_⟩⟩
      refine ⟨.bool true, by simp [results, Try.results4, go_sem, c7], rfl, ?_⟩
      exact (HB.out.setCell (p := ⟨w.heap.size + 1 + 1, 0, none⟩) (by show w.heap.size ≤ w.heap.size + 1 + 1; omega) _).trans (put_below _ (by omega))
    · have nn : ((j : Int) == (f.cnt : Int)) = false := by rw [beq_eq_false_iff_ne]; exact hj
      have mq : ((j : Int) == most) = true := by rw [beq_iff_eq]; exact hm
      gi_wp2
      refine ⟨trivial, (callsIn_wide.2 (awake_any _)).mono ?_⟩
      rintro e W2 ⟨rfl, hb⟩
      replace R4 := Lib.hid ((hb.block _ (row_lt R4.out)).trans R4.out)
      replace HK := Lib.hid ((hb.block _ (row_lt HK.out)).trans HK.out)
      replace HB := Lib.hid (HB.out.trans (hb.mono HB.out.size))
      clear hb c6 c5 c3
      have c4 := row_cell (v := .bool false) R4.out 0 rfl
      have y4 := frozen_of_row _ _ 0 _ _ R4.out
      gi_wp2
      have rW := row_set R4.out 0 (.bool true)
      have hD1 : D ≠ w.heap.size + 1 + 1 := by omega
      have K4 := (heap_setCell_other W2 ⟨w.heap.size + 1 + 1, 0, none⟩ D (.bool true) hD1).trans HK.out
      have c7 := row_cell (v := .bool true) ((put_old (l := D) (o := .deferred none) (b := w.heap.size + 1 + 1) (by omega)).trans rW) 0 rfl
      refine ⟨by simp, .inl ⟨_, _, rfl, run_takeDeferred K4, ?_⟩⟩
      refine ⟨.bool true, by simp [results, Try.results4, go_sem, c7], rfl, ?_⟩
      exact (HB.out.setCell (p := ⟨w.heap.size + 1 + 1, 0, none⟩) (by show w.heap.size ≤ w.heap.size + 1 + 1; omega) _).trans (put_below _ (by omega))
theorem dirslaw_any (cs0 : Array Value) (most : Int) (w : World) (_sz0 : cs0.size = 2) (ft0 : TiffOk w cs0) (_wm : (Lit.int .i64 most).wf = true) :
    Calls Try.prog 4 #[.agg cs0, .int .i64 most] w fun e w' => e = .returned (.bool true) ∧ Below w.heap.size w w' := callsIn_wide.1 (dirslaw_in cs0 most w ft0)
end Go.Proofs.Ytkepbobnjplpoaa
