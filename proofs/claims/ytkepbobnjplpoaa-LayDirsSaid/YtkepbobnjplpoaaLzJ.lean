/- LaySide: the walk. -/
import Derived.Test.YtkepbobnjplpoaaLzH
namespace Go.Proofs.Ytkepbobnjplpoaa
open Go.RowKit
open Go.Tin
set_option linter.unusedVariables false
set_option linter.unusedSimpArgs false


/-- A row of directories that are read. -/
def DsK (w : World) (A : Option Addr) (L : List Di) : Prop := ∃ xs, SlV w A xs ∧ DiV w (· < w.heap.size) L xs
theorem DsK.keep {w w' : World} {A : Option Addr} {L : List Di} (h : DsK w A L) (hb : Below w.heap.size w w') : DsK w' A L := by
  obtain ⟨xs, h1, h2⟩ := h
  exact ⟨xs, h1.keep hb, (h2.bel hb).mono fun b _ h => Nat.lt_of_lt_of_le h hb.size⟩
theorem DsK.at_ {w : World} {A : Option Addr} {L : List Di} (h : DsK w A L) (hl : 0 < L.length) :
    ∃ b off, A = some ⟨b, off, none⟩ ∧ b < w.heap.size ∧ ∀ i (hi : i < L.length), ∃ At ct As cs Ab cb, w.rangeAt b (off + i * 3) [.slice At L[i].ts.length ct, .slice As L[i].sub.len cs, .slice Ab L[i].bl.length cb] ∧ DiP w (· < w.heap.size) At As Ab L[i] := by
  obtain ⟨xs, h1, h2⟩ := h
  exact DiS.at_ h1 h2 hl
def DiK (w : World) (At As Ab : Option Addr) (d : Di) : Prop := DiP w (· < w.heap.size) At As Ab d
theorem DiK.keep {w w' : World} {At As Ab : Option Addr} {d : Di} (h : DiK w At As Ab d) (hb : Below w.heap.size w w') : DiK w' At As Ab d := (DiP.bel h hb).mono fun b _ h => Nat.lt_of_lt_of_le h hb.size
def RgK (w : World) (b q : Nat) (xs : List Value) : Prop := b < w.heap.size ∧ w.rangeAt b q xs
theorem RgK.rng {w : World} {b q : Nat} {xs : List Value} (h : RgK w b q xs) : w.rangeAt b q xs := h.2
theorem RgK.keep {w w' : World} {b q : Nat} {xs : List Value} (h : RgK w b q xs) (hb : Below w.heap.size w w') : RgK w' b q xs := ⟨Nat.lt_of_lt_of_le h.1 hb.size, rng_below hb h.1 h.2⟩
/-- How many values of tags lie outside; with the blob. -/
def outT (ts : List Tg) : Nat := (ts.filter fun t => decide (0 < ouE t.t t.c)).length
def outB (bl : List Int) : Nat := if 0 < bl.length then 1 else 0
def outL (L : List Di) : Nat := (L.map fun d => outB d.bl + outT d.ts).sum
theorem tagsL_out (no : Int) : ∀ (ts : List Tg) (l : List Sp), (tagsL l no ts).length = l.length + outT ts
  | [], l => by simp [tagsL, outT]
  | t :: ts, l => by
    rw [tagsL, tagsL_out no ts]
    unfold outT
    by_cases h : 0 < ouE t.t t.c
    · rw [if_pos h, List.filter_cons_of_pos (by simpa using h), wth_len, List.length_cons]; omega
    · rw [if_neg h, List.filter_cons_of_neg (by simpa using h)]
theorem blobL_out (no : Int) (bl : List Int) (l : List Sp) : (blobL l no bl).length = l.length + outB bl := by
  unfold blobL outB; split
  · rw [wth_len]
  · omega
theorem outL_cons (d : Di) (L : List Di) : outL (d :: L) = outB d.bl + outT d.ts + outL L := by simp [outL]
theorem outL_app (L M : List Di) : outL (L ++ M) = outL L + outL M := by simp [outL]
theorem layF_out : ∀ (f : Fo) (l : List Sp) (no : Nat), (layF l no f).length = l.length + f.cnt + outL (flatF f)
  | .nil, l, no => by simp [layF, Fo.cnt, flatF, outL]
  | .cons _ ts bl s r, l, no => by
    rw [layF, layF_out r, blobL_out, layF_out s, tagsL_out, wth_len, Fo.cnt, flatF, outL_cons, outL_app]
    dsimp only
    omega
theorem outL_bd : ∀ (L : List Di), (∀ d ∈ L, d.ts.length ≤ 60) → outL L ≤ 61 * L.length
  | [], _ => by simp [outL]
  | d :: L, h => by
    rw [outL_cons]
    have h1 := outL_bd L fun x hx => h x (List.mem_cons_of_mem _ hx)
    have h2 := h d (List.mem_cons_self)
    have h3 : outT d.ts ≤ d.ts.length := List.length_filter_le _ _
    have h4 : outB d.bl ≤ 1 := by unfold outB; split <;> omega
    rw [List.length_cons]; omega
theorem outL_take {L : List Di} {i : Nat} (h : i < L.length) : outL (L.take (i + 1)) = outL (L.take i) + (outB L[i].bl + outT L[i].ts) := by
  rw [List.take_succ_eq_append_getElem h, outL_app, outL_cons]
  simp [outL]
theorem outT_take {ts : List Tg} {k : Nat} (h : k < ts.length) : outT (ts.take (k + 1)) = outT (ts.take k) + (if 0 < ouE ts[k].t ts[k].c then 1 else 0) := by
  unfold outT
  rw [List.take_succ_eq_append_getElem h, List.filter_append, List.length_append]
  split <;> simp_all
def mayS (d : Di) : Bool := decide (0 < entN d.ts d.bl d.sub) && d.ts.all fun t => mayV t.t t.c t.d
theorem mayF_S : ∀ (f : Fo), smF f → mayF f = (flatF f).all mayS := fun f h => by
  rw [mayF_flat]
  have : ∀ d ∈ flatF f, mayD d.ts d.bl d.sub = mayS d := fun d hd => by
    obtain ⟨a1, _, a3, _⟩ := smF_flat f h d hd
    have := entN_bd (bl := d.bl) a1 a3
    unfold mayD mayS
    rw [decide_eq_true (show entN d.ts d.bl d.sub ≤ 65535 by omega), Bool.true_and]
    rfl
  rw [Bool.eq_iff_iff, List.all_eq_true, List.all_eq_true]
  exact ⟨fun h x hx => by rw [← this x hx]; exact h x hx, fun h x hx => by rw [this x hx]; exact h x hx⟩
theorem all_take {α : Type} {P : α → Bool} {l : List α} {i : Nat} (h : i < l.length) : (l.take (i + 1)).all P = ((l.take i).all P && P l[i]) := by
  rw [List.take_succ_eq_append_getElem h, List.all_append]
  simp
theorem sideL_end {L : List Di} : ∀ {r : List Sp} {p : Sp} {e e' : Nat}, sideL L p e r e' → p.a + p.l ≤ endL (p :: r)
  | [], p, e, e', _ => Int.le_refl _
  | s :: r, p, e, e', h => by
    obtain ⟨_, h1, _, h2, _⟩ := h.1
    have := sideL_end h.2
    have e1 : endL (p :: s :: r) = endL (s :: r) := by unfold endL; rw [List.getLast?_cons_cons]
    rw [e1]; omega
theorem endL_two (p s : Sp) (r : List Sp) : endL (p :: s :: r) = endL (s :: r) := by unfold endL; rw [List.getLast?_cons_cons]
theorem lay_side {f : Fo} : ∃ r, layF headL 0 f = hS :: r ∧ sideL (flatF f) hS 0 r f.cnt := by
  have h0 : Sd (flatF f) headL 0 := ⟨[], rfl, rfl⟩
  have := Sd.lay f 0 [] (by simp) h0
  rw [Nat.zero_add] at this
  exact this
set_option maxRecDepth 100000 in
set_option maxHeartbeats 16000000 in
theorem side_any (cs0 : Array Value) (w : World) (sz0 : cs0.size = 2) (ft0 : TiffOk w cs0) :
    Calls Try.prog 5 #[.agg cs0] w fun e w' => e = .returned (.bool true) ∧ Below w.heap.size w w' := by
  obtain ⟨o, Ad, cd, f, rfl, hf, hN⟩ := ft0
  have hb0 := ba (brefl w) (.cells (trow o Ad f.len cd) 24)
  have R1 := Lib.hid (heap_alloc_new w (.cells (trow o Ad f.len cd) 24))
  have HB := Lib.hid hb0
  have HF := Lib.hid (FoK.keep hf hb0)
  have HU := Lib.hid (fun (W : World) (h : FoK W Ad f) => huge_any o Ad cd f W h hN)
  clear hb0 hf sz0
  generalize hsub : f.len = NS at *
  have HSUB := Lib.hid hsub
  clear hsub
  go_enter Try.func5, Try.ntmps5
  go_wp2_with ((with_reducible refine wpl_load_row rtTf ?_ (.tmp 1) ?_ (w.heap.size) ?_ 24 (trow o Ad NS cd) ?_ R1.out ?_); rfl; rfl; rfl; rfl; simp only [Act.put, List.setIfInBounds_toArray, List.set_cons_succ, List.set_cons_zero])
  generalize w.alloc (.cells (trow o Ad NS cd) 24) = w1 at *
  refine (HU.out _ HF.out).mono ?_
  clear HU
  cases hh : hugeF f with
  | true =>
    clear hh
    rintro e w2 ⟨rfl, hb⟩
    replace R1 := Lib.hid ((hb.block _ (row_lt R1.out)).trans R1.out)
    replace HF := Lib.hid (HF.out.keep hb)
    replace HB := Lib.hid (HB.out.trans (hb.mono HB.out.size))
    clear hb
    go_wp2_with fail
    refine (awake_any _).mono ?_
    rintro e v1 ⟨rfl, hb⟩
    replace R1 := Lib.hid ((hb.block _ (row_lt R1.out)).trans R1.out)
    replace HF := Lib.hid (HF.out.keep hb)
    replace HB := Lib.hid (HB.out.trans (hb.mono HB.out.size))
    clear hb
    go_wp2_with fail
    go_ret
    exact ⟨rfl, HB.out⟩
  | false =>
  obtain ⟨hsm, hcnt, hlen⟩ := hugeF_no hh
  have HSM := Lib.hid hsm
  clear hh
  rintro e w2 ⟨rfl, hb⟩
  replace R1 := Lib.hid ((hb.block _ (row_lt R1.out)).trans R1.out)
  replace HF := Lib.hid (HF.out.keep hb)
  replace HB := Lib.hid (HB.out.trans (hb.mono HB.out.size))
  clear hb
  have HFL := Lib.hid (show (flatF f).length = f.cnt from flatF_len f)
  have HSF := Lib.hid (fun i (h : i < (flatF f).length) => smF_flat f hsm _ (List.getElem_mem h))
  have HMS := Lib.hid (mayF_S f hsm)
  have HRD := Lib.hid (fun (W : World) (h : FoK W Ad f) => rdirs_any W.heap.size o Ad cd f W h (Nat.le_refl _) (by omega))
  rw [HSUB.out] at HRD
  go_wp2_with ((with_reducible refine wpl_load_row rtTf ?_ (.tmp 1) ?_ (w.heap.size) ?_ 24 (trow o Ad NS cd) ?_ R1.out ?_); rfl; rfl; rfl; rfl; simp only [Act.put, List.setIfInBounds_toArray, List.set_cons_succ, List.set_cons_zero])
  refine (HRD.out _ HF.out).mono ?_
  clear HRD
  rintro e w3 ⟨A3, c3, xs3, rfl, ho3, hv3, hb⟩
  have hds : DsK w3 A3 (flatF f) := ⟨xs3, ho3.sl'.2.1, hv3.mono fun b _ h => Nat.lt_of_lt_of_le h hb.size⟩
  replace R1 := Lib.hid ((hb.block _ (row_lt R1.out)).trans R1.out)
  replace HF := Lib.hid (HF.out.keep hb)
  replace HB := Lib.hid (HB.out.trans (hb.mono HB.out.size))
  have HDS := Lib.hid hds
  clear hb ho3 hv3 hds
  generalize hcn : f.cnt = CN at *
  have HCN := Lib.hid hcn
  clear hcn
  generalize hLL : flatF f = L at *
  have HLL := Lib.hid hLL
  clear hLL
  go_wp2_with fail
  obtain ⟨q0, hq0⟩ : ∃ q0, q0 = w3 := ⟨_, rfl⟩
  rw [← hq0] at R1 HF HDS HB ⊢
  clear hq0
  go_loopw [4, 5, 6] (fun s4 s5 s6 wr => ∃ (i : Nat), i ≤ CN ∧ s6 = .int .i64 (i : Int) ∧ s4 = .bool ((L.take i).all mayS) ∧ s5 = .int .i64 (outL (L.take i) : Int) ∧ Below q0.heap.size q0 wr) (fun _ _ s6 _ => CN - (intOf s6).toNat)
  case atStart => exact ⟨0, by omega, rfl, rfl, rfl, Below.refl _ _⟩
  case round =>
    obtain ⟨i, hi, rfl, rfl, rfl, hbj⟩ := hrel
    have HBJ := Lib.hid hbj
    clear hbj
    by_cases hin : i < CN
    case neg =>
      obtain rfl : i = CN := by omega
      rw [show L.take i = L from List.take_of_length_le (by rw [HFL.out]; exact Nat.le_refl _), ← HMS.out]
      replace R1 := Lib.hid ((HBJ.out.block _ (row_lt R1.out)).trans R1.out)
      replace HF := Lib.hid (HF.out.keep HBJ.out)
      replace HDS := Lib.hid (HDS.out.keep HBJ.out)
      replace HB := Lib.hid (HB.out.trans (HBJ.out.mono HB.out.size))
      have hob := outL_bd L (fun d hd => by obtain ⟨j, hj, rfl⟩ := List.getElem_of_mem hd; exact (HSF.out j hj).1)
      rw [HFL.out] at hob
      generalize hno : outL L = NO at *
      have HNO := Lib.hid hno
      clear hno HBJ hin
      have HLF := Lib.hid (fun (W : World) (h : FoK W Ad f) => lof_any o Ad cd f W h HSM.out (by rw [HCN.out]; omega))
      have HLG := Lib.hid (fun (W : World) (h : FoK W Ad f) => llong_any o Ad cd f W h HSM.out (by rw [HCN.out]; omega))
      have HOK := Lib.hid (okF_may (f := f) HSM.out (by rw [HCN.out]; omega))
      rw [HSUB.out] at HLF HLG
      cases hm : mayF f with
      | false =>
        have hk : okF f = false := by rw [HOK.out, hm]
        have h0 : ofF f = [] := by unfold ofF; rw [hk]; rfl
        have HKF := Lib.hid (And.intro hk h0)
        clear hm hk h0
        go_wp2_with ((with_reducible refine wpl_load_row rtTf ?_ (.tmp 1) ?_ (w.heap.size) ?_ 24 (trow o Ad NS cd) ?_ R1.out ?_); rfl; rfl; rfl; rfl; simp only [Act.put, List.setIfInBounds_toArray, List.set_cons_succ, List.set_cons_zero])
        refine (HLF.out _ HF.out).mono ?_
        rintro e v5 ⟨A9, c9, rfl, _, hb⟩
        rw [HKF.out.1, HKF.out.2]
        replace R1 := Lib.hid ((hb.block _ (row_lt R1.out)).trans R1.out)
        replace HF := Lib.hid (HF.out.keep hb)
        replace HDS := Lib.hid (HDS.out.keep hb)
        replace HB := Lib.hid (HB.out.trans (hb.mono HB.out.size))
        clear hb
        go_wp2_with fail
        refine (awake_any _).mono ?_
        rintro e e1 ⟨rfl, hb⟩
        replace R1 := Lib.hid ((hb.block _ (row_lt R1.out)).trans R1.out)
        replace HF := Lib.hid (HF.out.keep hb)
        replace HDS := Lib.hid (HDS.out.keep hb)
        replace HB := Lib.hid (HB.out.trans (hb.mono HB.out.size))
        clear hb
        go_wp2_with fail
        go_ret
        exact ⟨rfl, HB.out⟩
      | true =>
        obtain ⟨r, hr, hsd⟩ := lay_side (f := f)
        have hk : okF f = true := by rw [HOK.out, hm]
        have h0 : ofF f = hS :: r := by unfold ofF; rw [hk, if_pos rfl]; exact hr
        have hn0 : (hS :: r).length = 1 + i + NO := by rw [← hr, layF_out, HLL.out, HNO.out, HCN.out]; rfl
        have hEb := (layF_bd2 f headL 0 HSM.out hm).2
        rw [hr, HCN.out, show endL headL = 8 from rfl] at hEb
        rw [HLL.out, HCN.out] at hsd
        have HLO := Lib.hid (show longF f = endL (hS :: r) by unfold longF; rw [h0])
        have HKF := Lib.hid (And.intro hk h0)
        have HSD := Lib.hid hsd
        clear hm hk h0 hsd hr
        generalize hn : (hS :: r).length = n at *
        have HN := Lib.hid hn
        generalize hE : endL (hS :: r) = EE at *
        have HEE := Lib.hid hE
        clear hn hE
        go_wp2_with ((with_reducible refine wpl_load_row rtTf ?_ (.tmp 1) ?_ (w.heap.size) ?_ 24 (trow o Ad NS cd) ?_ R1.out ?_); rfl; rfl; rfl; rfl; simp only [Act.put, List.setIfInBounds_toArray, List.set_cons_succ, List.set_cons_zero])
        refine (HLF.out _ HF.out).mono ?_
        clear HLF
        rintro e v5 ⟨A9, c9, rfl, ho9, hb⟩
        rw [HKF.out.1, HKF.out.2]
        rw [HKF.out.2] at ho9
        have hs9 := ho9.sl'.2.1
        replace R1 := Lib.hid ((hb.block _ (row_lt R1.out)).trans R1.out)
        replace HF := Lib.hid (HF.out.keep hb)
        replace HDS := Lib.hid (HDS.out.keep hb)
        replace HB := Lib.hid (HB.out.trans (hb.mono HB.out.size))
        clear hb ho9
        rw [HN.out]
        obtain ⟨b9, off9, rfl, hb9, hc9⟩ := SpS.at_ hs9 (by rw [HN.out]; omega)
        have HC9 := Lib.hid hc9
        have HR0 := Lib.hid (show v5.rangeAt b9 off9 [.int .i64 1, .int .i64 (-1), .int .i64 0, .int .i64 0, .int .i64 8] by have := hc9 0 (by rw [HN.out]; omega); rw [Nat.zero_mul, Nat.add_zero] at this; exact this)
        clear hc9 hs9
        have n1 : ((n : Int) == 1 + (i : Int) + (NO : Int)) = true := by rw [beq_iff_eq]; omega
        have n2 : ((n : Int) != 1 + (i : Int) + (NO : Int)) = false := by rw [bne_eq_false_iff_eq]; omega
        have hnb : n ≤ 3000 := by omega
        have hn1 : 1 ≤ n := by omega
        clear hn0
        go_wp2_with (first | ((with_reducible refine wpl_load_row rtTf ?_ (.tmp 1) ?_ (w.heap.size) ?_ 24 (trow o Ad NS cd) ?_ R1.out ?_); rfl; rfl; rfl; rfl; simp only [Act.put, List.setIfInBounds_toArray, List.set_cons_succ, List.set_cons_zero]) | ((with_reducible refine wpl_loadv rtSp ?_ (.tmp 111) ?_ b9 off9 ?_ [.int .i64 1, .int .i64 (-1), .int .i64 0, .int .i64 0, .int .i64 8] ?_ HR0.out ?_); rfl; rfl; rfl; rfl; simp only [Act.put, List.setIfInBounds_toArray, List.set_cons_succ, List.set_cons_zero]) | ((with_reducible refine wpl_neq spotE ?_ (.tmp 112) (.tmp 113) 53 ?_ ?_ ?_ (spot_q 1 (-1) 0 0 8) ?_); rfl; rfl; rfl; rfl; simp only [Act.put, List.setIfInBounds_toArray, List.set_cons_succ, List.set_cons_zero]))
        clear n1 n2 HR0
        obtain ⟨q1, hq1⟩ : ∃ q1, q1 = v5 := ⟨_, rfl⟩
        rw [← hq1] at R1 HF HDS HB HC9 hb9 ⊢
        clear hq1
        simp only [Bool.not_true]
        go_loopw [11, 12] (fun s11 s12 wr => ∃ (k ek : Nat), k ≤ r.length ∧ s12 = .int .i64 ((k + 1 : Nat) : Int) ∧ s11 = .int .i64 (ek : Int) ∧ ek ≤ k ∧ sideL L ((hS :: r).getD k hS) ek (r.drop k) i ∧ endL ((hS :: r).getD k hS :: r.drop k) = EE ∧ 0 ≤ ((hS :: r).getD k hS).a ∧ 0 ≤ ((hS :: r).getD k hS).l ∧ Below q1.heap.size q1 wr) (fun _ s12 _ => n - (intOf s12).toNat)
        case atStart => exact ⟨0, 0, Nat.zero_le _, rfl, rfl, Nat.le_refl _, HSD.out, HEE.out, by show (0 : Int) ≤ 0; decide, by show (0 : Int) ≤ 8; decide, Below.refl _ _⟩
        case round =>
          obtain ⟨k, ek, hk, rfl, rfl, hek, hsk, hEk, hpa, hpl, hbk⟩ := hrel
          have HBK := Lib.hid hbk
          have hse := sideL_end hsk
          rw [hEk] at hse
          have hrl : r.length + 1 = n := HN.out
          have hkl : k < (hS :: r).length := by rw [HN.out]; omega
          have hgd : (hS :: r).getD k hS = (hS :: r)[k] := by rw [List.getD_eq_getElem?_getD, List.getElem?_eq_getElem hkl]; rfl
          have hr0 := HC9.out k hkl
          have HBQ := Lib.hid (HB.out.trans (hbk.mono HB.out.size))
          clear hbk
          have KR1 := Lib.hid ((HBK.out.block _ (row_lt R1.out)).trans R1.out)
          have KHDS := Lib.hid (HDS.out.keep HBK.out)
          have KHF := Lib.hid (HF.out.keep HBK.out)
          by_cases hkr : k < r.length
          case neg =>
            obtain rfl : k = r.length := by omega
            rw [List.drop_eq_nil_of_le (Nat.le_refl _)] at hsk hEk
            have hek2 : i = ek := hsk
            subst hek2
            rw [hgd] at hEk hpa hpl hse
            generalize (hS :: r)[r.length] = p at *
            obtain ⟨pw, pi, pt, pa, pl⟩ := p
            dsimp only at hpa hpl hse
            have hEE : pa + pl = EE := hEk
            generalize hK : r.length = K at *
            obtain rfl : n = K + 1 := by omega
            have HRP := Lib.hid (show RgK wr b9 (off9 + K * 5) [.int .i64 pw, .int .i64 pi, .int .i64 pt, .int .i64 pa, .int .i64 pl] from ⟨Nat.lt_of_lt_of_le hb9 HBK.out.size, rng_below HBK.out hb9 hr0⟩)
            have HLP := Lib.hid (show longF f = pa + pl by rw [HLO.out, hEE])
            clear hr0 hsk hEk hgd hK hEE HEE HLO
            go_wp2_with fail
            have LTP := HRP.out.1
            have LT_KR1 : _ < wr.heap.size := row_lt KR1.out
            have SZ : wr.heap.size ≤ wr.drew.heap.size := Nat.le_refl _
            have hb := ud' (brefl wr)
            replace KR1 := Lib.hid ((hb.block _ (row_lt KR1.out)).trans KR1.out)
            replace KHF := Lib.hid (KHF.out.keep hb)
            replace HRP := Lib.hid (HRP.out.keep hb)
            replace HBQ := Lib.hid (HBQ.out.trans (hb.mono HBQ.out.size))
            clear hb
            refine Tin.reg_begin (wr.heap.size) 28 (by rfl) (by kernel_rfl) ?_
            have q6 : ∀ p : Bel (wr.heap.size) wr.drew, p.w'.cell? ⟨b9, off9 + K * 5 + 3, none⟩ = some (.int .i64 pa) := fun p => (rng_below p.h LTP HRP.out.2) 3 _ rfl
            have q7 : ∀ p : Bel (wr.heap.size) wr.drew, p.w'.cell? ⟨b9, off9 + K * 5 + 4, none⟩ = some (.int .i64 pl) := fun p => (rng_below p.h LTP HRP.out.2) 4 _ rfl
            refine Tin.reg_quiets [0, 1, 2, 3, 4, 5, 7, 8, 9, 10, 11, 12, 13, 14, 15, 16, 17, 18, 19, 20, 21] _ 7 rfl (by simp only [Tin.pick, List.map_cons, List.map_nil, Array.getD_eq_getD_getElem?, List.getElem?_toArray, List.getElem?_cons_zero, List.getElem?_cons_succ, Option.getD_some]; rfl) (by kernel_rfl) (by kernel_rfl) ?_
            repeat (first | ((with_reducible refine wpq_load_row rtTf ?_ (.tmp 1) ?_ (w.heap.size) ?_ 24 (trow o Ad NS cd) ?_ (fun W h => by obtain ⟨p, rfl⟩ := h; exact (p.h.block _ LT_KR1).trans KR1.out) ?_); rfl; rfl; rfl; rfl; simp only [Act.put, List.setIfInBounds_toArray, List.set_cons_succ, List.set_cons_zero]) | go_big_quiet_step (fail))
            refine wpQuiet_nil ?_
            clear q6 q7
            refine Tin.reg_one 6 _ rfl (by kernel_rfl) ?_
            try simp only [List.getElem_toArray, List.getElem_cons_succ, List.getElem_cons_zero]
            go_wp2_with fail
            refine (HLG.out _ KHF.out).mono ?_
            rintro e a1 ⟨rfl, hv⟩
            rw [HLP.out]
            go_wp2_with fail
            refine ⟨wr.heap.size, hv.mono SZ, Nat.le_refl _, ?_⟩
            replace KR1 := Lib.hid ((hv.block _ (row_lt KR1.out)).trans KR1.out)
            replace KHF := Lib.hid (KHF.out.keep hv)
            replace HRP := Lib.hid (HRP.out.keep hv)
            replace HBQ := Lib.hid (HBQ.out.trans (hv.mono HBQ.out.size))
            replace SZ := Nat.le_trans SZ hv.size
            clear hv
            have ee : (pa + pl == pa + pl) = true := by rw [beq_iff_eq]
            refine Tin.reg_quiets [22, 23, 24] _ 3 rfl (by simp only [Tin.pick, List.map_cons, List.map_nil, Array.getD_eq_getD_getElem?, List.getElem?_toArray, List.getElem?_cons_zero, List.getElem?_cons_succ, Option.getD_some]; rfl) (by kernel_rfl) (by kernel_rfl) ?_
            repeat (first | go_big_quiet_step (fail))
            refine wpQuiet_nil ?_
            clear ee
            refine Tin.reg_one 25 _ rfl (by kernel_rfl) ?_
            try simp only [List.getElem_toArray, List.getElem_cons_succ, List.getElem_cons_zero]
            go_wp2_with fail
            refine (awake_any _).mono ?_
            rintro e a2 ⟨rfl, hv⟩
            go_wp2_with fail
            refine ⟨wr.heap.size, hv.mono SZ, Nat.le_refl _, ?_⟩
            replace KR1 := Lib.hid ((hv.block _ (row_lt KR1.out)).trans KR1.out)
            replace KHF := Lib.hid (KHF.out.keep hv)
            replace HRP := Lib.hid (HRP.out.keep hv)
            replace HBQ := Lib.hid (HBQ.out.trans (hv.mono HBQ.out.size))
            replace SZ := Nat.le_trans SZ hv.size
            clear hv
            refine Tin.reg_quiets [26, 27] _ 0 rfl (by simp only [Tin.pick, List.map_cons, List.map_nil, Array.getD_eq_getD_getElem?, List.getElem?_toArray, List.getElem?_cons_zero, List.getElem?_cons_succ, Option.getD_some]; rfl) (by kernel_rfl) (by kernel_rfl) ?_
            repeat (first | go_big_quiet_step (fail))
            refine wpQuiet_nil ?_
            refine Tin.reg_done (by kernel_rfl) ?_
            go_wp2_with fail
            go_ret
            exact ⟨rfl, HBQ.out⟩
          have hdr := List.drop_eq_getElem_cons hkr
          rw [hdr] at hsk hEk
          have hc := hsk.1
          have hs2 := hsk.2
          rw [endL_two] at hEk
          have hkl1 : k + 1 < (hS :: r).length := by rw [HN.out]; omega
          have hr1 := HC9.out (k + 1) hkl1
          have hgd1 : (hS :: r).getD (k + 1) hS = r[k] := by rw [List.getD_eq_getElem?_getD, List.getElem?_cons_succ, List.getElem?_eq_getElem hkr]; rfl
          have hg2 : (hS :: r)[k + 1] = r[k] := rfl
          rw [hg2] at hr1
          rw [hgd] at hc hpa hpl hse
          have HS2 := Lib.hid (And.intro hs2 (And.intro hEk hgd1))
          clear hsk hs2 hEk hgd hgd1 hg2 hdr
          generalize (hS :: r)[k] = p at *
          generalize r[k] = s at *
          obtain ⟨pw, pi, pt, pa, pl⟩ := p
          obtain ⟨sw, si, st, sa, sl⟩ := s
          obtain ⟨c1, c2, c3, c4, c5, c6, c7, c8⟩ := hc
          dsimp only at hpa hpl hse c1 c2 c3 c4 c5 c6 c7 c8
          obtain ⟨j, hj⟩ : ∃ j : Nat, si = (j : Int) := ⟨si.toNat, by omega⟩
          subst hj
          have hjt : ((j : Int)).toNat = j := rfl
          simp only [hjt] at c6 c7 c8
          have hjL : j < i := by have := HFL.out; omega
          have HS3 := Lib.hid (sideL_end HS2.out.1)
          rw [HS2.out.2.1] at HS3
          have hse2 : sa + sl ≤ EE := HS3.out
          clear HS3
          obtain ⟨bd, offd, rfl, hbd, hcd⟩ := DsK.at_ KHDS.out (by omega)
          obtain ⟨At, ct, As, cs, Ab, cb, hrd, hdi⟩ := hcd j c6
          have hsm := HSF.out j c6
          have hentb := entN_bd (bl := L[j].bl) hsm.1 hsm.2.2.1
          have HENT := Lib.hid (entV_N L[j].ts L[j].bl L[j].sub)
          have hl1 := hsm.1
          have hl2 := hsm.2.1
          have hl3 := hsm.2.2.1
          clear hcd hdi hsm
          generalize L[j] = d at *
          generalize entN d.ts d.bl d.sub = EN at *
          generalize d.ts.length = NT at *
          generalize d.sub.len = NU at *
          generalize d.bl.length = NB at *
          have HRP := Lib.hid (show RgK wr b9 (off9 + k * 5) [.int .i64 pw, .int .i64 pi, .int .i64 pt, .int .i64 pa, .int .i64 pl] from ⟨Nat.lt_of_lt_of_le hb9 HBK.out.size, rng_below HBK.out hb9 hr0⟩)
          have HRS := Lib.hid (show RgK wr b9 (off9 + (k + 1) * 5) [.int .i64 sw, .int .i64 (j : Int), .int .i64 st, .int .i64 sa, .int .i64 sl] from ⟨Nat.lt_of_lt_of_le hb9 HBK.out.size, rng_below HBK.out hb9 hr1⟩)
          have HRD := Lib.hid (show RgK wr bd (offd + j * 3) [.slice At NT ct, .slice As NU cs, .slice Ab NB cb] from ⟨hbd, hrd⟩)
          clear hr0 hr1 hrd
          go_wp2_with fail
          have LTP := HRP.out.1
          have SZ : wr.heap.size ≤ wr.drew.heap.size := Nat.le_refl _
          have hb := ud' (brefl wr)
          replace HRP := Lib.hid (HRP.out.keep hb)
          replace HRS := Lib.hid (HRS.out.keep hb)
          replace HRD := Lib.hid (HRD.out.keep hb)
          replace HBK := Lib.hid (HBK.out.trans (hb.mono HBK.out.size))
          clear hb
          refine Tin.reg_begin (wr.heap.size) 20 (by rfl) (by kernel_rfl) ?_
          generalize wr.drew = u0 at *
          have q6 : ∀ p : Bel (wr.heap.size) u0, p.w'.cell? ⟨b9, off9 + k * 5 + 3, none⟩ = some (.int .i64 pa) := fun p => (rng_below p.h LTP HRP.out.2) 3 _ rfl
          have q7 : ∀ p : Bel (wr.heap.size) u0, p.w'.cell? ⟨b9, off9 + k * 5 + 4, none⟩ = some (.int .i64 pl) := fun p => (rng_below p.h LTP HRP.out.2) 4 _ rfl
          refine Tin.reg_quiets [0, 1, 2, 3, 4, 5, 6, 7, 8, 9, 10, 11, 12, 13, 14, 15, 16] _ 3 rfl (by simp only [Tin.pick, List.map_cons, List.map_nil, Array.getD_eq_getD_getElem?, List.getElem?_toArray, List.getElem?_cons_zero, List.getElem?_cons_succ, Option.getD_some]; rfl) (by kernel_rfl) (by kernel_rfl) ?_
          repeat (first | ((with_reducible refine wpq_loadv rtSp ?_ (.tmp 124) ?_ b9 (off9 + (k + 1) * 5) ?_ [.int .i64 sw, .int .i64 (j : Int), .int .i64 st, .int .i64 sa, .int .i64 sl] ?_ (fun W h => by obtain ⟨p, rfl⟩ := h; exact rng_below p.h LTP HRS.out.rng) ?_); rfl; rfl; rfl; rfl; simp only [Act.put, List.setIfInBounds_toArray, List.set_cons_succ, List.set_cons_zero]) | go_big_quiet_step (fail))
          refine wpQuiet_nil ?_
          clear q6 q7
          refine Tin.reg_one 17 _ rfl (by kernel_rfl) ?_
          try simp only [List.getElem_toArray, List.getElem_cons_succ, List.getElem_cons_zero]
          go_wp2_with fail
          refine ⟨wr.heap.size, (ba (brefl u0) (.cells #[.int .i64 0, .int .i64 0, .int .i64 0, .int .i64 0, .int .i64 0] 53)).mono SZ, Nat.le_refl _, ?_⟩
          refine Tin.reg_one 18 _ rfl (by kernel_rfl) ?_
          try simp only [List.getElem_toArray, List.getElem_cons_succ, List.getElem_cons_zero]
          go_wp2_with fail
          have hv := ba (brefl u0) (.cells #[.int .i64 sw, .int .i64 (j : Int), .int .i64 st, .int .i64 sa, .int .i64 sl] 53)
          refine ⟨wr.heap.size, ⟨rfl, rfl, rfl, by simp, fun i hi => (heap_alloc_old u0 _ (Nat.lt_of_lt_of_le hi SZ)).trans (heap_alloc_old u0 _ (Nat.lt_of_lt_of_le hi SZ)).symm⟩, Nat.le_refl _, ?_⟩
          refine Tin.reg_quiets [19] _ 0 rfl (by simp only [Tin.pick, List.map_cons, List.map_nil, Array.getD_eq_getD_getElem?, List.getElem?_toArray, List.getElem?_cons_zero, List.getElem?_cons_succ, Option.getD_some]; rfl) (by kernel_rfl) (by kernel_rfl) ?_
          repeat (first | go_big_quiet_step (fail))
          refine wpQuiet_nil ?_
          have R13 := Lib.hid (heap_alloc_new u0 (.cells #[.int .i64 sw, .int .i64 (j : Int), .int .i64 st, .int .i64 sa, .int .i64 sl] 53))
          replace HRP := Lib.hid (HRP.out.keep hv)
          replace HRS := Lib.hid (HRS.out.keep hv)
          replace HRD := Lib.hid (HRD.out.keep hv)
          replace HBK := Lib.hid (HBK.out.trans (hv.mono HBK.out.size))
          clear hv
          generalize u0.alloc (.cells #[.int .i64 sw, .int .i64 (j : Int), .int .i64 st, .int .i64 sa, .int .i64 sl] 53) = y1 at *
          generalize u0.heap.size = g13 at *
          clear SZ
          refine Tin.reg_done (by kernel_rfl) ?_
          clear LTP HRP
          by_cases h2 : sw = 2
          · obtain ⟨e1, e2⟩ := c7 h2
            obtain rfl : j = ek := by omega
            subst e2 h2
            have a1 : Int.tmod sa 2 = 0 := by rw [Int.tmod_eq_emod_of_nonneg (by omega)]; exact c1
            have d2 : decide (sa < pa + pl) = false := decide_eq_false (by omega)
            have d3 : decide (pa + pl + 1 < sa) = false := decide_eq_false (by omega)
            have d4 : decide ((6 + 12 * (EN : Int)) < 1) = false := decide_eq_false (by omega)
            have d5 : decide ((i : Int) ≤ (j : Int)) = false := decide_eq_false (by omega)
            have HFIN := Lib.hid (show sideL L ((hS :: r).getD (k + 1) hS) (j + 1) (r.drop (k + 1)) i ∧ endL ((hS :: r).getD (k + 1) hS :: r.drop (k + 1)) = EE ∧ 0 ≤ ((hS :: r).getD (k + 1) hS).a ∧ 0 ≤ ((hS :: r).getD (k + 1) hS).l by
              rw [HS2.out.2.2]
              have := HS2.out.1
              unfold nx at this
              rw [if_pos rfl] at this
              exact ⟨this, HS2.out.2.1, by show 0 ≤ sa; omega, by show (0 : Int) ≤ (6 + 12 * (EN : Int)); omega⟩)
            have hwf : -9223372036854775808 ≤ pa + pl + 1 ∧ pa + pl + 1 ≤ 9223372036854775807 := by omega
            clear c1 c2 c3 c4 c5 c7 c8 HS2 hse2
            have hba := ba (brefl y1) (.cells #[.slice At NT ct, .slice As NU cs, .slice Ab NB cb] 42)
            have R15 := Lib.hid (heap_alloc_new y1 (.cells #[.slice At NT ct, .slice As NU cs, .slice Ab NB cb] 42))
            have r13 := (hba.block _ (row_lt R13.out)).trans R13.out
            have k0 := row_cell (v := .int .i64 2) R13.out 0 rfl
            have kk0 := row_cell (v := .int .i64 2) r13 0 rfl
            have k1 := row_cell (v := .int .i64 (j : Int)) R13.out 1 rfl
            have kk1 := row_cell (v := .int .i64 (j : Int)) r13 1 rfl
            have k3 := row_cell (v := .int .i64 sa) R13.out 3 rfl
            have kk3 := row_cell (v := .int .i64 sa) r13 3 rfl
            have k4 := row_cell (v := .int .i64 (6 + 12 * (EN : Int))) R13.out 4 rfl
            have kk4 := row_cell (v := .int .i64 (6 + 12 * (EN : Int))) r13 4 rfl
            have k15 := row_cell (v := .slice Ab NB cb) R15.out 2 rfl
            have HBA := Lib.hid (HBK.out.trans (hba.mono HBK.out.size))
            have HR13 := Lib.hid r13
            clear r13 hba
            go_wp2_with ((with_reducible refine wpl_loadv rtDi ?_ (.tmp 176) ?_ bd (offd + j * 3) ?_ [.slice At NT ct, .slice As NU cs, .slice Ab NB cb] ?_ HRD.out.rng ?_); rfl; rfl; rfl; rfl; simp only [Act.put, List.setIfInBounds_toArray, List.set_cons_succ, List.set_cons_zero])
            clear k0 kk0 k1 kk1 k3 kk3 k4 kk4 k15 a1 d2 d3 d4 d5 R13 HBK HRS HRD
            generalize y1.alloc (.cells #[.slice At NT ct, .slice As NU cs, .slice Ab NB cb] 42) = y2 at *
            generalize y1.heap.size = g15 at *
            have LT_HR13 : _ < y2.heap.size := row_lt HR13.out
            have LT_R15 : _ < y2.heap.size := row_lt R15.out
            have SZ : y2.heap.size ≤ y2.drew.heap.size := Nat.le_refl _
            have hb := ud' (brefl y2)
            replace HR13 := Lib.hid ((hb.block _ (row_lt HR13.out)).trans HR13.out)
            replace R15 := Lib.hid ((hb.block _ (row_lt R15.out)).trans R15.out)
            replace HBA := Lib.hid (HBA.out.trans (hb.mono HBA.out.size))
            clear hb
            refine Tin.reg_begin (y2.heap.size) 13 (by rfl) (by kernel_rfl) ?_
            have k1 : ∀ p : Bel (y2.heap.size) y2.drew, p.w'.cell? ⟨g13, 1, none⟩ = some (.int .i64 (j : Int)) := fun p => row_cell ((p.h.block _ LT_HR13).trans HR13.out) 1 rfl
            have k4 : ∀ p : Bel (y2.heap.size) y2.drew, p.w'.cell? ⟨g13, 4, none⟩ = some (.int .i64 (6 + 12 * (EN : Int))) := fun p => row_cell ((p.h.block _ LT_HR13).trans HR13.out) 4 rfl
            refine Tin.reg_quiets [0, 1, 2, 3, 4, 5, 6, 7] _ 5 rfl (by simp only [Tin.pick, List.map_cons, List.map_nil, Array.getD_eq_getD_getElem?, List.getElem?_toArray, List.getElem?_cons_zero, List.getElem?_cons_succ, Option.getD_some]; rfl) (by kernel_rfl) (by kernel_rfl) ?_
            repeat (first | ((with_reducible refine wpq_load_row rtDi ?_ (.tmp 15) ?_ (g15) ?_ 42 (#[.slice At NT ct, .slice As NU cs, .slice Ab NB cb]) ?_ (fun W h => by obtain ⟨p, rfl⟩ := h; exact (p.h.block _ LT_R15).trans R15.out) ?_); rfl; rfl; rfl; rfl; simp only [Act.put, List.setIfInBounds_toArray, List.set_cons_succ, List.set_cons_zero]) | go_big_quiet_step (fail))
            refine wpQuiet_nil ?_
            clear k1 k4
            refine Tin.reg_one 8 _ rfl (by kernel_rfl) ?_
            try simp only [List.getElem_toArray, List.getElem_cons_succ, List.getElem_cons_zero]
            go_wp2_with fail
            refine (lent_any At As Ab NT ct NU cs NB cb _ (by omega) (by omega)).mono ?_
            rintro e k1 ⟨rfl, hv⟩
            rw [HENT.out]
            go_wp2_with fail
            refine ⟨y2.heap.size, hv.mono SZ, Nat.le_refl _, ?_⟩
            replace HR13 := Lib.hid ((hv.block _ (row_lt HR13.out)).trans HR13.out)
            replace R15 := Lib.hid ((hv.block _ (row_lt R15.out)).trans R15.out)
            replace HBA := Lib.hid (HBA.out.trans (hv.mono HBA.out.size))
            replace SZ := Nat.le_trans SZ hv.size
            clear hv
            refine Tin.reg_quiets [9, 10, 11, 12] _ 0 rfl (by simp only [Tin.pick, List.map_cons, List.map_nil, Array.getD_eq_getD_getElem?, List.getElem?_toArray, List.getElem?_cons_zero, List.getElem?_cons_succ, Option.getD_some]; rfl) (by kernel_rfl) (by kernel_rfl) ?_
            repeat (first | go_big_quiet_step (fail))
            refine wpQuiet_nil ?_
            refine Tin.reg_done (by kernel_rfl) ?_
            have k0 := row_cell (v := .int .i64 2) HR13.out 0 rfl
            go_wp2_with fail
            exact ⟨⟨k + 1, j + 1, by omega, rfl, rfl, by omega, HFIN.out.1, HFIN.out.2.1, HFIN.out.2.2.1, HFIN.out.2.2.2, HBA.out⟩, by simp only [intOf]; omega⟩
          by_cases h4 : sw = 4
          · have e2 := c8 h4
            subst e2 h4
            have a1 : Int.tmod sa 2 = 0 := by rw [Int.tmod_eq_emod_of_nonneg (by omega)]; exact c1
            have d2 : decide (sa < pa + pl) = false := decide_eq_false (by omega)
            have d3 : decide (pa + pl + 1 < sa) = false := decide_eq_false (by omega)
            have d4 : decide ((NB : Int) < 1) = false := decide_eq_false (by omega)
            have d5 : decide ((i : Int) ≤ (j : Int)) = false := decide_eq_false (by omega)
            have HFIN := Lib.hid (show sideL L ((hS :: r).getD (k + 1) hS) ek (r.drop (k + 1)) i ∧ endL ((hS :: r).getD (k + 1) hS :: r.drop (k + 1)) = EE ∧ 0 ≤ ((hS :: r).getD (k + 1) hS).a ∧ 0 ≤ ((hS :: r).getD (k + 1) hS).l by
              rw [HS2.out.2.2]
              have := HS2.out.1
              unfold nx at this
              rw [if_neg (show ¬ ((4 : Int) = 2) by decide)] at this
              exact ⟨this, HS2.out.2.1, by show 0 ≤ sa; omega, by show (0 : Int) ≤ (NB : Int); omega⟩)
            have hwf : -9223372036854775808 ≤ pa + pl + 1 ∧ pa + pl + 1 ≤ 9223372036854775807 := by omega
            clear c1 c2 c3 c4 c5 c7 c8 HS2 hse2
            have hba := ba (brefl y1) (.cells #[.slice At NT ct, .slice As NU cs, .slice Ab NB cb] 42)
            have R15 := Lib.hid (heap_alloc_new y1 (.cells #[.slice At NT ct, .slice As NU cs, .slice Ab NB cb] 42))
            have r13 := (hba.block _ (row_lt R13.out)).trans R13.out
            have k0 := row_cell (v := .int .i64 4) R13.out 0 rfl
            have kk0 := row_cell (v := .int .i64 4) r13 0 rfl
            have k1 := row_cell (v := .int .i64 (j : Int)) R13.out 1 rfl
            have kk1 := row_cell (v := .int .i64 (j : Int)) r13 1 rfl
            have k3 := row_cell (v := .int .i64 sa) R13.out 3 rfl
            have kk3 := row_cell (v := .int .i64 sa) r13 3 rfl
            have k4 := row_cell (v := .int .i64 (NB : Int)) R13.out 4 rfl
            have kk4 := row_cell (v := .int .i64 (NB : Int)) r13 4 rfl
            have k15 := row_cell (v := .slice Ab NB cb) R15.out 2 rfl
            have HBA := Lib.hid (HBK.out.trans (hba.mono HBK.out.size))
            have HR13 := Lib.hid r13
            clear r13 hba
            go_wp2_with ((with_reducible refine wpl_loadv rtDi ?_ (.tmp 176) ?_ bd (offd + j * 3) ?_ [.slice At NT ct, .slice As NU cs, .slice Ab NB cb] ?_ HRD.out.rng ?_); rfl; rfl; rfl; rfl; simp only [Act.put, List.setIfInBounds_toArray, List.set_cons_succ, List.set_cons_zero])
            exact ⟨⟨k + 1, ek, by omega, rfl, rfl, by omega, HFIN.out.1, HFIN.out.2.1, HFIN.out.2.2.1, HFIN.out.2.2.2, HBA.out⟩, by simp only [intOf]; omega⟩
          have a1 : Int.tmod sa 2 = 0 := by rw [Int.tmod_eq_emod_of_nonneg (by omega)]; exact c1
          have d2 : decide (sa < pa + pl) = false := decide_eq_false (by omega)
          have d3 : decide (pa + pl + 1 < sa) = false := decide_eq_false (by omega)
          have d4 : decide (sl < 1) = false := decide_eq_false (by omega)
          have d5 : decide ((i : Int) ≤ (j : Int)) = false := decide_eq_false (by omega)
          have b2 : (sw == 2) = false := by rw [beq_eq_false_iff_ne]; exact h2
          have b4 : (sw == 4) = false := by rw [beq_eq_false_iff_ne]; exact h4
          have HFIN := Lib.hid (show sideL L ((hS :: r).getD (k + 1) hS) ek (r.drop (k + 1)) i ∧ endL ((hS :: r).getD (k + 1) hS :: r.drop (k + 1)) = EE ∧ 0 ≤ ((hS :: r).getD (k + 1) hS).a ∧ 0 ≤ ((hS :: r).getD (k + 1) hS).l by
            rw [HS2.out.2.2]
            have := HS2.out.1
            unfold nx at this
            rw [if_neg h2] at this
            exact ⟨this, HS2.out.2.1, by show 0 ≤ sa; omega, by show (0 : Int) ≤ sl; omega⟩)
          have hwf : -9223372036854775808 ≤ pa + pl + 1 ∧ pa + pl + 1 ≤ 9223372036854775807 := by omega
          clear c1 c2 c3 c4 c5 c7 c8 HS2 hse2
          have hba := ba (brefl y1) (.cells #[.slice At NT ct, .slice As NU cs, .slice Ab NB cb] 42)
          have R15 := Lib.hid (heap_alloc_new y1 (.cells #[.slice At NT ct, .slice As NU cs, .slice Ab NB cb] 42))
          have r13 := (hba.block _ (row_lt R13.out)).trans R13.out
          have k0 := row_cell (v := .int .i64 sw) R13.out 0 rfl
          have kk0 := row_cell (v := .int .i64 sw) r13 0 rfl
          have k1 := row_cell (v := .int .i64 (j : Int)) R13.out 1 rfl
          have kk1 := row_cell (v := .int .i64 (j : Int)) r13 1 rfl
          have k3 := row_cell (v := .int .i64 sa) R13.out 3 rfl
          have kk3 := row_cell (v := .int .i64 sa) r13 3 rfl
          have k4 := row_cell (v := .int .i64 sl) R13.out 4 rfl
          have kk4 := row_cell (v := .int .i64 sl) r13 4 rfl
          have k15 := row_cell (v := .slice Ab NB cb) R15.out 2 rfl
          have HBA := Lib.hid (HBK.out.trans (hba.mono HBK.out.size))
          have HR13 := Lib.hid r13
          clear r13 hba
          go_wp2_with ((with_reducible refine wpl_loadv rtDi ?_ (.tmp 176) ?_ bd (offd + j * 3) ?_ [.slice At NT ct, .slice As NU cs, .slice Ab NB cb] ?_ HRD.out.rng ?_); rfl; rfl; rfl; rfl; simp only [Act.put, List.setIfInBounds_toArray, List.set_cons_succ, List.set_cons_zero])
          exact ⟨⟨k + 1, ek, by omega, rfl, rfl, by omega, HFIN.out.1, HFIN.out.2.1, HFIN.out.2.2.1, HFIN.out.2.2.2, HBA.out⟩, by simp only [intOf]; omega⟩
    have i1 : (i : Int) < (CN : Int) := by omega
    have hiL : i < L.length := by rw [HFL.out]; exact hin
    have hob := outL_bd (L.take i) (fun d hd => by obtain ⟨j, hj, rfl⟩ := List.getElem_of_mem (List.mem_of_mem_take hd); exact (HSF.out j hj).1)
    rw [List.length_take] at hob
    have hob2 : outL (L.take i) ≤ 61 * 40 := by have := Nat.min_le_left i L.length; omega
    clear hob
    obtain ⟨b, off, rfl, hbs, hc⟩ := DsK.at_ HDS.out (by omega)
    obtain ⟨At, ct, As, cs, Ab, cb, hr0, hdi⟩ := hc i hiL
    have HRG := Lib.hid (rng_below HBJ.out hbs hr0)
    have HDI := Lib.hid (show DiP wr (· < wr.heap.size) At As Ab L[i] from (hdi.bel HBJ.out).mono fun b _ h => Nat.lt_of_lt_of_le h HBJ.out.size)
    have hse := HSF.out i hiL
    have HTM := Lib.hid (all_take (P := mayS) hiL)
    have HTO := Lib.hid (outL_take hiL)
    clear hc hr0 hdi
    generalize L[i] = d at *
    generalize (L.take i).all mayS = m0 at *
    generalize outL (L.take i) = n0 at *
    obtain ⟨s1, s2, s3, s4, _⟩ := hse
    have HS4 := Lib.hid s4
    clear s4
    have hent := entN_bd (bl := d.bl) s1 s3
    have HENT := Lib.hid (entV_N d.ts d.bl d.sub)
    have HMD := Lib.hid (show mayS d = (decide (0 < entN d.ts d.bl d.sub) && d.ts.all fun t => mayV t.t t.c t.d) from rfl)
    generalize entN d.ts d.bl d.sub = EN at *
    generalize hts : d.ts.length = NT at *
    generalize hss : d.sub.len = NU at *
    generalize hbl : d.bl.length = NB at *
    have HTS := Lib.hid hts
    have HBL := Lib.hid hbl
    clear hts hss hbl
    have hba := ba (brefl wr) (.cells #[.slice At NT ct, .slice As NU cs, .slice Ab NB cb] 42)
    have R7 := Lib.hid (heap_alloc_new wr (.cells #[.slice At NT ct, .slice As NU cs, .slice Ab NB cb] 42))
    have HB7 := Lib.hid (HBJ.out.trans (hba.mono HBJ.out.size))
    have HD7 := Lib.hid (show DiK (wr.alloc (.cells #[.slice At NT ct, .slice As NU cs, .slice Ab NB cb] 42)) At As Ab d from (HDI.out.bel hba).mono fun b _ h => Nat.lt_of_lt_of_le h hba.size)
    clear hba HBJ HDI
    have q2 := row_cell (v := .slice Ab NB cb) R7.out 2 rfl
    have q0 := row_cell (v := .slice At NT ct) R7.out 0 rfl
    cases m0 with
    | true =>
      by_cases hnb : 0 < NB
      · have i2 : decide ((0 : Int) < (NB : Int)) = true := decide_eq_true (by omega)
        have i3 : decide (0 < NB) = true := decide_eq_true hnb
        have HOB := Lib.hid (show outB d.bl = 1 by unfold outB; rw [HBL.out, if_pos hnb])
        clear hnb
        go_wp2_with (first | ((with_reducible refine wpl_loadv rtDi ?_ (.tmp 29) ?_ b (off + i * 3) ?_ [.slice At NT ct, .slice As NU cs, .slice Ab NB cb] ?_ HRG.out ?_); rfl; rfl; rfl; rfl; simp only [Act.put, List.setIfInBounds_toArray, List.set_cons_succ, List.set_cons_zero]) | ((with_reducible refine wpl_load_row rtDi ?_ (.tmp 7) ?_ (wr.heap.size) ?_ 42 (#[.slice At NT ct, .slice As NU cs, .slice Ab NB cb]) ?_ R7.out ?_); rfl; rfl; rfl; rfl; simp only [Act.put, List.setIfInBounds_toArray, List.set_cons_succ, List.set_cons_zero]))
        generalize wr.alloc (.cells #[.slice At NT ct, .slice As NU cs, .slice Ab NB cb] 42) = x at *
        generalize wr.heap.size = g7 at *
        clear q0 q2
        refine (lent_any At As Ab NT ct NU cs NB cb _ (by omega) (by omega)).mono ?_
        rintro e m1 ⟨rfl, hb⟩
        replace R7 := Lib.hid ((hb.block _ (row_lt R7.out)).trans R7.out)
        replace HD7 := Lib.hid (HD7.out.keep hb)
        replace HB7 := Lib.hid (HB7.out.trans (hb.mono HB7.out.size))
        clear hb
        rw [HENT.out]
        obtain ⟨me, hme⟩ : ∃ me, decide (0 < EN) = me := ⟨_, rfl⟩
        have hme2 : decide ((0 : Int) < (EN : Int)) = me := by rw [← hme]; apply decide_eq_decide.2; omega
        have HME := Lib.hid hme
        have q2 := row_cell (v := .slice Ab NB cb) R7.out 2 rfl
        go_wp2_with fail
        clear q2 hme hme2
        clear i2 i3
        have hTL : d.ts.length = NT := HTS.out
        go_loopw [4, 5, 8] (fun s4 s5 s8 wr => ∃ (k : Nat), k ≤ NT ∧ s8 = .int .i64 (k : Int) ∧ s4 = .bool (me && (d.ts.take k).all (fun t => mayV t.t t.c t.d)) ∧ s5 = .int .i64 (((n0 : Int) + 1) + (outT (d.ts.take k) : Int)) ∧ Below m1.heap.size m1 wr) (fun _ _ s8 _ => NT - (intOf s8).toNat)
        case atStart => exact ⟨0, by omega, rfl, by simp, by simp [outT], Below.refl _ _⟩
        case round =>
          obtain ⟨k, hk, rfl, rfl, rfl, hbt⟩ := hrel
          have HBT := Lib.hid hbt
          clear hbt
          have R7t := Lib.hid ((HBT.out.block _ (row_lt R7.out)).trans R7.out)
          have q0 := row_cell (v := .slice At NT ct) R7t.out 0 rfl
          by_cases hkn : k < NT
          case neg =>
            obtain rfl : k = NT := by omega
            have e4 : (me && (d.ts.take k).all (fun t => mayV t.t t.c t.d)) = (L.take (i + 1)).all mayS := by rw [HTM.out, HMD.out, List.take_of_length_le (by omega), HME.out]; first | rfl | simp
            have e5 : ((n0 : Int) + 1) + (outT (d.ts.take k) : Int) = (outL (L.take (i + 1)) : Int) := by rw [HTO.out, List.take_of_length_le (by omega)]; have := HOB.out; rw [this]; push_cast; omega
            have HE4 := Lib.hid e4
            have HE5 := Lib.hid e5
            clear e4 e5
            go_wp2_with fail
            go_roundw
            case rel => exact ⟨i + 1, by omega, rfl, congrArg _ HE4.out, congrArg _ HE5.out, HB7.out.trans (HBT.out.mono HB7.out.size)⟩
            case measure => simp only [intOf]; omega
          have k1 : (k : Int) < (NT : Int) := by omega
          have hkt : k < d.ts.length := by omega
          obtain ⟨b2, off2, rfl, hb2, hbs2, hc2⟩ := (HD7.out.keep HBT.out).tg.at_ (by omega)
          obtain ⟨Ad2, cd2, hr2, hsl2, hby2, _⟩ := hc2 k hkt
          have hdl := HS4.out _ (List.getElem_mem hkt)
          have HAT := Lib.hid (all_take (P := fun t : Tg => mayV t.t t.c t.d) hkt)
          have HOT := Lib.hid (outT_take hkt)
          have hot : outT (d.ts.take k) ≤ NT := by have h := List.length_filter_le (fun t : Tg => decide (0 < ouE t.t t.c)) (d.ts.take k); rw [List.length_take] at h; have : outT (d.ts.take k) ≤ min k d.ts.length := h; omega
          clear hc2
          generalize d.ts[k] = tg at *
          obtain ⟨tn, tt, tc, td⟩ := tg
          dsimp only at hr2 hsl2 hby2 hdl HAT HOT
          have HV2 := Lib.hid (show RgK wr b2 (off2 + k * 4 + 1) [.int .i64 tt, .int .i64 tc, .slice Ad2 td.length cd2] from ⟨hbs2, rng_tail hr2⟩)
          have HSL := Lib.hid hsl2.sl
          have HE4 := Lib.hid (show (me && (d.ts.take (k + 1)).all (fun t => mayV t.t t.c t.d)) = ((me && (d.ts.take k).all (fun t => mayV t.t t.c t.d)) && mayV tt tc td) by rw [HAT.out, Bool.and_assoc])
          clear hr2 hsl2 HAT
          generalize hom : outT (d.ts.take k) = om at *
          have HOM := Lib.hid hom
          clear hom
          generalize hmm : (me && (d.ts.take k).all (fun t => mayV t.t t.c t.d)) = mm at *
          clear hmm
          have HMV := Lib.hid (fun W h => vmay_any tt tc Ad2 td cd2 W h (by omega) hby2)
          cases mm with
          | true =>
            go_wp2_with ((with_reducible refine wpl_loadv rtVl ?_ (.tmp 56) ?_ b2 (off2 + k * 4 + 1) ?_ [.int .i64 tt, .int .i64 tc, .slice Ad2 td.length cd2] ?_ HV2.out.rng ?_); rfl; rfl; rfl; rfl; simp only [Act.put, List.setIfInBounds_toArray, List.set_cons_succ, List.set_cons_zero])
            clear q0
            refine (HMV.out _ HSL.out).mono ?_
            rintro e z1 ⟨rfl, hb⟩
            replace R7t := Lib.hid ((hb.block _ (row_lt R7t.out)).trans R7t.out)
            replace HV2 := Lib.hid (HV2.out.keep hb)
            replace HBT := Lib.hid (HBT.out.trans (hb.mono HBT.out.size))
            clear hb
            go_wp2_with fail
            clear HMV HSL
            have LTV := HV2.out.1
            have LT_R7t : _ < z1.heap.size := row_lt R7t.out
            have SZ : z1.heap.size ≤ z1.drew.heap.size := Nat.le_refl _
            have hb := ud' (brefl z1)
            replace R7t := Lib.hid ((hb.block _ (row_lt R7t.out)).trans R7t.out)
            replace HV2 := Lib.hid (HV2.out.keep hb)
            replace HBT := Lib.hid (HBT.out.trans (hb.mono HBT.out.size))
            clear hb
            refine Tin.reg_begin (z1.heap.size) 16 (by rfl) (by kernel_rfl) ?_
            have q6 : ∀ p : Bel (z1.heap.size) z1.drew, p.w'.cell? ⟨b2, off2 + k * 4 + 1, none⟩ = some (.int .i64 tt) := fun p => (rng_below p.h LTV HV2.out.2) 0 _ rfl
            have q7 : ∀ p : Bel (z1.heap.size) z1.drew, p.w'.cell? ⟨b2, off2 + k * 4 + 1 + 1, none⟩ = some (.int .i64 tc) := fun p => (rng_below p.h LTV HV2.out.2) 1 _ rfl
            have q0 : ∀ p : Bel (z1.heap.size) z1.drew, p.w'.cell? ⟨g7, 0, none⟩ = some (.slice (some ⟨b2, off2, none⟩) NT ct) := fun p => row_cell ((p.h.block _ LT_R7t).trans R7t.out) 0 rfl
            refine Tin.reg_quiets [0, 1, 2, 3, 4, 5, 6, 7, 8, 9, 10, 11, 12, 13] _ 2 rfl (by simp only [Tin.pick, List.map_cons, List.map_nil, Array.getD_eq_getD_getElem?, List.getElem?_toArray, List.getElem?_cons_zero, List.getElem?_cons_succ, Option.getD_some]; rfl) (by kernel_rfl) (by kernel_rfl) ?_
            repeat (first | go_big_quiet_step (fail))
            refine wpQuiet_nil ?_
            clear q0
            clear q6 q7
            refine Tin.reg_one 14 _ rfl (by kernel_rfl) ?_
            try simp only [List.getElem_toArray, List.getElem_cons_succ, List.getElem_cons_zero]
            go_wp2_with fail
            refine (out_any tt tc _).mono ?_
            rintro e z2 ⟨rfl, hv⟩
            go_wp2_with fail
            refine ⟨z1.heap.size, hv.mono SZ, Nat.le_refl _, ?_⟩
            replace R7t := Lib.hid ((hv.block _ (row_lt R7t.out)).trans R7t.out)
            replace HV2 := Lib.hid (HV2.out.keep hv)
            replace HBT := Lib.hid (HBT.out.trans (hv.mono HBT.out.size))
            replace SZ := Nat.le_trans SZ hv.size
            clear hv
            refine Tin.reg_quiets [15] _ 0 rfl (by simp only [Tin.pick, List.map_cons, List.map_nil, Array.getD_eq_getD_getElem?, List.getElem?_toArray, List.getElem?_cons_zero, List.getElem?_cons_succ, Option.getD_some]; rfl) (by kernel_rfl) (by kernel_rfl) ?_
            repeat (first | go_big_quiet_step (fail))
            refine wpQuiet_nil ?_
            refine Tin.reg_done (by kernel_rfl) ?_
            by_cases h6 : 0 < ouE tt tc
            · have HO6 := Lib.hid (show ((n0 : Int) + 1) + (outT (d.ts.take (k + 1)) : Int) = ((n0 : Int) + 1) + (om : Int) + 1 by rw [HOT.out, if_pos h6]; push_cast; omega)
              clear HOT
              go_wp2_with fail
              exact ⟨⟨k + 1, by omega, rfl, by rw [HE4.out]; simp, by rw [HO6.out], HBT.out⟩, by simp only [intOf]; omega⟩
            · have HO6 := Lib.hid (show ((n0 : Int) + 1) + (outT (d.ts.take (k + 1)) : Int) = ((n0 : Int) + 1) + (om : Int) by rw [HOT.out, if_neg h6]; push_cast; omega)
              clear HOT
              go_wp2_with fail
              exact ⟨⟨k + 1, by omega, rfl, by rw [HE4.out]; simp, by rw [HO6.out], HBT.out⟩, by simp only [intOf]; omega⟩
          | false =>
            go_wp2_with fail
            clear q0
            clear HMV HSL
            have LTV := HV2.out.1
            have LT_R7t : _ < wr.heap.size := row_lt R7t.out
            have SZ : wr.heap.size ≤ wr.drew.heap.size := Nat.le_refl _
            have hb := ud' (brefl wr)
            replace R7t := Lib.hid ((hb.block _ (row_lt R7t.out)).trans R7t.out)
            replace HV2 := Lib.hid (HV2.out.keep hb)
            replace HBT := Lib.hid (HBT.out.trans (hb.mono HBT.out.size))
            clear hb
            refine Tin.reg_begin (wr.heap.size) 16 (by rfl) (by kernel_rfl) ?_
            have q6 : ∀ p : Bel (wr.heap.size) wr.drew, p.w'.cell? ⟨b2, off2 + k * 4 + 1, none⟩ = some (.int .i64 tt) := fun p => (rng_below p.h LTV HV2.out.2) 0 _ rfl
            have q7 : ∀ p : Bel (wr.heap.size) wr.drew, p.w'.cell? ⟨b2, off2 + k * 4 + 1 + 1, none⟩ = some (.int .i64 tc) := fun p => (rng_below p.h LTV HV2.out.2) 1 _ rfl
            have q0 : ∀ p : Bel (wr.heap.size) wr.drew, p.w'.cell? ⟨g7, 0, none⟩ = some (.slice (some ⟨b2, off2, none⟩) NT ct) := fun p => row_cell ((p.h.block _ LT_R7t).trans R7t.out) 0 rfl
            refine Tin.reg_quiets [0, 1, 2, 3, 4, 5, 6, 7, 8, 9, 10, 11, 12, 13] _ 2 rfl (by simp only [Tin.pick, List.map_cons, List.map_nil, Array.getD_eq_getD_getElem?, List.getElem?_toArray, List.getElem?_cons_zero, List.getElem?_cons_succ, Option.getD_some]; rfl) (by kernel_rfl) (by kernel_rfl) ?_
            repeat (first | go_big_quiet_step (fail))
            refine wpQuiet_nil ?_
            clear q0
            clear q6 q7
            refine Tin.reg_one 14 _ rfl (by kernel_rfl) ?_
            try simp only [List.getElem_toArray, List.getElem_cons_succ, List.getElem_cons_zero]
            go_wp2_with fail
            refine (out_any tt tc _).mono ?_
            rintro e z1 ⟨rfl, hv⟩
            go_wp2_with fail
            refine ⟨wr.heap.size, hv.mono SZ, Nat.le_refl _, ?_⟩
            replace R7t := Lib.hid ((hv.block _ (row_lt R7t.out)).trans R7t.out)
            replace HV2 := Lib.hid (HV2.out.keep hv)
            replace HBT := Lib.hid (HBT.out.trans (hv.mono HBT.out.size))
            replace SZ := Nat.le_trans SZ hv.size
            clear hv
            refine Tin.reg_quiets [15] _ 0 rfl (by simp only [Tin.pick, List.map_cons, List.map_nil, Array.getD_eq_getD_getElem?, List.getElem?_toArray, List.getElem?_cons_zero, List.getElem?_cons_succ, Option.getD_some]; rfl) (by kernel_rfl) (by kernel_rfl) ?_
            repeat (first | go_big_quiet_step (fail))
            refine wpQuiet_nil ?_
            refine Tin.reg_done (by kernel_rfl) ?_
            by_cases h6 : 0 < ouE tt tc
            · have HO6 := Lib.hid (show ((n0 : Int) + 1) + (outT (d.ts.take (k + 1)) : Int) = ((n0 : Int) + 1) + (om : Int) + 1 by rw [HOT.out, if_pos h6]; push_cast; omega)
              clear HOT
              go_wp2_with fail
              exact ⟨⟨k + 1, by omega, rfl, by rw [HE4.out]; simp, by rw [HO6.out], HBT.out⟩, by simp only [intOf]; omega⟩
            · have HO6 := Lib.hid (show ((n0 : Int) + 1) + (outT (d.ts.take (k + 1)) : Int) = ((n0 : Int) + 1) + (om : Int) by rw [HOT.out, if_neg h6]; push_cast; omega)
              clear HOT
              go_wp2_with fail
              exact ⟨⟨k + 1, by omega, rfl, by rw [HE4.out]; simp, by rw [HO6.out], HBT.out⟩, by simp only [intOf]; omega⟩
      · have i2 : decide ((0 : Int) < (NB : Int)) = false := decide_eq_false (by omega)
        have i3 : decide (0 < NB) = false := decide_eq_false hnb
        have HOB := Lib.hid (show outB d.bl = 0 by unfold outB; rw [HBL.out, if_neg hnb])
        clear hnb
        go_wp2_with (first | ((with_reducible refine wpl_loadv rtDi ?_ (.tmp 29) ?_ b (off + i * 3) ?_ [.slice At NT ct, .slice As NU cs, .slice Ab NB cb] ?_ HRG.out ?_); rfl; rfl; rfl; rfl; simp only [Act.put, List.setIfInBounds_toArray, List.set_cons_succ, List.set_cons_zero]) | ((with_reducible refine wpl_load_row rtDi ?_ (.tmp 7) ?_ (wr.heap.size) ?_ 42 (#[.slice At NT ct, .slice As NU cs, .slice Ab NB cb]) ?_ R7.out ?_); rfl; rfl; rfl; rfl; simp only [Act.put, List.setIfInBounds_toArray, List.set_cons_succ, List.set_cons_zero]))
        generalize wr.alloc (.cells #[.slice At NT ct, .slice As NU cs, .slice Ab NB cb] 42) = x at *
        generalize wr.heap.size = g7 at *
        clear q0 q2
        refine (lent_any At As Ab NT ct NU cs NB cb _ (by omega) (by omega)).mono ?_
        rintro e m1 ⟨rfl, hb⟩
        replace R7 := Lib.hid ((hb.block _ (row_lt R7.out)).trans R7.out)
        replace HD7 := Lib.hid (HD7.out.keep hb)
        replace HB7 := Lib.hid (HB7.out.trans (hb.mono HB7.out.size))
        clear hb
        rw [HENT.out]
        obtain ⟨me, hme⟩ : ∃ me, decide (0 < EN) = me := ⟨_, rfl⟩
        have hme2 : decide ((0 : Int) < (EN : Int)) = me := by rw [← hme]; apply decide_eq_decide.2; omega
        have HME := Lib.hid hme
        have q2 := row_cell (v := .slice Ab NB cb) R7.out 2 rfl
        go_wp2_with fail
        clear q2 hme hme2
        clear i2 i3
        have hTL : d.ts.length = NT := HTS.out
        go_loopw [4, 5, 8] (fun s4 s5 s8 wr => ∃ (k : Nat), k ≤ NT ∧ s8 = .int .i64 (k : Int) ∧ s4 = .bool (me && (d.ts.take k).all (fun t => mayV t.t t.c t.d)) ∧ s5 = .int .i64 ((n0 : Int) + (outT (d.ts.take k) : Int)) ∧ Below m1.heap.size m1 wr) (fun _ _ s8 _ => NT - (intOf s8).toNat)
        case atStart => exact ⟨0, by omega, rfl, by simp, by simp [outT], Below.refl _ _⟩
        case round =>
          obtain ⟨k, hk, rfl, rfl, rfl, hbt⟩ := hrel
          have HBT := Lib.hid hbt
          clear hbt
          have R7t := Lib.hid ((HBT.out.block _ (row_lt R7.out)).trans R7.out)
          have q0 := row_cell (v := .slice At NT ct) R7t.out 0 rfl
          by_cases hkn : k < NT
          case neg =>
            obtain rfl : k = NT := by omega
            have e4 : (me && (d.ts.take k).all (fun t => mayV t.t t.c t.d)) = (L.take (i + 1)).all mayS := by rw [HTM.out, HMD.out, List.take_of_length_le (by omega), HME.out]; first | rfl | simp
            have e5 : (n0 : Int) + (outT (d.ts.take k) : Int) = (outL (L.take (i + 1)) : Int) := by rw [HTO.out, List.take_of_length_le (by omega)]; have := HOB.out; rw [this]; push_cast; omega
            have HE4 := Lib.hid e4
            have HE5 := Lib.hid e5
            clear e4 e5
            go_wp2_with fail
            go_roundw
            case rel => exact ⟨i + 1, by omega, rfl, congrArg _ HE4.out, congrArg _ HE5.out, HB7.out.trans (HBT.out.mono HB7.out.size)⟩
            case measure => simp only [intOf]; omega
          have k1 : (k : Int) < (NT : Int) := by omega
          have hkt : k < d.ts.length := by omega
          obtain ⟨b2, off2, rfl, hb2, hbs2, hc2⟩ := (HD7.out.keep HBT.out).tg.at_ (by omega)
          obtain ⟨Ad2, cd2, hr2, hsl2, hby2, _⟩ := hc2 k hkt
          have hdl := HS4.out _ (List.getElem_mem hkt)
          have HAT := Lib.hid (all_take (P := fun t : Tg => mayV t.t t.c t.d) hkt)
          have HOT := Lib.hid (outT_take hkt)
          have hot : outT (d.ts.take k) ≤ NT := by have h := List.length_filter_le (fun t : Tg => decide (0 < ouE t.t t.c)) (d.ts.take k); rw [List.length_take] at h; have : outT (d.ts.take k) ≤ min k d.ts.length := h; omega
          clear hc2
          generalize d.ts[k] = tg at *
          obtain ⟨tn, tt, tc, td⟩ := tg
          dsimp only at hr2 hsl2 hby2 hdl HAT HOT
          have HV2 := Lib.hid (show RgK wr b2 (off2 + k * 4 + 1) [.int .i64 tt, .int .i64 tc, .slice Ad2 td.length cd2] from ⟨hbs2, rng_tail hr2⟩)
          have HSL := Lib.hid hsl2.sl
          have HE4 := Lib.hid (show (me && (d.ts.take (k + 1)).all (fun t => mayV t.t t.c t.d)) = ((me && (d.ts.take k).all (fun t => mayV t.t t.c t.d)) && mayV tt tc td) by rw [HAT.out, Bool.and_assoc])
          clear hr2 hsl2 HAT
          generalize hom : outT (d.ts.take k) = om at *
          have HOM := Lib.hid hom
          clear hom
          generalize hmm : (me && (d.ts.take k).all (fun t => mayV t.t t.c t.d)) = mm at *
          clear hmm
          have HMV := Lib.hid (fun W h => vmay_any tt tc Ad2 td cd2 W h (by omega) hby2)
          cases mm with
          | true =>
            go_wp2_with ((with_reducible refine wpl_loadv rtVl ?_ (.tmp 56) ?_ b2 (off2 + k * 4 + 1) ?_ [.int .i64 tt, .int .i64 tc, .slice Ad2 td.length cd2] ?_ HV2.out.rng ?_); rfl; rfl; rfl; rfl; simp only [Act.put, List.setIfInBounds_toArray, List.set_cons_succ, List.set_cons_zero])
            clear q0
            refine (HMV.out _ HSL.out).mono ?_
            rintro e z1 ⟨rfl, hb⟩
            replace R7t := Lib.hid ((hb.block _ (row_lt R7t.out)).trans R7t.out)
            replace HV2 := Lib.hid (HV2.out.keep hb)
            replace HBT := Lib.hid (HBT.out.trans (hb.mono HBT.out.size))
            clear hb
            go_wp2_with fail
            clear HMV HSL
            have LTV := HV2.out.1
            have LT_R7t : _ < z1.heap.size := row_lt R7t.out
            have SZ : z1.heap.size ≤ z1.drew.heap.size := Nat.le_refl _
            have hb := ud' (brefl z1)
            replace R7t := Lib.hid ((hb.block _ (row_lt R7t.out)).trans R7t.out)
            replace HV2 := Lib.hid (HV2.out.keep hb)
            replace HBT := Lib.hid (HBT.out.trans (hb.mono HBT.out.size))
            clear hb
            refine Tin.reg_begin (z1.heap.size) 16 (by rfl) (by kernel_rfl) ?_
            have q6 : ∀ p : Bel (z1.heap.size) z1.drew, p.w'.cell? ⟨b2, off2 + k * 4 + 1, none⟩ = some (.int .i64 tt) := fun p => (rng_below p.h LTV HV2.out.2) 0 _ rfl
            have q7 : ∀ p : Bel (z1.heap.size) z1.drew, p.w'.cell? ⟨b2, off2 + k * 4 + 1 + 1, none⟩ = some (.int .i64 tc) := fun p => (rng_below p.h LTV HV2.out.2) 1 _ rfl
            have q0 : ∀ p : Bel (z1.heap.size) z1.drew, p.w'.cell? ⟨g7, 0, none⟩ = some (.slice (some ⟨b2, off2, none⟩) NT ct) := fun p => row_cell ((p.h.block _ LT_R7t).trans R7t.out) 0 rfl
            refine Tin.reg_quiets [0, 1, 2, 3, 4, 5, 6, 7, 8, 9, 10, 11, 12, 13] _ 2 rfl (by simp only [Tin.pick, List.map_cons, List.map_nil, Array.getD_eq_getD_getElem?, List.getElem?_toArray, List.getElem?_cons_zero, List.getElem?_cons_succ, Option.getD_some]; rfl) (by kernel_rfl) (by kernel_rfl) ?_
            repeat (first | go_big_quiet_step (fail))
            refine wpQuiet_nil ?_
            clear q0
            clear q6 q7
            refine Tin.reg_one 14 _ rfl (by kernel_rfl) ?_
            try simp only [List.getElem_toArray, List.getElem_cons_succ, List.getElem_cons_zero]
            go_wp2_with fail
            refine (out_any tt tc _).mono ?_
            rintro e z2 ⟨rfl, hv⟩
            go_wp2_with fail
            refine ⟨z1.heap.size, hv.mono SZ, Nat.le_refl _, ?_⟩
            replace R7t := Lib.hid ((hv.block _ (row_lt R7t.out)).trans R7t.out)
            replace HV2 := Lib.hid (HV2.out.keep hv)
            replace HBT := Lib.hid (HBT.out.trans (hv.mono HBT.out.size))
            replace SZ := Nat.le_trans SZ hv.size
            clear hv
            refine Tin.reg_quiets [15] _ 0 rfl (by simp only [Tin.pick, List.map_cons, List.map_nil, Array.getD_eq_getD_getElem?, List.getElem?_toArray, List.getElem?_cons_zero, List.getElem?_cons_succ, Option.getD_some]; rfl) (by kernel_rfl) (by kernel_rfl) ?_
            repeat (first | go_big_quiet_step (fail))
            refine wpQuiet_nil ?_
            refine Tin.reg_done (by kernel_rfl) ?_
            by_cases h6 : 0 < ouE tt tc
            · have HO6 := Lib.hid (show (n0 : Int) + (outT (d.ts.take (k + 1)) : Int) = (n0 : Int) + (om : Int) + 1 by rw [HOT.out, if_pos h6]; push_cast; omega)
              clear HOT
              go_wp2_with fail
              exact ⟨⟨k + 1, by omega, rfl, by rw [HE4.out]; simp, by rw [HO6.out], HBT.out⟩, by simp only [intOf]; omega⟩
            · have HO6 := Lib.hid (show (n0 : Int) + (outT (d.ts.take (k + 1)) : Int) = (n0 : Int) + (om : Int) by rw [HOT.out, if_neg h6]; push_cast; omega)
              clear HOT
              go_wp2_with fail
              exact ⟨⟨k + 1, by omega, rfl, by rw [HE4.out]; simp, by rw [HO6.out], HBT.out⟩, by simp only [intOf]; omega⟩
          | false =>
            go_wp2_with fail
            clear q0
            clear HMV HSL
            have LTV := HV2.out.1
            have LT_R7t : _ < wr.heap.size := row_lt R7t.out
            have SZ : wr.heap.size ≤ wr.drew.heap.size := Nat.le_refl _
            have hb := ud' (brefl wr)
            replace R7t := Lib.hid ((hb.block _ (row_lt R7t.out)).trans R7t.out)
            replace HV2 := Lib.hid (HV2.out.keep hb)
            replace HBT := Lib.hid (HBT.out.trans (hb.mono HBT.out.size))
            clear hb
            refine Tin.reg_begin (wr.heap.size) 16 (by rfl) (by kernel_rfl) ?_
            have q6 : ∀ p : Bel (wr.heap.size) wr.drew, p.w'.cell? ⟨b2, off2 + k * 4 + 1, none⟩ = some (.int .i64 tt) := fun p => (rng_below p.h LTV HV2.out.2) 0 _ rfl
            have q7 : ∀ p : Bel (wr.heap.size) wr.drew, p.w'.cell? ⟨b2, off2 + k * 4 + 1 + 1, none⟩ = some (.int .i64 tc) := fun p => (rng_below p.h LTV HV2.out.2) 1 _ rfl
            have q0 : ∀ p : Bel (wr.heap.size) wr.drew, p.w'.cell? ⟨g7, 0, none⟩ = some (.slice (some ⟨b2, off2, none⟩) NT ct) := fun p => row_cell ((p.h.block _ LT_R7t).trans R7t.out) 0 rfl
            refine Tin.reg_quiets [0, 1, 2, 3, 4, 5, 6, 7, 8, 9, 10, 11, 12, 13] _ 2 rfl (by simp only [Tin.pick, List.map_cons, List.map_nil, Array.getD_eq_getD_getElem?, List.getElem?_toArray, List.getElem?_cons_zero, List.getElem?_cons_succ, Option.getD_some]; rfl) (by kernel_rfl) (by kernel_rfl) ?_
            repeat (first | go_big_quiet_step (fail))
            refine wpQuiet_nil ?_
            clear q0
            clear q6 q7
            refine Tin.reg_one 14 _ rfl (by kernel_rfl) ?_
            try simp only [List.getElem_toArray, List.getElem_cons_succ, List.getElem_cons_zero]
            go_wp2_with fail
            refine (out_any tt tc _).mono ?_
            rintro e z1 ⟨rfl, hv⟩
            go_wp2_with fail
            refine ⟨wr.heap.size, hv.mono SZ, Nat.le_refl _, ?_⟩
            replace R7t := Lib.hid ((hv.block _ (row_lt R7t.out)).trans R7t.out)
            replace HV2 := Lib.hid (HV2.out.keep hv)
            replace HBT := Lib.hid (HBT.out.trans (hv.mono HBT.out.size))
            replace SZ := Nat.le_trans SZ hv.size
            clear hv
            refine Tin.reg_quiets [15] _ 0 rfl (by simp only [Tin.pick, List.map_cons, List.map_nil, Array.getD_eq_getD_getElem?, List.getElem?_toArray, List.getElem?_cons_zero, List.getElem?_cons_succ, Option.getD_some]; rfl) (by kernel_rfl) (by kernel_rfl) ?_
            repeat (first | go_big_quiet_step (fail))
            refine wpQuiet_nil ?_
            refine Tin.reg_done (by kernel_rfl) ?_
            by_cases h6 : 0 < ouE tt tc
            · have HO6 := Lib.hid (show (n0 : Int) + (outT (d.ts.take (k + 1)) : Int) = (n0 : Int) + (om : Int) + 1 by rw [HOT.out, if_pos h6]; push_cast; omega)
              clear HOT
              go_wp2_with fail
              exact ⟨⟨k + 1, by omega, rfl, by rw [HE4.out]; simp, by rw [HO6.out], HBT.out⟩, by simp only [intOf]; omega⟩
            · have HO6 := Lib.hid (show (n0 : Int) + (outT (d.ts.take (k + 1)) : Int) = (n0 : Int) + (om : Int) by rw [HOT.out, if_neg h6]; push_cast; omega)
              clear HOT
              go_wp2_with fail
              exact ⟨⟨k + 1, by omega, rfl, by rw [HE4.out]; simp, by rw [HO6.out], HBT.out⟩, by simp only [intOf]; omega⟩
    | false =>
      by_cases hnb : 0 < NB
      · have i2 : decide ((0 : Int) < (NB : Int)) = true := decide_eq_true (by omega)
        have i3 : decide (0 < NB) = true := decide_eq_true hnb
        have HOB := Lib.hid (show outB d.bl = 1 by unfold outB; rw [HBL.out, if_pos hnb])
        clear hnb
        go_wp2_with ((with_reducible refine wpl_loadv rtDi ?_ (.tmp 29) ?_ b (off + i * 3) ?_ [.slice At NT ct, .slice As NU cs, .slice Ab NB cb] ?_ HRG.out ?_); rfl; rfl; rfl; rfl; simp only [Act.put, List.setIfInBounds_toArray, List.set_cons_succ, List.set_cons_zero])
        generalize wr.alloc (.cells #[.slice At NT ct, .slice As NU cs, .slice Ab NB cb] 42) = x at *
        generalize wr.heap.size = g7 at *
        clear q0 q2
        clear i2 i3
        have hTL : d.ts.length = NT := HTS.out
        go_loopw [4, 5, 8] (fun s4 s5 s8 wr => ∃ (k : Nat), k ≤ NT ∧ s8 = .int .i64 (k : Int) ∧ s4 = .bool (false && (d.ts.take k).all (fun t => mayV t.t t.c t.d)) ∧ s5 = .int .i64 (((n0 : Int) + 1) + (outT (d.ts.take k) : Int)) ∧ Below x.heap.size x wr) (fun _ _ s8 _ => NT - (intOf s8).toNat)
        case atStart => exact ⟨0, by omega, rfl, by simp, by simp [outT], Below.refl _ _⟩
        case round =>
          obtain ⟨k, hk, rfl, rfl, rfl, hbt⟩ := hrel
          have HBT := Lib.hid hbt
          clear hbt
          have R7t := Lib.hid ((HBT.out.block _ (row_lt R7.out)).trans R7.out)
          have q0 := row_cell (v := .slice At NT ct) R7t.out 0 rfl
          by_cases hkn : k < NT
          case neg =>
            obtain rfl : k = NT := by omega
            have e4 : (false && (d.ts.take k).all (fun t => mayV t.t t.c t.d)) = (L.take (i + 1)).all mayS := by rw [HTM.out, HMD.out, List.take_of_length_le (by omega)]; first | rfl | simp
            have e5 : ((n0 : Int) + 1) + (outT (d.ts.take k) : Int) = (outL (L.take (i + 1)) : Int) := by rw [HTO.out, List.take_of_length_le (by omega)]; have := HOB.out; rw [this]; push_cast; omega
            have HE4 := Lib.hid e4
            have HE5 := Lib.hid e5
            clear e4 e5
            go_wp2_with fail
            go_roundw
            case rel => exact ⟨i + 1, by omega, rfl, congrArg _ HE4.out, congrArg _ HE5.out, HB7.out.trans (HBT.out.mono HB7.out.size)⟩
            case measure => simp only [intOf]; omega
          have k1 : (k : Int) < (NT : Int) := by omega
          have hkt : k < d.ts.length := by omega
          obtain ⟨b2, off2, rfl, hb2, hbs2, hc2⟩ := (HD7.out.keep HBT.out).tg.at_ (by omega)
          obtain ⟨Ad2, cd2, hr2, hsl2, hby2, _⟩ := hc2 k hkt
          have hdl := HS4.out _ (List.getElem_mem hkt)
          have HAT := Lib.hid (all_take (P := fun t : Tg => mayV t.t t.c t.d) hkt)
          have HOT := Lib.hid (outT_take hkt)
          have hot : outT (d.ts.take k) ≤ NT := by have h := List.length_filter_le (fun t : Tg => decide (0 < ouE t.t t.c)) (d.ts.take k); rw [List.length_take] at h; have : outT (d.ts.take k) ≤ min k d.ts.length := h; omega
          clear hc2
          generalize d.ts[k] = tg at *
          obtain ⟨tn, tt, tc, td⟩ := tg
          dsimp only at hr2 hsl2 hby2 hdl HAT HOT
          have HV2 := Lib.hid (show RgK wr b2 (off2 + k * 4 + 1) [.int .i64 tt, .int .i64 tc, .slice Ad2 td.length cd2] from ⟨hbs2, rng_tail hr2⟩)
          have HSL := Lib.hid hsl2.sl
          have HE4 := Lib.hid (show (false && (d.ts.take (k + 1)).all (fun t => mayV t.t t.c t.d)) = ((false && (d.ts.take k).all (fun t => mayV t.t t.c t.d)) && mayV tt tc td) by rw [HAT.out, Bool.and_assoc])
          clear hr2 hsl2 HAT
          generalize hom : outT (d.ts.take k) = om at *
          have HOM := Lib.hid hom
          clear hom
          generalize hmm : (false && (d.ts.take k).all (fun t => mayV t.t t.c t.d)) = mm at *
          clear hmm
          have HMV := Lib.hid (fun W h => vmay_any tt tc Ad2 td cd2 W h (by omega) hby2)
          cases mm with
          | true =>
            go_wp2_with ((with_reducible refine wpl_loadv rtVl ?_ (.tmp 56) ?_ b2 (off2 + k * 4 + 1) ?_ [.int .i64 tt, .int .i64 tc, .slice Ad2 td.length cd2] ?_ HV2.out.rng ?_); rfl; rfl; rfl; rfl; simp only [Act.put, List.setIfInBounds_toArray, List.set_cons_succ, List.set_cons_zero])
            clear q0
            refine (HMV.out _ HSL.out).mono ?_
            rintro e z1 ⟨rfl, hb⟩
            replace R7t := Lib.hid ((hb.block _ (row_lt R7t.out)).trans R7t.out)
            replace HV2 := Lib.hid (HV2.out.keep hb)
            replace HBT := Lib.hid (HBT.out.trans (hb.mono HBT.out.size))
            clear hb
            go_wp2_with fail
            clear HMV HSL
            have LTV := HV2.out.1
            have LT_R7t : _ < z1.heap.size := row_lt R7t.out
            have SZ : z1.heap.size ≤ z1.drew.heap.size := Nat.le_refl _
            have hb := ud' (brefl z1)
            replace R7t := Lib.hid ((hb.block _ (row_lt R7t.out)).trans R7t.out)
            replace HV2 := Lib.hid (HV2.out.keep hb)
            replace HBT := Lib.hid (HBT.out.trans (hb.mono HBT.out.size))
            clear hb
            refine Tin.reg_begin (z1.heap.size) 16 (by rfl) (by kernel_rfl) ?_
            have q6 : ∀ p : Bel (z1.heap.size) z1.drew, p.w'.cell? ⟨b2, off2 + k * 4 + 1, none⟩ = some (.int .i64 tt) := fun p => (rng_below p.h LTV HV2.out.2) 0 _ rfl
            have q7 : ∀ p : Bel (z1.heap.size) z1.drew, p.w'.cell? ⟨b2, off2 + k * 4 + 1 + 1, none⟩ = some (.int .i64 tc) := fun p => (rng_below p.h LTV HV2.out.2) 1 _ rfl
            have q0 : ∀ p : Bel (z1.heap.size) z1.drew, p.w'.cell? ⟨g7, 0, none⟩ = some (.slice (some ⟨b2, off2, none⟩) NT ct) := fun p => row_cell ((p.h.block _ LT_R7t).trans R7t.out) 0 rfl
            refine Tin.reg_quiets [0, 1, 2, 3, 4, 5, 6, 7, 8, 9, 10, 11, 12, 13] _ 2 rfl (by simp only [Tin.pick, List.map_cons, List.map_nil, Array.getD_eq_getD_getElem?, List.getElem?_toArray, List.getElem?_cons_zero, List.getElem?_cons_succ, Option.getD_some]; rfl) (by kernel_rfl) (by kernel_rfl) ?_
            repeat (first | go_big_quiet_step (fail))
            refine wpQuiet_nil ?_
            clear q0
            clear q6 q7
            refine Tin.reg_one 14 _ rfl (by kernel_rfl) ?_
            try simp only [List.getElem_toArray, List.getElem_cons_succ, List.getElem_cons_zero]
            go_wp2_with fail
            refine (out_any tt tc _).mono ?_
            rintro e z2 ⟨rfl, hv⟩
            go_wp2_with fail
            refine ⟨z1.heap.size, hv.mono SZ, Nat.le_refl _, ?_⟩
            replace R7t := Lib.hid ((hv.block _ (row_lt R7t.out)).trans R7t.out)
            replace HV2 := Lib.hid (HV2.out.keep hv)
            replace HBT := Lib.hid (HBT.out.trans (hv.mono HBT.out.size))
            replace SZ := Nat.le_trans SZ hv.size
            clear hv
            refine Tin.reg_quiets [15] _ 0 rfl (by simp only [Tin.pick, List.map_cons, List.map_nil, Array.getD_eq_getD_getElem?, List.getElem?_toArray, List.getElem?_cons_zero, List.getElem?_cons_succ, Option.getD_some]; rfl) (by kernel_rfl) (by kernel_rfl) ?_
            repeat (first | go_big_quiet_step (fail))
            refine wpQuiet_nil ?_
            refine Tin.reg_done (by kernel_rfl) ?_
            by_cases h6 : 0 < ouE tt tc
            · have HO6 := Lib.hid (show ((n0 : Int) + 1) + (outT (d.ts.take (k + 1)) : Int) = ((n0 : Int) + 1) + (om : Int) + 1 by rw [HOT.out, if_pos h6]; push_cast; omega)
              clear HOT
              go_wp2_with fail
              exact ⟨⟨k + 1, by omega, rfl, by rw [HE4.out]; simp, by rw [HO6.out], HBT.out⟩, by simp only [intOf]; omega⟩
            · have HO6 := Lib.hid (show ((n0 : Int) + 1) + (outT (d.ts.take (k + 1)) : Int) = ((n0 : Int) + 1) + (om : Int) by rw [HOT.out, if_neg h6]; push_cast; omega)
              clear HOT
              go_wp2_with fail
              exact ⟨⟨k + 1, by omega, rfl, by rw [HE4.out]; simp, by rw [HO6.out], HBT.out⟩, by simp only [intOf]; omega⟩
          | false =>
            go_wp2_with fail
            clear q0
            clear HMV HSL
            have LTV := HV2.out.1
            have LT_R7t : _ < wr.heap.size := row_lt R7t.out
            have SZ : wr.heap.size ≤ wr.drew.heap.size := Nat.le_refl _
            have hb := ud' (brefl wr)
            replace R7t := Lib.hid ((hb.block _ (row_lt R7t.out)).trans R7t.out)
            replace HV2 := Lib.hid (HV2.out.keep hb)
            replace HBT := Lib.hid (HBT.out.trans (hb.mono HBT.out.size))
            clear hb
            refine Tin.reg_begin (wr.heap.size) 16 (by rfl) (by kernel_rfl) ?_
            have q6 : ∀ p : Bel (wr.heap.size) wr.drew, p.w'.cell? ⟨b2, off2 + k * 4 + 1, none⟩ = some (.int .i64 tt) := fun p => (rng_below p.h LTV HV2.out.2) 0 _ rfl
            have q7 : ∀ p : Bel (wr.heap.size) wr.drew, p.w'.cell? ⟨b2, off2 + k * 4 + 1 + 1, none⟩ = some (.int .i64 tc) := fun p => (rng_below p.h LTV HV2.out.2) 1 _ rfl
            have q0 : ∀ p : Bel (wr.heap.size) wr.drew, p.w'.cell? ⟨g7, 0, none⟩ = some (.slice (some ⟨b2, off2, none⟩) NT ct) := fun p => row_cell ((p.h.block _ LT_R7t).trans R7t.out) 0 rfl
            refine Tin.reg_quiets [0, 1, 2, 3, 4, 5, 6, 7, 8, 9, 10, 11, 12, 13] _ 2 rfl (by simp only [Tin.pick, List.map_cons, List.map_nil, Array.getD_eq_getD_getElem?, List.getElem?_toArray, List.getElem?_cons_zero, List.getElem?_cons_succ, Option.getD_some]; rfl) (by kernel_rfl) (by kernel_rfl) ?_
            repeat (first | go_big_quiet_step (fail))
            refine wpQuiet_nil ?_
            clear q0
            clear q6 q7
            refine Tin.reg_one 14 _ rfl (by kernel_rfl) ?_
            try simp only [List.getElem_toArray, List.getElem_cons_succ, List.getElem_cons_zero]
            go_wp2_with fail
            refine (out_any tt tc _).mono ?_
            rintro e z1 ⟨rfl, hv⟩
            go_wp2_with fail
            refine ⟨wr.heap.size, hv.mono SZ, Nat.le_refl _, ?_⟩
            replace R7t := Lib.hid ((hv.block _ (row_lt R7t.out)).trans R7t.out)
            replace HV2 := Lib.hid (HV2.out.keep hv)
            replace HBT := Lib.hid (HBT.out.trans (hv.mono HBT.out.size))
            replace SZ := Nat.le_trans SZ hv.size
            clear hv
            refine Tin.reg_quiets [15] _ 0 rfl (by simp only [Tin.pick, List.map_cons, List.map_nil, Array.getD_eq_getD_getElem?, List.getElem?_toArray, List.getElem?_cons_zero, List.getElem?_cons_succ, Option.getD_some]; rfl) (by kernel_rfl) (by kernel_rfl) ?_
            repeat (first | go_big_quiet_step (fail))
            refine wpQuiet_nil ?_
            refine Tin.reg_done (by kernel_rfl) ?_
            by_cases h6 : 0 < ouE tt tc
            · have HO6 := Lib.hid (show ((n0 : Int) + 1) + (outT (d.ts.take (k + 1)) : Int) = ((n0 : Int) + 1) + (om : Int) + 1 by rw [HOT.out, if_pos h6]; push_cast; omega)
              clear HOT
              go_wp2_with fail
              exact ⟨⟨k + 1, by omega, rfl, by rw [HE4.out]; simp, by rw [HO6.out], HBT.out⟩, by simp only [intOf]; omega⟩
            · have HO6 := Lib.hid (show ((n0 : Int) + 1) + (outT (d.ts.take (k + 1)) : Int) = ((n0 : Int) + 1) + (om : Int) by rw [HOT.out, if_neg h6]; push_cast; omega)
              clear HOT
              go_wp2_with fail
              exact ⟨⟨k + 1, by omega, rfl, by rw [HE4.out]; simp, by rw [HO6.out], HBT.out⟩, by simp only [intOf]; omega⟩
      · have i2 : decide ((0 : Int) < (NB : Int)) = false := decide_eq_false (by omega)
        have i3 : decide (0 < NB) = false := decide_eq_false hnb
        have HOB := Lib.hid (show outB d.bl = 0 by unfold outB; rw [HBL.out, if_neg hnb])
        clear hnb
        go_wp2_with ((with_reducible refine wpl_loadv rtDi ?_ (.tmp 29) ?_ b (off + i * 3) ?_ [.slice At NT ct, .slice As NU cs, .slice Ab NB cb] ?_ HRG.out ?_); rfl; rfl; rfl; rfl; simp only [Act.put, List.setIfInBounds_toArray, List.set_cons_succ, List.set_cons_zero])
        generalize wr.alloc (.cells #[.slice At NT ct, .slice As NU cs, .slice Ab NB cb] 42) = x at *
        generalize wr.heap.size = g7 at *
        clear q0 q2
        clear i2 i3
        have hTL : d.ts.length = NT := HTS.out
        go_loopw [4, 5, 8] (fun s4 s5 s8 wr => ∃ (k : Nat), k ≤ NT ∧ s8 = .int .i64 (k : Int) ∧ s4 = .bool (false && (d.ts.take k).all (fun t => mayV t.t t.c t.d)) ∧ s5 = .int .i64 ((n0 : Int) + (outT (d.ts.take k) : Int)) ∧ Below x.heap.size x wr) (fun _ _ s8 _ => NT - (intOf s8).toNat)
        case atStart => exact ⟨0, by omega, rfl, by simp, by simp [outT], Below.refl _ _⟩
        case round =>
          obtain ⟨k, hk, rfl, rfl, rfl, hbt⟩ := hrel
          have HBT := Lib.hid hbt
          clear hbt
          have R7t := Lib.hid ((HBT.out.block _ (row_lt R7.out)).trans R7.out)
          have q0 := row_cell (v := .slice At NT ct) R7t.out 0 rfl
          by_cases hkn : k < NT
          case neg =>
            obtain rfl : k = NT := by omega
            have e4 : (false && (d.ts.take k).all (fun t => mayV t.t t.c t.d)) = (L.take (i + 1)).all mayS := by rw [HTM.out, HMD.out, List.take_of_length_le (by omega)]; first | rfl | simp
            have e5 : (n0 : Int) + (outT (d.ts.take k) : Int) = (outL (L.take (i + 1)) : Int) := by rw [HTO.out, List.take_of_length_le (by omega)]; have := HOB.out; rw [this]; push_cast; omega
            have HE4 := Lib.hid e4
            have HE5 := Lib.hid e5
            clear e4 e5
            go_wp2_with fail
            go_roundw
            case rel => exact ⟨i + 1, by omega, rfl, congrArg _ HE4.out, congrArg _ HE5.out, HB7.out.trans (HBT.out.mono HB7.out.size)⟩
            case measure => simp only [intOf]; omega
          have k1 : (k : Int) < (NT : Int) := by omega
          have hkt : k < d.ts.length := by omega
          obtain ⟨b2, off2, rfl, hb2, hbs2, hc2⟩ := (HD7.out.keep HBT.out).tg.at_ (by omega)
          obtain ⟨Ad2, cd2, hr2, hsl2, hby2, _⟩ := hc2 k hkt
          have hdl := HS4.out _ (List.getElem_mem hkt)
          have HAT := Lib.hid (all_take (P := fun t : Tg => mayV t.t t.c t.d) hkt)
          have HOT := Lib.hid (outT_take hkt)
          have hot : outT (d.ts.take k) ≤ NT := by have h := List.length_filter_le (fun t : Tg => decide (0 < ouE t.t t.c)) (d.ts.take k); rw [List.length_take] at h; have : outT (d.ts.take k) ≤ min k d.ts.length := h; omega
          clear hc2
          generalize d.ts[k] = tg at *
          obtain ⟨tn, tt, tc, td⟩ := tg
          dsimp only at hr2 hsl2 hby2 hdl HAT HOT
          have HV2 := Lib.hid (show RgK wr b2 (off2 + k * 4 + 1) [.int .i64 tt, .int .i64 tc, .slice Ad2 td.length cd2] from ⟨hbs2, rng_tail hr2⟩)
          have HSL := Lib.hid hsl2.sl
          have HE4 := Lib.hid (show (false && (d.ts.take (k + 1)).all (fun t => mayV t.t t.c t.d)) = ((false && (d.ts.take k).all (fun t => mayV t.t t.c t.d)) && mayV tt tc td) by rw [HAT.out, Bool.and_assoc])
          clear hr2 hsl2 HAT
          generalize hom : outT (d.ts.take k) = om at *
          have HOM := Lib.hid hom
          clear hom
          generalize hmm : (false && (d.ts.take k).all (fun t => mayV t.t t.c t.d)) = mm at *
          clear hmm
          have HMV := Lib.hid (fun W h => vmay_any tt tc Ad2 td cd2 W h (by omega) hby2)
          cases mm with
          | true =>
            go_wp2_with ((with_reducible refine wpl_loadv rtVl ?_ (.tmp 56) ?_ b2 (off2 + k * 4 + 1) ?_ [.int .i64 tt, .int .i64 tc, .slice Ad2 td.length cd2] ?_ HV2.out.rng ?_); rfl; rfl; rfl; rfl; simp only [Act.put, List.setIfInBounds_toArray, List.set_cons_succ, List.set_cons_zero])
            clear q0
            refine (HMV.out _ HSL.out).mono ?_
            rintro e z1 ⟨rfl, hb⟩
            replace R7t := Lib.hid ((hb.block _ (row_lt R7t.out)).trans R7t.out)
            replace HV2 := Lib.hid (HV2.out.keep hb)
            replace HBT := Lib.hid (HBT.out.trans (hb.mono HBT.out.size))
            clear hb
            go_wp2_with fail
            clear HMV HSL
            have LTV := HV2.out.1
            have LT_R7t : _ < z1.heap.size := row_lt R7t.out
            have SZ : z1.heap.size ≤ z1.drew.heap.size := Nat.le_refl _
            have hb := ud' (brefl z1)
            replace R7t := Lib.hid ((hb.block _ (row_lt R7t.out)).trans R7t.out)
            replace HV2 := Lib.hid (HV2.out.keep hb)
            replace HBT := Lib.hid (HBT.out.trans (hb.mono HBT.out.size))
            clear hb
            refine Tin.reg_begin (z1.heap.size) 16 (by rfl) (by kernel_rfl) ?_
            have q6 : ∀ p : Bel (z1.heap.size) z1.drew, p.w'.cell? ⟨b2, off2 + k * 4 + 1, none⟩ = some (.int .i64 tt) := fun p => (rng_below p.h LTV HV2.out.2) 0 _ rfl
            have q7 : ∀ p : Bel (z1.heap.size) z1.drew, p.w'.cell? ⟨b2, off2 + k * 4 + 1 + 1, none⟩ = some (.int .i64 tc) := fun p => (rng_below p.h LTV HV2.out.2) 1 _ rfl
            have q0 : ∀ p : Bel (z1.heap.size) z1.drew, p.w'.cell? ⟨g7, 0, none⟩ = some (.slice (some ⟨b2, off2, none⟩) NT ct) := fun p => row_cell ((p.h.block _ LT_R7t).trans R7t.out) 0 rfl
            refine Tin.reg_quiets [0, 1, 2, 3, 4, 5, 6, 7, 8, 9, 10, 11, 12, 13] _ 2 rfl (by simp only [Tin.pick, List.map_cons, List.map_nil, Array.getD_eq_getD_getElem?, List.getElem?_toArray, List.getElem?_cons_zero, List.getElem?_cons_succ, Option.getD_some]; rfl) (by kernel_rfl) (by kernel_rfl) ?_
            repeat (first | go_big_quiet_step (fail))
            refine wpQuiet_nil ?_
            clear q0
            clear q6 q7
            refine Tin.reg_one 14 _ rfl (by kernel_rfl) ?_
            try simp only [List.getElem_toArray, List.getElem_cons_succ, List.getElem_cons_zero]
            go_wp2_with fail
            refine (out_any tt tc _).mono ?_
            rintro e z2 ⟨rfl, hv⟩
            go_wp2_with fail
            refine ⟨z1.heap.size, hv.mono SZ, Nat.le_refl _, ?_⟩
            replace R7t := Lib.hid ((hv.block _ (row_lt R7t.out)).trans R7t.out)
            replace HV2 := Lib.hid (HV2.out.keep hv)
            replace HBT := Lib.hid (HBT.out.trans (hv.mono HBT.out.size))
            replace SZ := Nat.le_trans SZ hv.size
            clear hv
            refine Tin.reg_quiets [15] _ 0 rfl (by simp only [Tin.pick, List.map_cons, List.map_nil, Array.getD_eq_getD_getElem?, List.getElem?_toArray, List.getElem?_cons_zero, List.getElem?_cons_succ, Option.getD_some]; rfl) (by kernel_rfl) (by kernel_rfl) ?_
            repeat (first | go_big_quiet_step (fail))
            refine wpQuiet_nil ?_
            refine Tin.reg_done (by kernel_rfl) ?_
            by_cases h6 : 0 < ouE tt tc
            · have HO6 := Lib.hid (show (n0 : Int) + (outT (d.ts.take (k + 1)) : Int) = (n0 : Int) + (om : Int) + 1 by rw [HOT.out, if_pos h6]; push_cast; omega)
              clear HOT
              go_wp2_with fail
              exact ⟨⟨k + 1, by omega, rfl, by rw [HE4.out]; simp, by rw [HO6.out], HBT.out⟩, by simp only [intOf]; omega⟩
            · have HO6 := Lib.hid (show (n0 : Int) + (outT (d.ts.take (k + 1)) : Int) = (n0 : Int) + (om : Int) by rw [HOT.out, if_neg h6]; push_cast; omega)
              clear HOT
              go_wp2_with fail
              exact ⟨⟨k + 1, by omega, rfl, by rw [HE4.out]; simp, by rw [HO6.out], HBT.out⟩, by simp only [intOf]; omega⟩
          | false =>
            go_wp2_with fail
            clear q0
            clear HMV HSL
            have LTV := HV2.out.1
            have LT_R7t : _ < wr.heap.size := row_lt R7t.out
            have SZ : wr.heap.size ≤ wr.drew.heap.size := Nat.le_refl _
            have hb := ud' (brefl wr)
            replace R7t := Lib.hid ((hb.block _ (row_lt R7t.out)).trans R7t.out)
            replace HV2 := Lib.hid (HV2.out.keep hb)
            replace HBT := Lib.hid (HBT.out.trans (hb.mono HBT.out.size))
            clear hb
            refine Tin.reg_begin (wr.heap.size) 16 (by rfl) (by kernel_rfl) ?_
            have q6 : ∀ p : Bel (wr.heap.size) wr.drew, p.w'.cell? ⟨b2, off2 + k * 4 + 1, none⟩ = some (.int .i64 tt) := fun p => (rng_below p.h LTV HV2.out.2) 0 _ rfl
            have q7 : ∀ p : Bel (wr.heap.size) wr.drew, p.w'.cell? ⟨b2, off2 + k * 4 + 1 + 1, none⟩ = some (.int .i64 tc) := fun p => (rng_below p.h LTV HV2.out.2) 1 _ rfl
            have q0 : ∀ p : Bel (wr.heap.size) wr.drew, p.w'.cell? ⟨g7, 0, none⟩ = some (.slice (some ⟨b2, off2, none⟩) NT ct) := fun p => row_cell ((p.h.block _ LT_R7t).trans R7t.out) 0 rfl
            refine Tin.reg_quiets [0, 1, 2, 3, 4, 5, 6, 7, 8, 9, 10, 11, 12, 13] _ 2 rfl (by simp only [Tin.pick, List.map_cons, List.map_nil, Array.getD_eq_getD_getElem?, List.getElem?_toArray, List.getElem?_cons_zero, List.getElem?_cons_succ, Option.getD_some]; rfl) (by kernel_rfl) (by kernel_rfl) ?_
            repeat (first | go_big_quiet_step (fail))
            refine wpQuiet_nil ?_
            clear q0
            clear q6 q7
            refine Tin.reg_one 14 _ rfl (by kernel_rfl) ?_
            try simp only [List.getElem_toArray, List.getElem_cons_succ, List.getElem_cons_zero]
            go_wp2_with fail
            refine (out_any tt tc _).mono ?_
            rintro e z1 ⟨rfl, hv⟩
            go_wp2_with fail
            refine ⟨wr.heap.size, hv.mono SZ, Nat.le_refl _, ?_⟩
            replace R7t := Lib.hid ((hv.block _ (row_lt R7t.out)).trans R7t.out)
            replace HV2 := Lib.hid (HV2.out.keep hv)
            replace HBT := Lib.hid (HBT.out.trans (hv.mono HBT.out.size))
            replace SZ := Nat.le_trans SZ hv.size
            clear hv
            refine Tin.reg_quiets [15] _ 0 rfl (by simp only [Tin.pick, List.map_cons, List.map_nil, Array.getD_eq_getD_getElem?, List.getElem?_toArray, List.getElem?_cons_zero, List.getElem?_cons_succ, Option.getD_some]; rfl) (by kernel_rfl) (by kernel_rfl) ?_
            repeat (first | go_big_quiet_step (fail))
            refine wpQuiet_nil ?_
            refine Tin.reg_done (by kernel_rfl) ?_
            by_cases h6 : 0 < ouE tt tc
            · have HO6 := Lib.hid (show (n0 : Int) + (outT (d.ts.take (k + 1)) : Int) = (n0 : Int) + (om : Int) + 1 by rw [HOT.out, if_pos h6]; push_cast; omega)
              clear HOT
              go_wp2_with fail
              exact ⟨⟨k + 1, by omega, rfl, by rw [HE4.out]; simp, by rw [HO6.out], HBT.out⟩, by simp only [intOf]; omega⟩
            · have HO6 := Lib.hid (show (n0 : Int) + (outT (d.ts.take (k + 1)) : Int) = (n0 : Int) + (om : Int) by rw [HOT.out, if_neg h6]; push_cast; omega)
              clear HOT
              go_wp2_with fail
              exact ⟨⟨k + 1, by omega, rfl, by rw [HE4.out]; simp, by rw [HO6.out], HBT.out⟩, by simp only [intOf]; omega⟩
end Go.Proofs.Ytkepbobnjplpoaa
