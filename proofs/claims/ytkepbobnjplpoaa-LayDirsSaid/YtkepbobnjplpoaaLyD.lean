/- The contract of dir: the spots of a directory, and of all within it. -/
import Derived.Test.YtkepbobnjplpoaaLyC
namespace Go.Proofs.Ytkepbobnjplpoaa
open Go.RowKit
open Go.Tin
set_option linter.unusedVariables false
set_option linter.unusedSimpArgs false


theorem rtSb : RT Try.prog 79 4 := RT.of Try.underlying79 rfl (by kernel_rfl)
theorem FoS.at_ {w : World} {p : Nat → Prop} {k : Bool} {A : Option Addr} {f : Fo} (h : FoS w p k A f) (hl : 0 < f.len) :
    ∃ b off, A = some ⟨b, off, none⟩ ∧ p b ∧ b < w.heap.size ∧ ∀ i, i < f.len → ∃ At ct As cs Ab cb, w.rangeAt b (off + i * wid k) (hdc k (f.elem i).tag ++ [.slice At (f.elem i).d.ts.length ct, .slice As (f.elem i).d.sub.len cs, .slice Ab (f.elem i).d.bl.length cb]) ∧ DiP w p At As Ab (f.elem i).d := by
  obtain ⟨xs, h1, h2⟩ := h
  have hx := FoV.len f h2
  have hw : 0 < wid k := by cases k <;> decide
  rcases h1 with h0 | ⟨b, off, rfl, hp, hb, hc⟩
  · rw [h0] at hx
    have := Nat.mul_pos hl hw
    simp at hx; omega
  refine ⟨b, off, rfl, hp, hb, fun i hi => ?_⟩
  obtain ⟨At, ct, As, cs, Ab, cb, hv, h4⟩ := h2.at_ i hi
  refine ⟨At, ct, As, cs, Ab, cb, ?_, h4⟩
  have hle : i * wid k + wid k ≤ f.len * wid k := by rw [← Nat.succ_mul]; exact Nat.mul_le_mul_right _ hi
  have := SlV.rng (w := w) (b := b) (off := off) (xs := xs) (.inr ⟨b, off, rfl, hb, hc⟩) (i * wid k) (wid k) (by rw [hx]; omega)
  rw [hv] at this
  exact this
theorem rng_tail {w : World} {b o : Nat} {x : Value} {xs : List Value} (h : w.rangeAt b o (x :: xs)) : w.rangeAt b (o + 1) xs := fun j v hj => by
  have := h (j + 1) v hj
  rw [show o + 1 + j = o + (j + 1) by omega]
  exact this
/-- The spots of one directory. -/
def dirL (l : List Sp) (no : Nat) (d : Di) : List Sp := blobL (layF (tagsL (wth l 2 no 0 (6 + 12 * (entN d.ts d.bl d.sub : Int))) no d.ts) (no + 1) d.sub) no d.bl
theorem layF_one (l : List Sp) (no : Nat) (e : El) (r : Fo) : layF l no (one e r) = layF (dirL l no e.d) (no + 1 + e.d.sub.cnt) r := rfl
theorem Fo.elem_cnt : ∀ (i : Nat) (f : Fo), i < f.len → (f.elem i).d.sub.cnt < f.cnt
  | _, .nil, h => by simp [len] at h
  | 0, .cons _ _ _ s r, _ => by simp only [elem, cnt]; omega
  | i + 1, .cons _ _ _ s r, h => by
    have := elem_cnt i r (by simpa [len] using h)
    simp only [elem, cnt]; omega
theorem one_cnt (e : El) (r : Fo) : (one e r).cnt = e.d.sub.cnt + 1 + r.cnt := rfl
def smD (d : Di) : Prop := d.ts.length ≤ 60 ∧ d.bl.length ≤ 600 ∧ d.sub.len ≤ 6 ∧ (∀ t ∈ d.ts, t.d.length ≤ 600) ∧ smF d.sub
theorem smF_elem : ∀ (i : Nat) (f : Fo), smF f → i < f.len → smD (f.elem i).d
  | _, .nil, _, h => by simp [Fo.len] at h
  | 0, .cons _ _ _ s r, hs, _ => ⟨hs.1, hs.2.1, hs.2.2.1, hs.2.2.2.1, hs.2.2.2.2.1⟩
  | i + 1, .cons _ _ _ s r, hs, h => smF_elem i r hs.2.2.2.2.2 (by simpa [Fo.len] using h)
theorem Fo.drop_cnt : ∀ (i : Nat) (f : Fo), (f.drop i).cnt ≤ f.cnt
  | 0, f => Nat.le_refl _
  | i + 1, .nil => Nat.le_refl _
  | i + 1, .cons _ _ _ s r => by
    have := drop_cnt i r
    simp only [drop, cnt]; omega
theorem dirL_bd (l : List Sp) (no : Nat) (d : Di) (h : smD d) : endL l ≤ endL (dirL l no d) ∧ endL (dirL l no d) ≤ endL l + 100000000 * ((d.sub.cnt : Int) + 1) ∧ l.length ≤ (dirL l no d).length ∧ (dirL l no d).length ≤ l.length + 62 * (d.sub.cnt + 1) := by
  have h1 := layF_bd (.cons 0 d.ts d.bl d.sub .nil) l no ⟨h.1, h.2.1, h.2.2.1, h.2.2.2.1, h.2.2.2.2, trivial⟩
  have e : layF l no (.cons 0 d.ts d.bl d.sub .nil) = dirL l no d := rfl
  rw [e] at h1
  simp only [Fo.cnt] at h1
  push_cast at h1
  omega
theorem Pl.next {B : Nat} {w : World} {g : Nat} {l : List Sp} {no : Int} (h : Pl B w g l no) (v : Int) : Pl B (w.setCell ⟨g, 1, none⟩ (.int .i64 v)) g l v := by
  obtain ⟨A, c, h1, h2⟩ := h.at_
  exact ⟨h.low, A, c, row_set h1 1 _, h2.kept (gr_set w g 1 _) (own_row_types h2 h1 (by decide))⟩
theorem DiP.bel {B : Nat} {w w' : World} {At As Ab : Option Addr} {d : Di} (h : DiP w (· < B) At As Ab d) (hb : Below B w w') : DiP w' (· < B) At As Ab d := h.keep (Kp.below hb fun _ _ h => h)
set_option maxRecDepth 100000 in
set_option maxHeartbeats 8000000 in
theorem dir_any : ∀ (n : Nat) (B g : Nat) (l : List Sp) (no : Nat) (At As Ab : Option Addr) (ct cs cb : Nat) (d : Di) (w : World), d.sub.cnt < n → Pl B w g l no → DiP w (· < B) At As Ab d → smD d → 0 ≤ endL l → endL l + 100000000 * ((d.sub.cnt : Int) + 1) ≤ 10000000000000 → l.length + 62 * (d.sub.cnt + 1) ≤ 100000000 → no + d.sub.cnt + 1 ≤ 100000000 →
    Calls Try.prog 32 #[.pointer (some ⟨g, 0, none⟩), .agg #[.slice At d.ts.length ct, .slice As d.sub.len cs, .slice Ab d.bl.length cb]] w fun e w' => e = .returned (.tuple #[]) ∧ Pl B w' g (dirL l no d) ((no + 1 + d.sub.cnt : Nat) : Int) ∧ Below B w w' ∧ Nsp g w w' := by
  intro n
  induction n with
  | zero => intro B g l no At As Ab ct cs cb d w h; omega
  | succ n ih =>
  intro B g l no At As Ab ct cs cb d w hcnt hp hd hsm he0 he1 hl hno
  have IH := Lib.hid ih
  clear ih
  have HD := Lib.hid (show dirL l no d = blobL (layF (tagsL (wth l 2 no 0 (6 + 12 * (entN d.ts d.bl d.sub : Int))) no d.ts) (no + 1) d.sub) no d.bl from rfl)
  obtain ⟨s1, s2, s3, _, s5⟩ := hsm
  have hSZ : B ≤ w.heap.size := Nat.le_of_lt hp.lt
  obtain ⟨A0, c0, hrow0, _⟩ := hp.at_
  have hgw : g < w.heap.size := row_lt hrow0
  have hb0 := ba (brefl w) (.cells (drow At d.ts.length ct As d.sub.len cs Ab d.bl.length cb) 42)
  have R3 := Lib.hid (heap_alloc_new w (.cells (drow At d.ts.length ct As d.sub.len cs Ab d.bl.length cb) 42))
  have HP := Lib.hid (hp.keep hb0)
  have HB := Lib.hid (hb0.mono hSZ)
  have HN := Lib.hid (Nsp.of_bel (g := g) hb0)
  have HDP := Lib.hid hd
  have HEN := Lib.hid (entV_N d.ts d.bl d.sub)
  have hent := entN_bd (bl := d.bl) s1 s3
  have hrow1 := (hb0.block _ hgw).trans hrow0
  have k1 := row_cell (v := .int .i64 (no : Int)) hrow1 1 rfl
  have y1 := frozen_of_row _ g 1 _ _ hrow1
  have q0 := row_cell (v := .slice At d.ts.length ct) R3.out 0 rfl
  have q1 := row_cell (v := .slice As d.sub.len cs) R3.out 1 rfl
  have q2 := row_cell (v := .slice Ab d.bl.length cb) R3.out 2 rfl
  have hpa := hp.next ((no : Int) + 1)
  have hba := grown_below (Below.refl B w) (gr_set w g 1 (.int .i64 ((no : Int) + 1))) hSZ (fun k hk => by cases hk; exact hp.low)
  have hsa : (w.setCell ⟨g, 1, none⟩ (.int .i64 ((no : Int) + 1))).heap.size = w.heap.size := by simp [World.setCell]
  have hbb := ba (brefl (w.setCell ⟨g, 1, none⟩ (.int .i64 ((no : Int) + 1)))) (.cells (drow At d.ts.length ct As d.sub.len cs Ab d.bl.length cb) 42)
  have HP1 := Lib.hid (hpa.keep hbb)
  have HB1 := Lib.hid (hba.trans (hbb.mono (Nat.le_of_lt hpa.lt)))
  have HN1 := Lib.hid ((Nsp.of_g (gr_set w g 1 (.int .i64 ((no : Int) + 1)))).trans (Nsp.of_bel (g := g) hbb))
  have hr31 := heap_alloc_new (w.setCell ⟨g, 1, none⟩ (.int .i64 ((no : Int) + 1))) (.cells (drow At d.ts.length ct As d.sub.len cs Ab d.bl.length cb) 42)
  rw [hsa] at hr31
  have R31 := Lib.hid hr31
  clear hpa hba hsa hbb hr31
  clear hrow0 hrow1 hb0 hp hd
  generalize hsub : d.sub.len = NS at *
  generalize hts : d.ts.length = NT at *
  generalize hbl : d.bl.length = NB at *
  have HSUB := Lib.hid hsub
  have HTS := Lib.hid hts
  have HBL := Lib.hid hbl
  clear hsub hts hbl
  generalize hcn : d.sub.cnt = CN at *
  have HCN := Lib.hid hcn
  clear hcn
  generalize entN d.ts d.bl d.sub = EN at *
  have HSM := Lib.hid s5
  clear s5
  have LDI : ∀ (W : World), W.heap[w.heap.size]? = some (.cells (drow At NT ct As NS cs Ab NB cb) 42 (0, 0)) → W.heap[w.heap.size]? = some (.cells (drow At NT ct As NS cs Ab NB cb) 42 (0, 0)) := fun _ h => h
  have hneg : w.heap.size ≠ g := by omega
  go_enter Try.func32, Try.ntmps32
  go_wp2_with ((with_reducible refine wpl_load_row rtDi ?_ (.tmp 3) ?_ (w.heap.size) ?_ 42 (drow At NT ct As NS cs Ab NB cb) ?_ R31.out ?_); rfl; rfl; rfl; rfl; simp only [Act.put, List.setIfInBounds_toArray, List.set_cons_succ, List.set_cons_zero])
  clear k1 y1 q0 q1 q2 HP HB HN R3
  generalize (w.setCell ⟨g, 1, none⟩ (.int .i64 ((no : Int) + 1))).alloc (.cells (drow At NT ct As NS cs Ab NB cb) 42) = w1 at *
  refine (lent_any At As Ab NT ct NS cs NB cb _ (by omega) (by omega)).mono ?_
  rintro e w2 ⟨rfl, hb⟩
  rw [HEN.out]
  replace R31 := Lib.hid ((hb.block _ (row_lt R31.out)).trans R31.out)
  replace HN1 := Lib.hid (HN1.out.trans (Nsp.of_bel hb))
  replace HB1 := Lib.hid (HB1.out.trans (hb.mono (Nat.le_of_lt HP1.out.lt)))
  replace HP1 := Lib.hid (HP1.out.keep hb)
  clear hb
  have e6 : 2 + 12 * (EN : Int) + 4 = 6 + 12 * (EN : Int) := by omega
  have E6 := Lib.hid e6
  clear e6
  go_wp2_with fail
  refine (put_any B g l _ 2 no 0 (2 + 12 * (EN : Int) + 4) _ HP1.out he0 (by omega) (by omega) (by omega) (by omega)).mono ?_
  rintro e w3 ⟨rfl, hp, hb, hn⟩
  rw [E6.out] at hp
  replace R31 := Lib.hid (hn.row R31.out hneg (by decide))
  replace HN1 := Lib.hid (HN1.out.trans hn)
  replace HB1 := Lib.hid (HB1.out.trans hb)
  have HL1 := Lib.hid (show endL (wth l 2 no 0 (6 + 12 * (EN : Int))) ≤ endL l + 1000 ∧ 0 ≤ endL (wth l 2 no 0 (6 + 12 * (EN : Int))) ∧ (wth l 2 no 0 (6 + 12 * (EN : Int))).length = l.length + 1 by
    rw [endL_wth, wth_len]
    have := evenN_bd (endL l)
    omega)
  generalize wth l 2 no 0 (6 + 12 * (EN : Int)) = l1 at *
  replace HP1 := Lib.hid hp
  clear hp hb hn E6 HEN
  obtain ⟨h11, h12, h13⟩ := HL1.out
  go_wp2_with ((with_reducible refine wpl_load_row rtDi ?_ (.tmp 3) ?_ (w.heap.size) ?_ 42 (drow At NT ct As NS cs Ab NB cb) ?_ R31.out ?_); rfl; rfl; rfl; rfl; simp only [Act.put, List.setIfInBounds_toArray, List.set_cons_succ, List.set_cons_zero])
  have hva := values_any B g l1 ((no : Int) + 1) no At As Ab ct NS cs NB cb d.ts _ HP1.out ((HDP.out.tg).keep (Kp.below HB1.out fun _ _ h => h)) (by rw [HTS.out]; omega) h12 (by rw [HTS.out]; omega) (by rw [HTS.out]; omega)
  rw [HTS.out] at hva
  refine hva.mono ?_
  clear hva
  rintro e w4 ⟨rfl, hp, hb, hn⟩
  replace R31 := Lib.hid (hn.row R31.out hneg (by decide))
  replace HN1 := Lib.hid (HN1.out.trans hn)
  replace HB1 := Lib.hid (HB1.out.trans hb)
  have t1 := tagsL_end l1 no d.ts
  have t2 := tagsL_len l1 no d.ts
  rw [HTS.out] at t1 t2
  generalize tagsL l1 no d.ts = l2 at *
  replace HP1 := Lib.hid hp
  clear hp hb hn
  have hl20 : 0 ≤ endL l2 := by omega
  have hl21 : endL l2 ≤ endL l + 61000000 := by omega
  have hl22 : l2.length ≤ l.length + 61 := by omega
  clear t1 t2 h11 h12 h13 HL1
  have q1 := row_cell (v := .slice As NS cs) R31.out 1 rfl
  go_wp2_with fail
  clear q1
  have hsu := HDP.out.su.keep (Kp.below HB1.out fun _ _ h => h)
  have HSU := Lib.hid hsu
  have HBLB := Lib.hid HDP.out.bl
  clear hsu HDP
  obtain ⟨w5, rfl⟩ : ∃ w5, w5 = w4 := ⟨_, rfl⟩
  go_loopw [35] (fun s35 wr => ∃ (i : Nat) (l' : List Sp) (no' : Nat), i ≤ NS ∧ s35 = .int .i64 (i : Int) ∧ Pl B wr g l' (no' : Int) ∧ Below B w5 wr ∧ Nsp g w5 wr ∧ wr.heap[w.heap.size]? = some (.cells (drow At NT ct As NS cs Ab NB cb) 42 (0, 0)) ∧ layF l2 (no + 1) d.sub = layF l' no' (d.sub.drop i) ∧ no' + (d.sub.drop i).cnt = no + 1 + CN ∧ 0 ≤ endL l' ∧ endL l' + 100000000 * ((d.sub.drop i).cnt : Int) ≤ endL l2 + 100000000 * (CN : Int) ∧ l'.length + 62 * (d.sub.drop i).cnt ≤ l2.length + 62 * CN) (fun s35 _ => NS - (intOf s35).toNat)
  case atStart => exact ⟨0, l2, no + 1, by omega, rfl, HP1.out, Below.refl _ _, Nsp.refl _ _, R31.out, rfl, by rw [Fo.drop, HCN.out], hl20, by rw [Fo.drop, HCN.out]; exact Int.le_refl _, by rw [Fo.drop, HCN.out]; exact Nat.le_refl _⟩
  case round =>
    obtain ⟨i, l', no', hi, rfl, hp, hb, hn, hr3, hlay, hcc, hz0, hz1, hz2⟩ := hrel
    have HPr := Lib.hid hp
    have HBr := Lib.hid hb
    have HNr := Lib.hid hn
    have R3r := Lib.hid hr3
    have HLAY := Lib.hid hlay
    clear hp hb hn hr3 hlay
    by_cases hin : i < NS
    case neg =>
      obtain rfl : i = NS := by omega
      have hnil := Fo.drop_all (f := d.sub) (i := i) (by rw [HSUB.out]; exact Nat.le_refl _)
      rw [hnil] at hcc hz1 hz2 HLAY
      have HCC := Lib.hid (show (no' : Int) = (no : Int) + 1 + (CN : Int) by have : no' = no + 1 + CN := hcc; omega)
      have hz1' : endL l' ≤ endL l2 + 100000000 * (CN : Int) := by simpa [Fo.cnt] using hz1
      have hz2' : l'.length ≤ l2.length + 62 * CN := by simpa [Fo.cnt] using hz2
      have HE := Lib.hid (show dirL l no d = blobL l' no d.bl by rw [HD.out, HLAY.out]; rfl)
      have HBD := Lib.hid (show blobL l' no d.bl = if 0 < d.bl.length then wth l' 4 no 0 d.bl.length else l' from rfl)
      clear hnil hcc hz1 hz2
      have q2 := row_cell (v := .slice Ab NB cb) R3r.out 2 rfl
      by_cases h0 : 0 < NB
      · have i0 : (0 : Int) < (NB : Int) := by omega
        go_wp2_with fail
        clear q2
        refine (put_any B g l' (no' : Int) 4 no 0 NB _ HPr.out hz0 (by omega) (by omega) (by omega) (by omega)).mono ?_
        rintro e w6 ⟨rfl, hp6, hb6, hn6⟩
        go_wp2_with fail
        go_end0
        refine ⟨rfl, ?_, HB1.out.trans (HBr.out.trans hb6), HN1.out.trans (HNr.out.trans hn6)⟩
        rw [HE.out, HBD.out, HBL.out, if_pos h0]
        try push_cast
        rw [← HCC.out]
        exact hp6
      · have i0 : ¬ (0 : Int) < (NB : Int) := by omega
        go_wp2_with fail
        go_end0
        refine ⟨rfl, ?_, HB1.out.trans HBr.out, HN1.out.trans HNr.out⟩
        rw [HE.out, HBD.out, HBL.out, if_neg h0]
        try push_cast
        rw [← HCC.out]
        exact HPr.out
    have i1 : (i : Int) < (NS : Int) := by omega
    have hif : i < d.sub.len := by rw [HSUB.out]; exact hin
    obtain ⟨b, off, rfl, hpb, hbs, hc⟩ := HSU.out.at_ (by omega)
    obtain ⟨At', ct', As', cs', Ab', cb', hr0, hdi⟩ := hc i hif
    have hd1 := Fo.drop_at i d.sub hif
    have hce := Fo.elem_cnt i d.sub hif
    have hse := smF_elem i d.sub HSM.out hif
    rw [HCN.out] at hce
    have HRG := Lib.hid (rng_below HBr.out hpb hr0)
    have HDI := Lib.hid (hdi.bel HBr.out)
    rw [hd1, one_cnt] at hcc hz1 hz2
    rw [hd1, layF_one] at HLAY
    have hdb := dirL_bd l' no' _ hse
    have HSE := Lib.hid hse
    clear hc hr0 hdi hd1 hse
    generalize d.sub.elem i = el at *
    obtain ⟨etag, ed⟩ := el
    dsimp only at hcc hz1 hz2 hce
    dsimp only at HRG HDI HLAY hdb HSE
    push_cast at hz1
    replace HRG := Lib.hid (show wr.rangeAt b (off + i * 4) [.int .i64 etag, .slice At' ed.ts.length ct', .slice As' ed.sub.len cs', .slice Ab' ed.bl.length cb'] from HRG.out)
    have RB := Lib.hid (heap_alloc_new wr (.cells #[.int .i64 etag, .slice At' ed.ts.length ct', .slice As' ed.sub.len cs', .slice Ab' ed.bl.length cb'] 79))
    have hba := ba (brefl wr) (.cells #[.int .i64 etag, .slice At' ed.ts.length ct', .slice As' ed.sub.len cs', .slice Ab' ed.bl.length cb'] 79)
    have hBr : B ≤ wr.heap.size := Nat.le_of_lt HPr.out.lt
    have RBV := Lib.hid (rng_tail (SlV.rng (SlV.new_ wr 79 #[.int .i64 etag, .slice At' ed.ts.length ct', .slice As' ed.sub.len cs', .slice Ab' ed.bl.length cb']) 0 4 (Nat.le_refl _)))
    replace HPr := Lib.hid (HPr.out.keep hba)
    replace HDI := Lib.hid (HDI.out.bel (hba.mono hBr))
    replace HBr := Lib.hid (HBr.out.trans (hba.mono hBr))
    replace HNr := Lib.hid (HNr.out.trans (Nsp.of_bel hba))
    replace R3r := Lib.hid ((hba.block _ (row_lt R3r.out)).trans R3r.out)
    clear hba hBr
    go_wp2_with (first | ((with_reducible refine wpl_loadv rtSb ?_ (.tmp 37) ?_ b (off + i * 4) ?_ [.int .i64 etag, .slice At' ed.ts.length ct', .slice As' ed.sub.len cs', .slice Ab' ed.bl.length cb'] ?_ HRG.out ?_); rfl; rfl; rfl; rfl; simp only [Act.put, List.setIfInBounds_toArray, List.set_cons_succ, List.set_cons_zero]) | ((with_reducible refine wpl_loadv rtDi ?_ (.tmp 40) ?_ (wr.heap.size) 1 ?_ [.slice At' ed.ts.length ct', .slice As' ed.sub.len cs', .slice Ab' ed.bl.length cb'] ?_ RBV.out ?_); rfl; rfl; rfl; rfl; simp only [Act.put, List.setIfInBounds_toArray, List.set_cons_succ, List.set_cons_zero]))
    refine (IH.out B g l' no' At' As' Ab' ct' cs' cb' ed _ (by omega) HPr.out HDI.out HSE.out hz0 (by omega) (by omega) (by omega)).mono ?_
    rintro e w6 ⟨rfl, hp6, hb6, hn6⟩
    replace R3r := Lib.hid (hn6.row R3r.out hneg (by decide))
    go_wp2_with fail
    exact ⟨⟨i + 1, _, no' + 1 + ed.sub.cnt, by omega, rfl, by first | exact hp6 | exact_mod_cast hp6, HBr.out.trans hb6, HNr.out.trans hn6, R3r.out, HLAY.out, by omega, by omega, by omega, by omega⟩, by simp only [intOf]; omega⟩
end Go.Proofs.Ytkepbobnjplpoaa
