/- The same tags, the same directory, the same tree: the reference's Tags, Dir, Same. -/
import Derived.Test.YtkepbobnjplpoaaLzJ
import Derived.Test.YtkepbobnjplpoaaTy
namespace Go.Proofs.Ytkepbobnjplpoaa
open Go.RowKit
open Go.Tin
set_option linter.unusedVariables false
set_option linter.unusedSimpArgs false


def TgK (w : World) (A : Option Addr) (ts : List Tg) : Prop := TgS w (· < w.heap.size) A ts
theorem TgK.keep {w w' : World} {A : Option Addr} {ts : List Tg} (h : TgK w A ts) (hb : Below w.heap.size w w') : TgK w' A ts := (TgS.keep h (Kp.below hb fun _ _ h => h)).mono fun b _ h => Nat.lt_of_lt_of_le h hb.size
theorem smV_refl (t c : Int) (l : List Int) : smV t c l t c l = true := by unfold smV; simp
def FsK (w : World) (A : Option Addr) (f : Fo) : Prop := FoS w (· < w.heap.size) true A f
theorem FsK.keep {w w' : World} {A : Option Addr} {f : Fo} (h : FsK w A f) (hb : Below w.heap.size w w') : FsK w' A f := (FoS.bel h hb).mono fun b _ h => Nat.lt_of_lt_of_le h hb.size
set_option maxRecDepth 100000 in
set_option maxHeartbeats 8000000 in
theorem tags_same (A A' : Option Addr) (c c' : Nat) (ts : List Tg) (w : World) (hs : TgK w A ts) (ht : TgK w A' ts) (hl : ts.length ≤ 1000000) (hd : ∀ t ∈ ts, t.d.length ≤ 1000000) :
    Calls Try.prog 40 #[.slice A ts.length c, .slice A' ts.length c'] w fun e w' => e = .returned (.bool true) ∧ Below w.heap.size w w' := by
  have HS := Lib.hid hs
  have HT := Lib.hid ht
  have HD := Lib.hid hd
  clear hs ht hd
  generalize hn : ts.length = n at *
  have HN := Lib.hid hn
  clear hn
  have nn : ((n : Int) == (n : Int)) = true := by rw [beq_iff_eq]
  go_enter Try.func40, Try.ntmps40
  go_wp2_with fail
  go_loopw [5] (fun s5 wr => ∃ i : Nat, i ≤ n ∧ s5 = .int .i64 (i : Int) ∧ Below w.heap.size w wr) (fun s5 _ => n - (intOf s5).toNat)
  case atStart => exact ⟨0, by omega, rfl, brefl w⟩
  case round =>
    obtain ⟨i, hi, rfl, hb⟩ := hrel
    have HB := Lib.hid hb
    clear nn
    by_cases hin : i < n
    case neg =>
      obtain rfl : i = n := by omega
      clear hb
      go_wp2_with fail
      go_ret
      exact ⟨rfl, HB.out⟩
    have i1 : (i : Int) < (n : Int) := by omega
    have hil : i < ts.length := by rw [HN.out]; exact hin
    obtain ⟨b, off, rfl, _, hb1, hc1⟩ := (HS.out.keep hb).at_ (by omega)
    obtain ⟨b', off', rfl, _, hb2, hc2⟩ := (HT.out.keep hb).at_ (by omega)
    obtain ⟨d1, e1, hr1, hs1, _⟩ := hc1 i hil
    obtain ⟨d2, e2, hr2, hs2, _⟩ := hc2 i hil
    have hdl := HD.out _ (List.getElem_mem hil)
    clear hb hc1 hc2
    generalize ts[i] = t at *
    obtain ⟨tn, tt, tc, td⟩ := t
    dsimp only at hr1 hr2 hs1 hs2 hdl
    have E1 := Lib.hid (show RgK wr b (off + i * 4) [.int .i64 tn, .int .i64 tt, .int .i64 tc, .slice d1 td.length e1] from ⟨hb1, hr1⟩)
    have E2 := Lib.hid (show RgK wr b' (off' + i * 4) [.int .i64 tn, .int .i64 tt, .int .i64 tc, .slice d2 td.length e2] from ⟨hb2, hr2⟩)
    have S1 := Lib.hid hs1.sl
    have S2 := Lib.hid hs2.sl
    have HSV := Lib.hid (smV_refl tt tc td)
    clear hr1 hr2 hs1 hs2
    go_wp2_with fail
    have L1 := E1.out.1
    have L2 := E2.out.1
    have SZ : wr.heap.size ≤ wr.drew.heap.size := Nat.le_refl _
    have hb := ud' (brefl wr)
    replace S1 := Lib.hid (S1.out.keep hb)
    replace S2 := Lib.hid (S2.out.keep hb)
    replace E1 := Lib.hid (E1.out.keep hb)
    replace E2 := Lib.hid (E2.out.keep hb)
    replace HB := Lib.hid (HB.out.trans (hb.mono HB.out.size))
    clear hb
    refine Tin.reg_begin (wr.heap.size) 25 (by rfl) (by kernel_rfl) ?_
    have q1 : ∀ p : Bel (wr.heap.size) wr.drew, p.w'.cell? ⟨b, off + i * 4, none⟩ = some (.int .i64 tn) := fun p => (rng_below p.h L1 E1.out.2) 0 _ rfl
    have q2 : ∀ p : Bel (wr.heap.size) wr.drew, p.w'.cell? ⟨b', off' + i * 4, none⟩ = some (.int .i64 tn) := fun p => (rng_below p.h L2 E2.out.2) 0 _ rfl
    refine Tin.reg_quiets [0, 1, 2, 3, 4, 5, 6, 7, 8, 9, 10, 11, 12, 13, 14, 15, 16, 17, 18, 19, 20, 21] _ 3 rfl (by simp only [Tin.pick, List.map_cons, List.map_nil, Array.getD_eq_getD_getElem?, List.getElem?_toArray, List.getElem?_cons_zero, List.getElem?_cons_succ, Option.getD_some]; rfl) (by kernel_rfl) (by kernel_rfl) ?_
    repeat (first | ((with_reducible refine wpq_loadv rtVl ?_ (.tmp 32) ?_ b (off + i * 4 + 1) ?_ [.int .i64 tt, .int .i64 tc, .slice d1 td.length e1] ?_ (fun W h => by obtain ⟨p, rfl⟩ := h; exact rng_tail (rng_below p.h L1 E1.out.rng)) ?_); rfl; rfl; rfl; rfl; simp only [Act.put, List.setIfInBounds_toArray, List.set_cons_succ, List.set_cons_zero]) | ((with_reducible refine wpq_loadv rtVl ?_ (.tmp 37) ?_ b' (off' + i * 4 + 1) ?_ [.int .i64 tt, .int .i64 tc, .slice d2 td.length e2] ?_ (fun W h => by obtain ⟨p, rfl⟩ := h; exact rng_tail (rng_below p.h L2 E2.out.rng)) ?_); rfl; rfl; rfl; rfl; simp only [Act.put, List.setIfInBounds_toArray, List.set_cons_succ, List.set_cons_zero]) | go_big_quiet_step (fail))
    refine wpQuiet_nil ?_
    clear q1 q2
    refine Tin.reg_one 22 _ rfl (by kernel_rfl) ?_
    try simp only [List.getElem_toArray, List.getElem_cons_succ, List.getElem_cons_zero]
    go_wp2_with fail
    refine (rvsame_any tt tc d1 td e1 tt tc d2 td e2 _ S1.out S2.out (by omega) (by omega)).mono ?_
    rintro e v1 ⟨rfl, hv⟩
    rw [HSV.out]
    go_wp2_with fail
    refine ⟨wr.heap.size, hv.mono SZ, Nat.le_refl _, ?_⟩
    replace S1 := Lib.hid (S1.out.keep hv)
    replace S2 := Lib.hid (S2.out.keep hv)
    replace E1 := Lib.hid (E1.out.keep hv)
    replace E2 := Lib.hid (E2.out.keep hv)
    replace HB := Lib.hid (HB.out.trans (hv.mono HB.out.size))
    replace SZ := Nat.le_trans SZ hv.size
    clear hv
    refine Tin.reg_quiets [23, 24] _ 0 rfl (by simp only [Tin.pick, List.map_cons, List.map_nil, Array.getD_eq_getD_getElem?, List.getElem?_toArray, List.getElem?_cons_zero, List.getElem?_cons_succ, Option.getD_some]; rfl) (by kernel_rfl) (by kernel_rfl) ?_
    repeat (first | go_big_quiet_step (fail))
    refine wpQuiet_nil ?_
    refine Tin.reg_done (by kernel_rfl) ?_
    go_wp2_with fail
    exact ⟨⟨i + 1, by omega, rfl, HB.out⟩, by simp only [intOf]; omega⟩
set_option maxRecDepth 100000 in
set_option maxHeartbeats 8000000 in
theorem dir_same : ∀ (n : Nat) (At As Ab : Option Addr) (ct cs cb : Nat) (Bt Bs Bb : Option Addr) (dt ds db : Nat) (d : Di) (w : World), d.sub.cnt < n → DiK w At As Ab d → DiK w Bt Bs Bb d → smD d → d.sub.cnt ≤ 1000000 →
    Calls Try.prog 18 #[.agg #[.slice At d.ts.length ct, .slice As d.sub.len cs, .slice Ab d.bl.length cb], .agg #[.slice Bt d.ts.length dt, .slice Bs d.sub.len ds, .slice Bb d.bl.length db]] w fun e w' => e = .returned (.bool true) ∧ Below w.heap.size w w' := by
  intro n
  induction n with
  | zero => intro At As Ab ct cs cb Bt Bs Bb dt ds db d w h; omega
  | succ n ih =>
  intro At As Ab ct cs cb Bt Bs Bb dt ds db d w hcn ha hb hsm hc6
  have IH := Lib.hid ih
  clear ih
  obtain ⟨s1, s2, s3, s4, s5⟩ := hsm
  have HS4 := Lib.hid s4
  have HS5 := Lib.hid s5
  clear s4 s5
  have b1 := ba (brefl w) (.cells (drow At d.ts.length ct As d.sub.len cs Ab d.bl.length cb) 42)
  have b2 := ba (brefl (w.alloc (.cells (drow At d.ts.length ct As d.sub.len cs Ab d.bl.length cb) 42))) (.cells (drow Bt d.ts.length dt Bs d.sub.len ds Bb d.bl.length db) 42)
  have r1 := heap_alloc_new w (.cells (drow At d.ts.length ct As d.sub.len cs Ab d.bl.length cb) 42)
  have r2 := heap_alloc_new (w.alloc (.cells (drow At d.ts.length ct As d.sub.len cs Ab d.bl.length cb) 42)) (.cells (drow Bt d.ts.length dt Bs d.sub.len ds Bb d.bl.length db) 42)
  rw [World.size_alloc] at r2
  have R2 := Lib.hid ((b2.block _ (row_lt r1)).trans r1)
  have R3 := Lib.hid r2
  have HA := Lib.hid ((ha.keep b1).keep b2)
  have HC := Lib.hid ((hb.keep b1).keep b2)
  have HB := Lib.hid (b1.trans (b2.mono b1.size))
  clear b1 b2 r1 r2 ha hb
  generalize hts : d.ts.length = NT at *
  have HTS := Lib.hid hts
  generalize hsb : d.sub.len = NS at *
  have HSB := Lib.hid hsb
  generalize hbl : d.bl.length = NB at *
  have HBL := Lib.hid hbl
  clear hts hsb hbl
  have q0 := row_cell (v := .slice At NT ct) R2.out 0 rfl
  have q1 := row_cell (v := .slice As NS cs) R2.out 1 rfl
  have q2 := row_cell (v := .slice Ab NB cb) R2.out 2 rfl
  have q3 := row_cell (v := .slice Bt NT dt) R3.out 0 rfl
  have q4 := row_cell (v := .slice Bs NS ds) R3.out 1 rfl
  have q5 := row_cell (v := .slice Bb NB db) R3.out 2 rfl
  have HTG := Lib.hid (fun (W : World) (h1 : TgK W At d.ts) (h2 : TgK W Bt d.ts) => tags_same At Bt ct dt d.ts W h1 h2 (by rw [HTS.out]; omega) (fun t ht => by have := HS4.out t ht; omega))
  rw [HTS.out] at HTG
  have HBY := Lib.hid (fun (W : World) (h1 : Sl .u8 W Ab d.bl) (h2 : Sl .u8 W Bb d.bl) => same_any Ab Bb d.bl d.bl cb db W h1 h2 (by rw [HBL.out]; omega) (by rw [HBL.out]; omega))
  rw [HBL.out, decide_eq_true (rfl : d.bl = d.bl)] at HBY
  have nn : ((NS : Int) == (NS : Int)) = true := by rw [beq_iff_eq]
  go_enter Try.func18, Try.ntmps18
  go_wp2_with fail
  generalize (w.alloc (.cells (drow At NT ct As NS cs Ab NB cb) 42)).alloc (.cells (drow Bt NT dt Bs NS ds Bb NB db) 42) = w1 at *
  clear q0 q1 q2 q3 q4 q5
  refine (HTG.out _ HA.out.tg HC.out.tg).mono ?_
  rintro e v1 ⟨rfl, hb⟩
  replace R2 := Lib.hid ((hb.block _ (row_lt R2.out)).trans R2.out)
  replace R3 := Lib.hid ((hb.block _ (row_lt R3.out)).trans R3.out)
  replace HA := Lib.hid (HA.out.keep hb)
  replace HC := Lib.hid (HC.out.keep hb)
  replace HB := Lib.hid (HB.out.trans (hb.mono HB.out.size))
  clear hb
  clear HTG
  have q0 := row_cell (v := .slice At NT ct) R2.out 0 rfl
  have q1 := row_cell (v := .slice As NS cs) R2.out 1 rfl
  have q2 := row_cell (v := .slice Ab NB cb) R2.out 2 rfl
  have q3 := row_cell (v := .slice Bt NT dt) R3.out 0 rfl
  have q4 := row_cell (v := .slice Bs NS ds) R3.out 1 rfl
  have q5 := row_cell (v := .slice Bb NB db) R3.out 2 rfl
  go_wp2_with fail
  clear q0 q1 q2 q3 q4 q5
  refine (HBY.out _ HA.out.bl.sl HC.out.bl.sl).mono ?_
  rintro e v2 ⟨rfl, hb⟩
  replace R2 := Lib.hid ((hb.block _ (row_lt R2.out)).trans R2.out)
  replace R3 := Lib.hid ((hb.block _ (row_lt R3.out)).trans R3.out)
  replace HA := Lib.hid (HA.out.keep hb)
  replace HC := Lib.hid (HC.out.keep hb)
  replace HB := Lib.hid (HB.out.trans (hb.mono HB.out.size))
  clear hb
  clear HBY
  have q0 := row_cell (v := .slice At NT ct) R2.out 0 rfl
  have q1 := row_cell (v := .slice As NS cs) R2.out 1 rfl
  have q2 := row_cell (v := .slice Ab NB cb) R2.out 2 rfl
  have q3 := row_cell (v := .slice Bt NT dt) R3.out 0 rfl
  have q4 := row_cell (v := .slice Bs NS ds) R3.out 1 rfl
  have q5 := row_cell (v := .slice Bb NB db) R3.out 2 rfl
  go_wp2_with fail
  clear q0 q1 q2 q3 q4 q5 nn
  obtain ⟨v0, hv0⟩ : ∃ v0, v0 = v2 := ⟨_, rfl⟩
  rw [← hv0] at R2 R3 HA HC HB ⊢
  clear hv0
  try simp only [Bool.not_true, Bool.not_false]
  go_loopw [5] (fun s5 wr => ∃ i : Nat, i ≤ NS ∧ s5 = .int .i64 (i : Int) ∧ Below v0.heap.size v0 wr) (fun s5 _ => NS - (intOf s5).toNat)
  case atStart => exact ⟨0, by omega, rfl, Below.refl _ _⟩
  case round =>
    obtain ⟨i, hi, rfl, hbj⟩ := hrel
    have HBJ := Lib.hid hbj
    clear hbj
    have R2r := Lib.hid ((HBJ.out.block _ (row_lt R2.out)).trans R2.out)
    have R3r := Lib.hid ((HBJ.out.block _ (row_lt R3.out)).trans R3.out)
    by_cases hin : i < NS
    case neg =>
      obtain rfl : i = NS := by omega
      have q1 := row_cell (v := .slice As i cs) R2r.out 1 rfl
      go_wp2_with fail
      go_ret
      exact ⟨rfl, HB.out.trans (HBJ.out.mono HB.out.size)⟩
    have i1 : (i : Int) < (NS : Int) := by omega
    have hil : i < d.sub.len := by rw [HSB.out]; exact hin
    obtain ⟨b, off, rfl, _, hb1, hc1⟩ := (HA.out.keep HBJ.out).su.at_ (by omega)
    obtain ⟨b', off', rfl, _, hb2, hc2⟩ := (HC.out.keep HBJ.out).su.at_ (by omega)
    obtain ⟨At1, ct1, As1, cs1, Ab1, cb1, hr1, hd1⟩ := hc1 i hil
    obtain ⟨At2, ct2, As2, cs2, Ab2, cb2, hr2, hd2⟩ := hc2 i hil
    have hse := smF_elem i d.sub HS5.out hil
    have hec := Fo.elem_cnt i d.sub hil
    clear hc1 hc2
    generalize d.sub.elem i = el at *
    obtain ⟨etag, ed⟩ := el
    dsimp only at hr1 hr2 hd1 hd2 hse hec
    have E1 := Lib.hid (show RgK wr b (off + i * 4) [.int .i64 etag, .slice At1 ed.ts.length ct1, .slice As1 ed.sub.len cs1, .slice Ab1 ed.bl.length cb1] from ⟨hb1, hr1⟩)
    have E2 := Lib.hid (show RgK wr b' (off' + i * 4) [.int .i64 etag, .slice At2 ed.ts.length ct2, .slice As2 ed.sub.len cs2, .slice Ab2 ed.bl.length cb2] from ⟨hb2, hr2⟩)
    have D1 := Lib.hid (show DiK wr At1 As1 Ab1 ed from hd1)
    have D2 := Lib.hid (show DiK wr At2 As2 Ab2 ed from hd2)
    clear hr1 hr2 hd1 hd2
    have q1 := row_cell (v := .slice (some ⟨b, off, none⟩) NS cs) R2r.out 1 rfl
    go_wp2_with fail
    clear q1
    have L1 := E1.out.1
    have L2 := E2.out.1
    have LT_R2r : _ < wr.heap.size := row_lt R2r.out
    have LT_R3r : _ < wr.heap.size := row_lt R3r.out
    have SZ : wr.heap.size ≤ wr.drew.heap.size := Nat.le_refl _
    have hb := ud' (brefl wr)
    replace D1 := Lib.hid (D1.out.keep hb)
    replace D2 := Lib.hid (D2.out.keep hb)
    replace E1 := Lib.hid (E1.out.keep hb)
    replace E2 := Lib.hid (E2.out.keep hb)
    replace R2r := Lib.hid ((hb.block _ (row_lt R2r.out)).trans R2r.out)
    replace R3r := Lib.hid ((hb.block _ (row_lt R3r.out)).trans R3r.out)
    replace HBJ := Lib.hid (HBJ.out.trans (hb.mono HBJ.out.size))
    clear hb
    refine Tin.reg_begin (wr.heap.size) 29 (by rfl) (by kernel_rfl) ?_
    have q8 : ∀ p : Bel (wr.heap.size) wr.drew, p.w'.cell? ⟨b, off + i * 4, none⟩ = some (.int .i64 etag) := fun p => (rng_below p.h L1 E1.out.2) 0 _ rfl
    have q9 : ∀ p : Bel (wr.heap.size) wr.drew, p.w'.cell? ⟨b', off' + i * 4, none⟩ = some (.int .i64 etag) := fun p => (rng_below p.h L2 E2.out.2) 0 _ rfl
    have q1 : ∀ p : Bel (wr.heap.size) wr.drew, p.w'.cell? ⟨w.heap.size, 1, none⟩ = some (.slice (some ⟨b, off, none⟩) NS cs) := fun p => row_cell ((p.h.block _ LT_R2r).trans R2r.out) 1 rfl
    have q4 : ∀ p : Bel (wr.heap.size) wr.drew, p.w'.cell? ⟨w.heap.size + 1, 1, none⟩ = some (.slice (some ⟨b', off', none⟩) NS ds) := fun p => row_cell ((p.h.block _ LT_R3r).trans R3r.out) 1 rfl
    refine Tin.reg_quiets [0, 1, 2, 3, 4, 5, 6, 7, 8, 9, 10, 11, 12, 13, 14, 15, 16, 17, 18, 19, 20, 21, 22, 23, 24, 25] _ 3 rfl (by simp only [Tin.pick, List.map_cons, List.map_nil, Array.getD_eq_getD_getElem?, List.getElem?_toArray, List.getElem?_cons_zero, List.getElem?_cons_succ, Option.getD_some]; rfl) (by kernel_rfl) (by kernel_rfl) ?_
    repeat (first | ((with_reducible refine wpq_loadv rtDi ?_ (.tmp 54) ?_ b (off + i * 4 + 1) ?_ [.slice At1 ed.ts.length ct1, .slice As1 ed.sub.len cs1, .slice Ab1 ed.bl.length cb1] ?_ (fun W h => by obtain ⟨p, rfl⟩ := h; exact rng_tail (rng_below p.h L1 E1.out.rng)) ?_); rfl; rfl; rfl; rfl; simp only [Act.put, List.setIfInBounds_toArray, List.set_cons_succ, List.set_cons_zero]) | ((with_reducible refine wpq_loadv rtDi ?_ (.tmp 60) ?_ b' (off' + i * 4 + 1) ?_ [.slice At2 ed.ts.length ct2, .slice As2 ed.sub.len cs2, .slice Ab2 ed.bl.length cb2] ?_ (fun W h => by obtain ⟨p, rfl⟩ := h; exact rng_tail (rng_below p.h L2 E2.out.rng)) ?_); rfl; rfl; rfl; rfl; simp only [Act.put, List.setIfInBounds_toArray, List.set_cons_succ, List.set_cons_zero]) | go_big_quiet_step (fail))
    refine wpQuiet_nil ?_
    clear q1 q4
    clear q8 q9
    refine Tin.reg_one 26 _ rfl (by kernel_rfl) ?_
    try simp only [List.getElem_toArray, List.getElem_cons_succ, List.getElem_cons_zero]
    go_wp2_with fail
    refine (IH.out At1 As1 Ab1 ct1 cs1 cb1 At2 As2 Ab2 ct2 cs2 cb2 ed _ (by omega) D1.out D2.out hse (by omega)).mono ?_
    rintro e v3 ⟨rfl, hv⟩
    go_wp2_with fail
    refine ⟨wr.heap.size, hv.mono SZ, Nat.le_refl _, ?_⟩
    replace D1 := Lib.hid (D1.out.keep hv)
    replace D2 := Lib.hid (D2.out.keep hv)
    replace E1 := Lib.hid (E1.out.keep hv)
    replace E2 := Lib.hid (E2.out.keep hv)
    replace R2r := Lib.hid ((hv.block _ (row_lt R2r.out)).trans R2r.out)
    replace R3r := Lib.hid ((hv.block _ (row_lt R3r.out)).trans R3r.out)
    replace HBJ := Lib.hid (HBJ.out.trans (hv.mono HBJ.out.size))
    replace SZ := Nat.le_trans SZ hv.size
    clear hv
    refine Tin.reg_quiets [27, 28] _ 0 rfl (by simp only [Tin.pick, List.map_cons, List.map_nil, Array.getD_eq_getD_getElem?, List.getElem?_toArray, List.getElem?_cons_zero, List.getElem?_cons_succ, Option.getD_some]; rfl) (by kernel_rfl) (by kernel_rfl) ?_
    repeat (first | go_big_quiet_step (fail))
    refine wpQuiet_nil ?_
    refine Tin.reg_done (by kernel_rfl) ?_
    go_wp2_with fail
    exact ⟨⟨i + 1, by omega, rfl, HBJ.out⟩, by simp only [intOf]; omega⟩
set_option maxRecDepth 100000 in
set_option maxHeartbeats 8000000 in
theorem tree_same (o : Int) (Ad Ae : Option Addr) (cd ce : Nat) (f : Fo) (w : World) (ha : FoK w Ad f) (hb : FoK w Ae f) (hsm : smF f) (hcnt : f.cnt ≤ 1000) :
    Calls Try.prog 15 #[.agg #[.int .i64 o, .slice Ad f.len cd], .agg #[.int .i64 o, .slice Ae f.len ce]] w fun e w' => e = .returned (.bool true) ∧ Below w.heap.size w w' := by
  have hns : f.len ≤ 1000 := Nat.le_trans f.len_cnt hcnt
  have HSM := Lib.hid hsm
  clear hsm
  have b1 := ba (brefl w) (.cells (trow o Ad f.len cd) 24)
  have b2 := ba (brefl (w.alloc (.cells (trow o Ad f.len cd) 24))) (.cells (trow o Ae f.len ce) 24)
  have r1 := heap_alloc_new w (.cells (trow o Ad f.len cd) 24)
  have r2 := heap_alloc_new (w.alloc (.cells (trow o Ad f.len cd) 24)) (.cells (trow o Ae f.len ce) 24)
  rw [World.size_alloc] at r2
  have R2 := Lib.hid ((b2.block _ (row_lt r1)).trans r1)
  have R3 := Lib.hid r2
  have HA := Lib.hid ((ha.keep b1).keep b2)
  have HC := Lib.hid ((hb.keep b1).keep b2)
  have HB := Lib.hid (b1.trans (b2.mono b1.size))
  clear b1 b2 r1 r2 ha hb
  generalize hsb : f.len = NS at *
  have HSB := Lib.hid hsb
  clear hsb
  have q0 := row_cell (v := .int .i64 o) R2.out 0 rfl
  have q1 := row_cell (v := .slice Ad NS cd) R2.out 1 rfl
  have q2 := row_cell (v := .int .i64 o) R3.out 0 rfl
  have q3 := row_cell (v := .slice Ae NS ce) R3.out 1 rfl
  have nn : ((NS : Int) == (NS : Int)) = true := by rw [beq_iff_eq]
  have n2 : (o == o) = true := by rw [beq_iff_eq]
  go_enter Try.func15, Try.ntmps15
  go_wp2_with fail
  generalize (w.alloc (.cells (trow o Ad NS cd) 24)).alloc (.cells (trow o Ae NS ce) 24) = v0 at *
  clear q0 q1 q2 q3 nn n2
  try simp only [Bool.not_true, Bool.not_false]
  go_loopw [5] (fun s5 wr => ∃ i : Nat, i ≤ NS ∧ s5 = .int .i64 (i : Int) ∧ Below v0.heap.size v0 wr) (fun s5 _ => NS - (intOf s5).toNat)
  case atStart => exact ⟨0, by omega, rfl, Below.refl _ _⟩
  case round =>
    obtain ⟨i, hi, rfl, hbj⟩ := hrel
    have HBJ := Lib.hid hbj
    clear hbj
    have R2r := Lib.hid ((HBJ.out.block _ (row_lt R2.out)).trans R2.out)
    have R3r := Lib.hid ((HBJ.out.block _ (row_lt R3.out)).trans R3.out)
    by_cases hin : i < NS
    case neg =>
      obtain rfl : i = NS := by omega
      have q1 := row_cell (v := .slice Ad i cd) R2r.out 1 rfl
      go_wp2_with fail
      go_ret
      exact ⟨rfl, HB.out.trans (HBJ.out.mono HB.out.size)⟩
    have i1 : (i : Int) < (NS : Int) := by omega
    have hil : i < f.len := by rw [HSB.out]; exact hin
    obtain ⟨b, off, rfl, _, hb1, hc1⟩ := FoS.at_ (HA.out.keep HBJ.out) (by omega)
    obtain ⟨b', off', rfl, _, hb2, hc2⟩ := FoS.at_ (HC.out.keep HBJ.out) (by omega)
    obtain ⟨At1, ct1, As1, cs1, Ab1, cb1, hr1, hd1⟩ := hc1 i hil
    obtain ⟨At2, ct2, As2, cs2, Ab2, cb2, hr2, hd2⟩ := hc2 i hil
    have hse := smF_elem i f HSM.out hil
    have hec := Fo.elem_cnt i f hil
    clear hc1 hc2
    generalize f.elem i = el at *
    obtain ⟨etag, ed⟩ := el
    dsimp only at hr1 hr2 hd1 hd2 hse hec
    have E1 := Lib.hid (show RgK wr b (off + i * 3) [.slice At1 ed.ts.length ct1, .slice As1 ed.sub.len cs1, .slice Ab1 ed.bl.length cb1] from ⟨hb1, hr1⟩)
    have E2 := Lib.hid (show RgK wr b' (off' + i * 3) [.slice At2 ed.ts.length ct2, .slice As2 ed.sub.len cs2, .slice Ab2 ed.bl.length cb2] from ⟨hb2, hr2⟩)
    have D1 := Lib.hid (show DiK wr At1 As1 Ab1 ed from hd1)
    have D2 := Lib.hid (show DiK wr At2 As2 Ab2 ed from hd2)
    clear hr1 hr2 hd1 hd2
    have q1 := row_cell (v := .slice (some ⟨b, off, none⟩) NS cd) R2r.out 1 rfl
    go_wp2_with fail
    clear q1
    have L1 := E1.out.1
    have L2 := E2.out.1
    have LT_R2r : _ < wr.heap.size := row_lt R2r.out
    have LT_R3r : _ < wr.heap.size := row_lt R3r.out
    have SZ : wr.heap.size ≤ wr.drew.heap.size := Nat.le_refl _
    have hb := ud' (brefl wr)
    replace D1 := Lib.hid (D1.out.keep hb)
    replace D2 := Lib.hid (D2.out.keep hb)
    replace E1 := Lib.hid (E1.out.keep hb)
    replace E2 := Lib.hid (E2.out.keep hb)
    replace R2r := Lib.hid ((hb.block _ (row_lt R2r.out)).trans R2r.out)
    replace R3r := Lib.hid ((hb.block _ (row_lt R3r.out)).trans R3r.out)
    replace HBJ := Lib.hid (HBJ.out.trans (hb.mono HBJ.out.size))
    clear hb
    refine Tin.reg_begin (wr.heap.size) 12 (by rfl) (by kernel_rfl) ?_
    have q1 : ∀ p : Bel (wr.heap.size) wr.drew, p.w'.cell? ⟨w.heap.size, 1, none⟩ = some (.slice (some ⟨b, off, none⟩) NS cd) := fun p => row_cell ((p.h.block _ LT_R2r).trans R2r.out) 1 rfl
    have q4 : ∀ p : Bel (wr.heap.size) wr.drew, p.w'.cell? ⟨w.heap.size + 1, 1, none⟩ = some (.slice (some ⟨b', off', none⟩) NS ce) := fun p => row_cell ((p.h.block _ LT_R3r).trans R3r.out) 1 rfl
    refine Tin.reg_quiets [0, 1, 2, 3, 4, 5, 6, 7, 8, 9] _ 2 rfl (by simp only [Tin.pick, List.map_cons, List.map_nil, Array.getD_eq_getD_getElem?, List.getElem?_toArray, List.getElem?_cons_zero, List.getElem?_cons_succ, Option.getD_some]; rfl) (by kernel_rfl) (by kernel_rfl) ?_
    repeat (first | ((with_reducible refine wpq_loadv rtDi ?_ (.tmp 30) ?_ b (off + i * 3) ?_ [.slice At1 ed.ts.length ct1, .slice As1 ed.sub.len cs1, .slice Ab1 ed.bl.length cb1] ?_ (fun W h => by obtain ⟨p, rfl⟩ := h; exact rng_below p.h L1 E1.out.rng) ?_); rfl; rfl; rfl; rfl; simp only [Act.put, List.setIfInBounds_toArray, List.set_cons_succ, List.set_cons_zero]) | ((with_reducible refine wpq_loadv rtDi ?_ (.tmp 35) ?_ b' (off' + i * 3) ?_ [.slice At2 ed.ts.length ct2, .slice As2 ed.sub.len cs2, .slice Ab2 ed.bl.length cb2] ?_ (fun W h => by obtain ⟨p, rfl⟩ := h; exact rng_below p.h L2 E2.out.rng) ?_); rfl; rfl; rfl; rfl; simp only [Act.put, List.setIfInBounds_toArray, List.set_cons_succ, List.set_cons_zero]) | go_big_quiet_step (fail))
    refine wpQuiet_nil ?_
    clear q1 q4
    refine Tin.reg_one 10 _ rfl (by kernel_rfl) ?_
    try simp only [List.getElem_toArray, List.getElem_cons_succ, List.getElem_cons_zero]
    go_wp2_with fail
    refine (dir_same _ At1 As1 Ab1 ct1 cs1 cb1 At2 As2 Ab2 ct2 cs2 cb2 ed _ (Nat.lt_succ_self _) D1.out D2.out hse (by omega)).mono ?_
    rintro e v1 ⟨rfl, hv⟩
    go_wp2_with fail
    refine ⟨wr.heap.size, hv.mono SZ, Nat.le_refl _, ?_⟩
    replace D1 := Lib.hid (D1.out.keep hv)
    replace D2 := Lib.hid (D2.out.keep hv)
    replace E1 := Lib.hid (E1.out.keep hv)
    replace E2 := Lib.hid (E2.out.keep hv)
    replace R2r := Lib.hid ((hv.block _ (row_lt R2r.out)).trans R2r.out)
    replace R3r := Lib.hid ((hv.block _ (row_lt R3r.out)).trans R3r.out)
    replace HBJ := Lib.hid (HBJ.out.trans (hv.mono HBJ.out.size))
    replace SZ := Nat.le_trans SZ hv.size
    clear hv
    refine Tin.reg_quiets [11] _ 0 rfl (by simp only [Tin.pick, List.map_cons, List.map_nil, Array.getD_eq_getD_getElem?, List.getElem?_toArray, List.getElem?_cons_zero, List.getElem?_cons_succ, Option.getD_some]; rfl) (by kernel_rfl) (by kernel_rfl) ?_
    repeat (first | go_big_quiet_step (fail))
    refine wpQuiet_nil ?_
    refine Tin.reg_done (by kernel_rfl) ?_
    go_wp2_with fail
    exact ⟨⟨i + 1, by omega, rfl, HBJ.out⟩, by simp only [intOf]; omega⟩
end Go.Proofs.Ytkepbobnjplpoaa
