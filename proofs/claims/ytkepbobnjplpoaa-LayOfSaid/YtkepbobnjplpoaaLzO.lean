/- A directory in memory of its own: the reference's OwnDir. -/
import Derived.Test.YtkepbobnjplpoaaLzN
namespace Go.Proofs.Ytkepbobnjplpoaa
open Go.RowKit
open Go.Tin
set_option linter.unusedVariables false
set_option linter.unusedSimpArgs false


def NB2 (n : Nat) (v : Value) (g b : Nat) : Prop := n ≤ b ∧ v.ownBlock ≠ some b ∧ b ≠ g
theorem nb2_step {n g : Nat} {v v' : Value} {u2 u3 : World} (hg : u2.grownBy u3 v.ownBlock) (how : v'.ownBlock = v.ownBlock ∨ v'.ownBlock = some u2.heap.size) :
    Kp (fun b => NB2 n v g b ∧ b < u2.heap.size) u2 u3 ∧ ∀ b, NB2 n v g b ∧ b < u2.heap.size → NB2 n v' g b := by
  refine ⟨Kp.grown hg fun b hb e => hb.1.2.1 e.symm, fun b hb => ⟨hb.1.1, fun e => ?_, hb.1.2.2⟩⟩
  rcases how with h | h
  · rw [h] at e; exact hb.1.2.1 e
  · rw [h] at e; injection e with e; omega
theorem nb2_new {n m g b : Nat} {v : Value} (hn : n ≤ m) (hv : ∀ q, v.ownBlock = some q → q < m) (hg : g < m) (hb : m ≤ b) : NB2 n v g b := ⟨Nat.le_trans hn hb, fun e => by have := hv b e; omega, by omega⟩
theorem Fo.take_snoc' (i : Nat) (f : Fo) (e : El) (h : i < f.len) (he : f.elem i = e) : f.take (i + 1) = (f.take i).app (one e .nil) := by rw [← he]; exact Fo.take_snoc i f h
set_option maxRecDepth 100000 in
set_option maxHeartbeats 8000000 in
theorem owndir_any : ∀ (n : Nat) (At As Ab : Option Addr) (ct cs cb : Nat) (d : Di) (w : World), d.sub.cnt < n → DiK w At As Ab d → smD d →
    Calls Try.prog 29 #[.agg #[.slice At d.ts.length ct, .slice As d.sub.len cs, .slice Ab d.bl.length cb]] w fun e w' => ∃ A1 c1 A2 c2 A3 c3, e = .returned (.agg #[.slice A1 d.ts.length c1, .slice A2 d.sub.len c2, .slice A3 d.bl.length c3]) ∧ DiP w' (fun b => w.heap.size ≤ b) A1 A2 A3 d ∧ Below w.heap.size w w' := by
  intro n
  induction n with
  | zero => intro At As Ab ct cs cb d w h; omega
  | succ n ih =>
  intro At As Ab ct cs cb d w hcn ha hsm
  have IH := Lib.hid ih
  clear ih
  obtain ⟨s1, s2, s3, s4, s5⟩ := hsm
  have HS4 := Lib.hid s4
  have HS5 := Lib.hid s5
  have HML := Lib.hid (And.intro ha.nt (And.intro ha.ns ha.nb))
  have HBYT := Lib.hid ha.by_
  clear s4 s5
  have b1 := ba (brefl w) (.cells (drow At d.ts.length ct As d.sub.len cs Ab d.bl.length cb) 42)
  have b2 := ba (brefl (w.alloc (.cells (drow At d.ts.length ct As d.sub.len cs Ab d.bl.length cb) 42))) (.cells #[.slice none 0 0, .slice none 0 0, .slice none 0 0] 42)
  have r1 := heap_alloc_new w (.cells (drow At d.ts.length ct As d.sub.len cs Ab d.bl.length cb) 42)
  have r2 := heap_alloc_new (w.alloc (.cells (drow At d.ts.length ct As d.sub.len cs Ab d.bl.length cb) 42)) (.cells #[.slice none 0 0, .slice none 0 0, .slice none 0 0] 42)
  rw [World.size_alloc] at r2
  have hz1 : ((w.alloc (.cells (drow At d.ts.length ct As d.sub.len cs Ab d.bl.length cb) 42)).alloc (.cells #[.slice none 0 0, .slice none 0 0, .slice none 0 0] 42)).heap.size = w.heap.size + 2 := by simp only [World.size_alloc]
  have R1 := Lib.hid ((b2.block _ (row_lt r1)).trans r1)
  have R2 := Lib.hid r2
  have HB := Lib.hid (b1.trans (b2.mono b1.size))
  have HD := Lib.hid (show DiP ((w.alloc (.cells (drow At d.ts.length ct As d.sub.len cs Ab d.bl.length cb) 42)).alloc (.cells #[.slice none 0 0, .slice none 0 0, .slice none 0 0] 42)) (· < w.heap.size) At As Ab d from DiP.bel ha (b1.trans (b2.mono b1.size)))
  clear b1 b2 r1 r2 ha
  generalize hts : d.ts.length = NT at *
  have HTS := Lib.hid hts
  generalize hsb : d.sub.len = NS at *
  have HSB := Lib.hid hsb
  generalize hbl : d.bl.length = NB at *
  have HBL := Lib.hid hbl
  clear hts hsb hbl
  have HTG := Lib.hid (fun (W : World) (h : TgK W At d.ts) => owntags_any At ct d.ts W h (by rw [HTS.out]; omega) (fun t ht => by have := HS4.out t ht; omega))
  rw [HTS.out] at HTG
  have HOW := Lib.hid (fun (W : World) (h : Sl .u8 W Ab d.bl) => own_any Ab d.bl cb W h (by rw [HBL.out]; omega))
  rw [HBL.out] at HOW
  go_enter Try.func29, Try.ntmps29
  go_wp2_with fail
  have HW1 := Lib.hid (show (w.alloc (.cells (drow At NT ct As NS cs Ab NB cb) 42)).alloc (.cells #[.slice none 0 0, .slice none 0 0, .slice none 0 0] 42) = (w.alloc (.cells #[.slice At NT ct, .slice As NS cs, .slice Ab NB cb] 42)).alloc (.cells #[.slice none 0 0, .slice none 0 0, .slice none 0 0] 42) from rfl)
  rw [HW1.out] at R1 R2 HB HD hz1
  clear HW1
  generalize (w.alloc (.cells #[.slice At NT ct, .slice As NS cs, .slice Ab NB cb] 42)).alloc (.cells #[.slice none 0 0, .slice none 0 0, .slice none 0 0] 42) = w1 at *
  have HZ1 := Lib.hid hz1
  clear hz1
  rename_i K1 hK1
  have HK1 := Lib.hid hK1
  clear hK1
  have tail1 : ∀ (X : World) (g3 : Nat) (A7 A10 : Option Addr) (c7 c10 : Nat) (u5 u6 u7 u8 u9 u10 u11 : Value), w.heap.size + 2 ≤ g3 → X.heap[g3]? = some (.cells #[.slice A7 NT c7, .slice none 0 0, .slice A10 NB c10] 42 (0, 0)) → TgS X (fun b => w.heap.size + 2 ≤ b ∧ b ≠ g3) A7 d.ts → SlP .u8 X (fun b => w.heap.size + 2 ≤ b ∧ b ≠ g3) A10 d.bl → X.heap[w.heap.size]? = some (.cells (drow At NT ct As NS cs Ab NB cb) 42 (0, 0)) → X.heap[w.heap.size + 1]? = some (.cells #[.slice none 0 0, .slice none 0 0, .slice none 0 0] 42 (0, 0)) → DiP X (· < w.heap.size) At As Ab d → Below w.heap.size w X → K1 { tmps := #[.agg #[.slice At NT ct, .slice As NS cs, .slice Ab NB cb], .pointer (some ⟨w.heap.size, 0, none⟩), .pointer (some ⟨w.heap.size + 1, 0, none⟩), .pointer (some ⟨g3, 0, none⟩), undef, u5, u6, u7, u8, u9, u10, u11, undef, undef, undef, undef, undef, undef, undef, undef, undef, undef, undef, undef, undef, undef, undef, undef, undef, undef, undef, undef, undef, undef, undef, undef, undef, undef, undef], defers := [] } X := by
    intro X g3 A7 A10 c7 c10 u5 u6 u7 u8 u9 u10 u11 hg3 hr3 hxt hxb hr1 hr2 hd hb
    clear R1 R2 HD HB
    have R3 := Lib.hid hr3
    have XT0 := Lib.hid hxt
    have XB0 := Lib.hid hxb
    have R1 := Lib.hid hr1
    have R2 := Lib.hid hr2
    have HD := Lib.hid hd
    have HB := Lib.hid hb
    clear hr3 hxt hxb hr1 hr2 hd hb
    refine HK1.out _ _ ?_
    clear HK1
    go_wp2_with fail
    go_loopw [4] (fun s4 wr => ∃ (i : Nat) (A' : Option Addr) (c' : Nat) (xs : List Value), i ≤ NS ∧ s4 = .int .i64 (i : Int) ∧ wr.heap[g3]? = some (.cells #[.slice A7 NT c7, .slice A' i c', .slice A10 NB c10] 42 (0, 0)) ∧ OwnV 79 4 wr (w.heap.size + 2) (.slice A' i c') i xs ∧ FoV wr (NB2 (w.heap.size + 2) (.slice A' i c') g3) true (d.sub.take i) xs ∧ TgS wr (NB2 (w.heap.size + 2) (.slice A' i c') g3) A7 d.ts ∧ SlP .u8 wr (NB2 (w.heap.size + 2) (.slice A' i c') g3) A10 d.bl ∧ Below (w.heap.size + 2) X wr) (fun s4 _ => NS - (intOf s4).toNat)
    case atStart => exact ⟨0, none, 0, [], by omega, rfl, R3.out, OwnV.nil_ _ _ _ _, rfl, XT0.out.mono (fun b _ h => ⟨h.1, by simp [Value.ownBlock], h.2⟩), XB0.out.mono (fun b _ h => ⟨h.1, by simp [Value.ownBlock], h.2⟩), Below.refl _ _⟩
    case round =>
      obtain ⟨i, A', c', xs, hi, rfl, hr3, ho, hxf, hxt, hxb, hb⟩ := hrel
      clear R3 XT0 XB0
      have R3 := Lib.hid hr3
      have HO := Lib.hid ho
      have XF := Lib.hid hxf
      have HBX := Lib.hid hb
      have XT := Lib.hid hxt
      have XB := Lib.hid hxb
      have hsz : w.heap.size + 2 ≤ wr.heap.size := by have := row_lt hr3; omega
      have hbw : Below w.heap.size w wr := HB.out.trans (hb.mono (by omega))
      have R1r := Lib.hid ((hb.block _ (by omega)).trans R1.out)
      have R2r := Lib.hid ((hb.block _ (by omega)).trans R2.out)
      have HDr := Lib.hid (DiP.bel HD.out (hb.mono (by omega)))
      clear hr3 ho hxf hb hxt hxb
      by_cases hin : i < NS
      case neg =>
        obtain rfl : i = NS := by omega
        have htk : d.sub.take i = d.sub := by have := Fo.take_all d.sub; rwa [HSB.out] at this
        rw [htk] at XF
        have q1 := row_cell (v := .slice As i cs) R1r.out 1 rfl
        clear htk
        go_wp2_with (first | ((with_reducible refine wpl_load_row rtDi ?_ (.tmp 3) ?_ g3 ?_ 42 #[.slice A7 NT c7, .slice A' i c', .slice A10 NB c10] ?_ R3.out ?_); rfl; rfl; rfl; rfl; simp only [Act.put, List.setIfInBounds_toArray, List.set_cons_succ, List.set_cons_zero]) | ((with_reducible refine wpl_store_row rtDi ?_ (.tmp 2) (.tmp 38) ?_ (w.heap.size + 1) ?_ #[.slice A7 NT c7, .slice A' i c', .slice A10 NB c10] ?_ ?_ 42 ?_ #[.slice none 0 0, .slice none 0 0, .slice none 0 0] ?_ R2r.out ?_); rfl; rfl; rfl; rfl; (simp [Value.oneCell']); rfl; rfl; intro u9 hr9 hg9 hs9; (try simp only [Act.put, List.setIfInBounds_toArray, List.set_cons_succ, List.set_cons_zero])))
        refine bodyPost_ret (res_row rtDi rfl _ _ (w.heap.size + 1) 42 #[.slice A7 NT c7, .slice A' i c', .slice A10 NB c10] rfl rfl hr9) rfl ?_
        have hkp : Kp (NB2 (w.heap.size + 2) (.slice A' i c') g3) wr u9 := Kp.grown hg9 (fun b hb e => by injection e with e; have := hb.1; omega)
        have hdi : DiP u9 (fun b => w.heap.size ≤ b) A7 A' A10 d := ⟨(XT.out.keep hkp).mono (fun b _ h => Nat.le_trans (Nat.le_add_right _ 2) h.1), ⟨xs, SvP.ofOwn (HO.out.kept hg9 (ne_own (fun q hq e => by have := (World.ownsRow.lt HO.out q hq).1; omega))) (fun b _ h => Nat.le_trans (Nat.le_add_right _ 2) h), FoV.mono (fun b _ h => Nat.le_trans (Nat.le_add_right _ 2) h.1) _ (FoV.keep hkp _ XF.out)⟩, (XB.out.keep hkp).mono (fun b _ h => Nat.le_trans (Nat.le_add_right _ 2) h.1), HBYT.out, by rw [HTS.out]; exact HML.out.1, by rw [HSB.out]; exact HML.out.2.1, by rw [HBL.out]; exact HML.out.2.2⟩
        exact ⟨A7, c7, A', c', A10, c10, rfl, hdi, hbw.trans ((Below.refl _ _).grown hg9 hbw.size (fun k hk => by cases hk; omega))⟩
      have i1 : (i : Int) < (NS : Int) := by omega
      have hil : i < d.sub.len := by rw [HSB.out]; exact hin
      obtain ⟨b, off, rfl, hpb, hbs, hc⟩ := HDr.out.su.at_ (by omega)
      obtain ⟨At1, ct1, As1, cs1, Ab1, cb1, hr, hdi⟩ := hc i hil
      have hse := smF_elem i d.sub HS5.out hil
      have hec := Fo.elem_cnt i d.sub hil
      have HTK := Lib.hid (Fo.take_snoc i d.sub hil)
      clear hc
      generalize d.sub.elem i = el at *
      obtain ⟨etag, ed⟩ := el
      dsimp only at hr hdi hse hec
      have HRG := Lib.hid (show wr.rangeAt b (off + i * 4) [.int .i64 etag, .slice At1 ed.ts.length ct1, .slice As1 ed.sub.len cs1, .slice Ab1 ed.bl.length cb1] from hr)
      have HE := Lib.hid hdi
      have hLb : b < w.heap.size + 2 := by omega
      have hL1 : w.heap.size < w.heap.size + 2 := by omega
      have HVB := Lib.hid (brefl wr)
      clear hr hdi
      have q1 := row_cell (v := .slice (some ⟨b, off, none⟩) NS cs) R1r.out 1 rfl
      go_wp2_with fail
      clear q1
      have SZ : w.heap.size + 2 ≤ wr.drew.heap.size := hsz
      have hv := ud' (brefl wr)
      replace R3 := Lib.hid ((hv.block _ (row_lt R3.out)).trans R3.out)
      replace HO := Lib.hid (HO.out.keep hv)
      replace XF := Lib.hid (FoV.keep (Kp.mono (Kp.all hv) (fun _ h _ => h)) _ XF.out)
      replace HVB := Lib.hid (HVB.out.trans (hv.mono HVB.out.size))
      replace XT := Lib.hid (XT.out.keep (Kp.mono (Kp.all hv) (fun _ h _ => h)))
      replace XB := Lib.hid (XB.out.keep (Kp.mono (Kp.all hv) (fun _ h _ => h)))
      have HRG2 := Lib.hid (show wr.drew.rangeAt b (off + i * 4) _ from HRG.out)
      have R1d := Lib.hid (show wr.drew.heap[w.heap.size]? = _ from R1r.out)
      clear hv
      refine Tin.reg_begin (w.heap.size + 2) 20 (by rfl) (by kernel_rfl) ?_
      generalize hud : wr.drew = u0 at *
      have q1 : ∀ p : Bel (w.heap.size + 2) u0, p.w'.cell? ⟨w.heap.size, 1, none⟩ = some (.slice (some ⟨b, off, none⟩) NS cs) := fun p => row_cell ((p.h.block _ hL1).trans R1d.out) 1 rfl
      have q2 : ∀ p : Bel (w.heap.size + 2) u0, p.w'.cell? ⟨b, off + i * 4, none⟩ = some (.int .i64 etag) := fun p => (rng_below p.h hLb HRG2.out) 0 _ rfl
      refine Tin.reg_quiets [0, 2, 3, 4, 5, 6, 7, 8, 9, 10, 11, 12, 13] _ 7 rfl (by simp only [Tin.pick, List.map_cons, List.map_nil, Array.getD_eq_getD_getElem?, List.getElem?_toArray, List.getElem?_cons_zero, List.getElem?_cons_succ, Option.getD_some]; rfl) (by kernel_rfl) (by kernel_rfl) ?_
      repeat (first | ((with_reducible refine wpq_loadv rtDi ?_ (.tmp 31) ?_ b (off + i * 4 + 1) ?_ [.slice At1 ed.ts.length ct1, .slice As1 ed.sub.len cs1, .slice Ab1 ed.bl.length cb1] ?_ (fun W h => by obtain ⟨p, rfl⟩ := h; exact rng_tail (rng_below p.h hLb HRG2.out)) ?_); rfl; rfl; rfl; rfl; simp only [Act.put, List.setIfInBounds_toArray, List.set_cons_succ, List.set_cons_zero]) | go_big_quiet_step (fail))
      refine wpQuiet_nil ?_
      clear q1 q2
      refine Tin.reg_two 1 14 _ _ rfl rfl (by kernel_rfl) ?_ ?_
      · try simp only [List.getElem_toArray, List.getElem_cons_succ, List.getElem_cons_zero]
        have kl := row_cell (v := (.slice A' i c')) R3.out 1 rfl
        go_wp2_with fail
        clear kl
        refine ⟨w.heap.size + 2, Below.refl _ _, Nat.le_refl _, ?_⟩
        refine Tin.reg_one 14 _ rfl (by kernel_rfl) ?_
        try simp only [List.getElem_toArray, List.getElem_cons_succ, List.getElem_cons_zero]
        go_wp2_with fail
        have hkz : Kp (fun b => b < w.heap.size) wr u0 := Kp.below (HVB.out.mono (Nat.le_of_lt (Nat.lt_of_lt_of_le hL1 hsz))) (fun _ _ h => h)
        refine (IH.out At1 As1 Ab1 ct1 cs1 cb1 ed u0 (by omega) ((HE.out.keep hkz).mono (fun b _ h => Nat.lt_of_lt_of_le h (Nat.le_trans (Nat.le_of_lt (Nat.lt_of_lt_of_le hL1 hsz)) HVB.out.size))) hse).mono ?_
        rintro e z1 ⟨A21, c21, A22, c22, A23, c23, rfl, hx, hv⟩
        go_wp2_with fail
        refine ⟨w.heap.size + 2, hv.mono SZ, Nat.le_refl _, ?_⟩
        have hlo := fun q hq => (World.ownsRow.lt HO.out q hq).2
        have hlg := row_lt R3.out
        have hx2 : DiP z1 (NB2 (w.heap.size + 2) (.slice A' i c') g3) A21 A22 A23 ed := hx.mono (fun b _ h => nb2_new SZ hlo hlg h)
        replace R3 := Lib.hid ((hv.block _ (row_lt R3.out)).trans R3.out)
        replace HO := Lib.hid (HO.out.keep hv)
        replace XF := Lib.hid (FoV.keep (Kp.mono (Kp.all hv) (fun _ h _ => h)) _ XF.out)
        replace HVB := Lib.hid (HVB.out.trans (hv.mono HVB.out.size))
        replace XT := Lib.hid (XT.out.keep (Kp.mono (Kp.all hv) (fun _ h _ => h)))
        replace XB := Lib.hid (XB.out.keep (Kp.mono (Kp.all hv) (fun _ h _ => h)))
        have HE2 := Lib.hid hx2
        replace SZ := Nat.le_trans SZ hv.size
        clear hx hx2 hlo hlg hv hkz
        refine Tin.reg_quiets [15] _ 4 rfl (by simp only [Tin.pick, List.map_cons, List.map_nil, Array.getD_eq_getD_getElem?, List.getElem?_toArray, List.getElem?_cons_zero, List.getElem?_cons_succ, Option.getD_some]; rfl) (by kernel_rfl) (by kernel_rfl) ?_
        repeat (first | go_big_quiet_step (fail))
        refine wpQuiet_nil ?_
        refine Tin.reg_one 16 _ rfl (by kernel_rfl) ?_
        try simp only [List.getElem_toArray, List.getElem_cons_succ, List.getElem_cons_zero]
        go_wp2_with fail
        have hv := ba (brefl z1) (.cells #[.int .i64 etag, .slice A21 ed.ts.length c21, .slice A22 ed.sub.len c22, .slice A23 ed.bl.length c23] 79)
        have hnw := SlV.new_ z1 79 #[.int .i64 etag, .slice A21 ed.ts.length c21, .slice A22 ed.sub.len c22, .slice A23 ed.bl.length c23]
        refine ⟨w.heap.size + 2, hv.mono SZ, Nat.le_refl _, ?_⟩
        replace R3 := Lib.hid ((hv.block _ (row_lt R3.out)).trans R3.out)
        replace HO := Lib.hid (HO.out.keep hv)
        replace XF := Lib.hid (FoV.keep (Kp.mono (Kp.all hv) (fun _ h _ => h)) _ XF.out)
        replace HVB := Lib.hid (HVB.out.trans (hv.mono HVB.out.size))
        replace XT := Lib.hid (XT.out.keep (Kp.mono (Kp.all hv) (fun _ h _ => h)))
        replace XB := Lib.hid (XB.out.keep (Kp.mono (Kp.all hv) (fun _ h _ => h)))
        replace HE2 := Lib.hid (HE2.out.keep (Kp.mono (Kp.all hv) (fun _ h _ => h)))
        have HNW := Lib.hid hnw
        replace SZ := Nat.le_trans SZ hv.size
        clear hnw hv
        generalize z1.alloc (.cells #[.int .i64 etag, .slice A21 ed.ts.length c21, .slice A22 ed.sub.len c22, .slice A23 ed.bl.length c23] 79) = z2 at *
        generalize z1.heap.size = g7 at *
        refine Tin.reg_one 17 _ rfl (by kernel_rfl) ?_
        try simp only [List.getElem_toArray, List.getElem_cons_succ, List.getElem_cons_zero]
        have hmx : (i + 1) ≤ 1000 := by omega
        go_wp2_with (at_builtin; refine Tin.wplv_app svSb z2 rfl (.tmp 20) (.tmp 35) rfl (w.heap.size + 2) _ _ _ rfl HO.out (some ⟨g7, 0, none⟩) 1 1 [.int .i64 etag, .slice A21 ed.ts.length c21, .slice A22 ed.sub.len c22, .slice A23 ed.bl.length c23] rfl rfl HNW.out (by intro u hu; simp only [List.mem_cons, List.not_mem_nil, or_false] at hu; rcases hu with rfl | rfl | rfl | rfl <;> rfl) (by omega) (by omega) SZ ?_; intro A8 c8 u10 ho8 hg8 how8; have HO8 := Lib.hid ho8; have HG8 := Lib.hid hg8; have HW8 := Lib.hid how8; clear ho8 hg8 how8; (try simp only [Act.put, List.setIfInBounds_toArray, List.set_cons_succ, List.set_cons_zero]))
        replace HG8 := Lib.hid (show z2.grownBy u10 (Value.slice A' i c').ownBlock from HG8.out)
        replace HW8 := Lib.hid (show (Value.slice A8 (i + 1) c8).ownBlock = (Value.slice A' i c').ownBlock ∨ (Value.slice A8 (i + 1) c8).ownBlock = some z2.heap.size from HW8.out)
        have hbb : Below (w.heap.size + 2) z2 u10 := (Below.refl _ _).grown HG8.out SZ (fun k hk => (World.ownsRow.lt HO.out k hk).1)
        refine ⟨w.heap.size + 2, hbb, Nat.le_refl _, ?_⟩
        have hst := nb2_step (n := w.heap.size + 2) (g := g3) (v' := (.slice A8 (i + 1) c8)) HG8.out HW8.out
        replace R3 := Lib.hid ((HG8.out.block _ (row_lt R3.out) (fun e => (own_row_types HO.out R3.out (by decide)).elim (fun h => by rw [h] at e; cases e) (fun h => h e.symm))).trans R3.out)
        have hxf : FoV u10 (NB2 (w.heap.size + 2) (.slice A8 (i + 1) c8) g3) true (d.sub.take (i + 1)) (xs ++ [.int .i64 etag, .slice A21 ed.ts.length c21, .slice A22 ed.sub.len c22, .slice A23 ed.bl.length c23]) := by
          rw [HTK.out]
          refine FoV.mono (fun b _ h => hst.2 b h) _ (FoV.keep hst.1 _ ?_)
          exact FoV.mono (fun b hlt h => ⟨h, hlt⟩) _ (FoV.app _ _ XF.out (FoV.one (k := true) (e := ⟨etag, ed⟩) HE2.out))
        replace XT := Lib.hid (((XT.out.mono (fun b hlt h => ⟨h, hlt⟩)).keep hst.1).mono (q := (NB2 (w.heap.size + 2) (.slice A8 (i + 1) c8) g3)) (fun b _ h => hst.2 b h))
        replace XB := Lib.hid (((XB.out.mono (fun b hlt h => ⟨h, hlt⟩)).keep hst.1).mono (q := (NB2 (w.heap.size + 2) (.slice A8 (i + 1) c8) g3)) (fun b _ h => hst.2 b h))
        replace XF := Lib.hid hxf
        replace HBX := Lib.hid (HBX.out.trans ((HVB.out.mono hsz).trans hbb))
        have SZ2 := Nat.le_trans SZ hbb.size
        clear hst hxf HVB HO HNW HE2 hbb
        refine Tin.reg_quiets [18] _ 1 rfl (by simp only [Tin.pick, List.map_cons, List.map_nil, Array.getD_eq_getD_getElem?, List.getElem?_toArray, List.getElem?_cons_zero, List.getElem?_cons_succ, Option.getD_some]; rfl) (by kernel_rfl) (by kernel_rfl) ?_
        repeat (first | go_big_quiet_step (fail))
        refine wpQuiet_nil ?_
        refine Tin.reg_one 19 _ rfl (by kernel_rfl) ?_
        try simp only [List.getElem_toArray, List.getElem_cons_succ, List.getElem_cons_zero]
        have ks := row_cell (v := (.slice A' i c')) R3.out 1 rfl
        have ys := frozen_of_row _ _ 1 _ _ R3.out
        go_wp2_with fail
        clear ks ys
        have hbs2 : Below (w.heap.size + 2) u10 (u10.setCell ⟨g3, 1, none⟩ (.slice A8 (i + 1) c8)) := (Below.refl _ _).setCell (p := ⟨g3, 1, none⟩) hg3 _
        refine ⟨w.heap.size + 2, hbs2, Nat.le_refl _, ?_⟩
        have hkp : Kp (NB2 (w.heap.size + 2) (.slice A8 (i + 1) c8) g3) u10 (u10.setCell ⟨g3, 1, none⟩ (.slice A8 (i + 1) c8)) := set_kp _ (fun h => h.2.2 rfl)
        have hr3 := row_set R3.out 1 (.slice A8 (i + 1) c8)
        replace HO8 := Lib.hid (HO8.out.kept (gr_set u10 g3 1 (.slice A8 (i + 1) c8)) (own_row_types HO8.out R3.out (by decide)))
        replace XF := Lib.hid (FoV.keep hkp _ XF.out)
        replace XT := Lib.hid (XT.out.keep hkp)
        replace XB := Lib.hid (XB.out.keep hkp)
        replace R3 := Lib.hid (show (u10.setCell ⟨g3, 1, none⟩ (.slice A8 (i + 1) c8)).heap[g3]? = some (.cells #[.slice A7 NT c7, .slice A8 (i + 1) c8, .slice A10 NB c10] 42 (0, 0)) from hr3)
        replace HBX := Lib.hid (HBX.out.trans hbs2)
        clear hbs2 hkp hr3
        refine Tin.reg_done (by kernel_rfl) ?_
        go_wp2_with fail
        exact ⟨⟨i + 1, A8, c8, _, by omega, rfl, R3.out, HO8.out, XF.out, XT.out, XB.out, HBX.out⟩, by simp only [intOf]; omega⟩
      · try simp only [List.getElem_toArray, List.getElem_cons_succ, List.getElem_cons_zero]
        go_wp2_with fail
        have hkz : Kp (fun b => b < w.heap.size) wr u0 := Kp.below (HVB.out.mono (Nat.le_of_lt (Nat.lt_of_lt_of_le hL1 hsz))) (fun _ _ h => h)
        refine (IH.out At1 As1 Ab1 ct1 cs1 cb1 ed u0 (by omega) ((HE.out.keep hkz).mono (fun b _ h => Nat.lt_of_lt_of_le h (Nat.le_trans (Nat.le_of_lt (Nat.lt_of_lt_of_le hL1 hsz)) HVB.out.size))) hse).mono ?_
        rintro e z1 ⟨A21, c21, A22, c22, A23, c23, rfl, hx, hv⟩
        go_wp2_with fail
        refine ⟨w.heap.size + 2, hv.mono SZ, Nat.le_refl _, ?_⟩
        have hlo := fun q hq => (World.ownsRow.lt HO.out q hq).2
        have hlg := row_lt R3.out
        have hx2 : DiP z1 (NB2 (w.heap.size + 2) (.slice A' i c') g3) A21 A22 A23 ed := hx.mono (fun b _ h => nb2_new SZ hlo hlg h)
        replace R3 := Lib.hid ((hv.block _ (row_lt R3.out)).trans R3.out)
        replace HO := Lib.hid (HO.out.keep hv)
        replace XF := Lib.hid (FoV.keep (Kp.mono (Kp.all hv) (fun _ h _ => h)) _ XF.out)
        replace HVB := Lib.hid (HVB.out.trans (hv.mono HVB.out.size))
        replace XT := Lib.hid (XT.out.keep (Kp.mono (Kp.all hv) (fun _ h _ => h)))
        replace XB := Lib.hid (XB.out.keep (Kp.mono (Kp.all hv) (fun _ h _ => h)))
        have HE2 := Lib.hid hx2
        replace SZ := Nat.le_trans SZ hv.size
        clear hx hx2 hlo hlg hv hkz
        refine Tin.reg_quiets [15] _ 5 rfl (by simp only [Tin.pick, List.map_cons, List.map_nil, Array.getD_eq_getD_getElem?, List.getElem?_toArray, List.getElem?_cons_zero, List.getElem?_cons_succ, Option.getD_some]; rfl) (by kernel_rfl) (by kernel_rfl) ?_
        repeat (first | go_big_quiet_step (fail))
        refine wpQuiet_nil ?_
        refine Tin.reg_two 1 16 _ _ rfl rfl (by kernel_rfl) ?_ ?_
        · try simp only [List.getElem_toArray, List.getElem_cons_succ, List.getElem_cons_zero]
          have kl := row_cell (v := (.slice A' i c')) R3.out 1 rfl
          go_wp2_with fail
          clear kl
          refine ⟨w.heap.size + 2, Below.refl _ _, Nat.le_refl _, ?_⟩
          refine Tin.reg_one 16 _ rfl (by kernel_rfl) ?_
          try simp only [List.getElem_toArray, List.getElem_cons_succ, List.getElem_cons_zero]
          go_wp2_with fail
          have hv := ba (brefl z1) (.cells #[.int .i64 etag, .slice A21 ed.ts.length c21, .slice A22 ed.sub.len c22, .slice A23 ed.bl.length c23] 79)
          have hnw := SlV.new_ z1 79 #[.int .i64 etag, .slice A21 ed.ts.length c21, .slice A22 ed.sub.len c22, .slice A23 ed.bl.length c23]
          refine ⟨w.heap.size + 2, hv.mono SZ, Nat.le_refl _, ?_⟩
          replace R3 := Lib.hid ((hv.block _ (row_lt R3.out)).trans R3.out)
          replace HO := Lib.hid (HO.out.keep hv)
          replace XF := Lib.hid (FoV.keep (Kp.mono (Kp.all hv) (fun _ h _ => h)) _ XF.out)
          replace HVB := Lib.hid (HVB.out.trans (hv.mono HVB.out.size))
          replace XT := Lib.hid (XT.out.keep (Kp.mono (Kp.all hv) (fun _ h _ => h)))
          replace XB := Lib.hid (XB.out.keep (Kp.mono (Kp.all hv) (fun _ h _ => h)))
          replace HE2 := Lib.hid (HE2.out.keep (Kp.mono (Kp.all hv) (fun _ h _ => h)))
          have HNW := Lib.hid hnw
          replace SZ := Nat.le_trans SZ hv.size
          clear hnw hv
          generalize z1.alloc (.cells #[.int .i64 etag, .slice A21 ed.ts.length c21, .slice A22 ed.sub.len c22, .slice A23 ed.bl.length c23] 79) = z2 at *
          generalize z1.heap.size = g7 at *
          refine Tin.reg_one 17 _ rfl (by kernel_rfl) ?_
          try simp only [List.getElem_toArray, List.getElem_cons_succ, List.getElem_cons_zero]
          have hmx : (i + 1) ≤ 1000 := by omega
          go_wp2_with (at_builtin; refine Tin.wplv_app svSb z2 rfl (.tmp 20) (.tmp 35) rfl (w.heap.size + 2) _ _ _ rfl HO.out (some ⟨g7, 0, none⟩) 1 1 [.int .i64 etag, .slice A21 ed.ts.length c21, .slice A22 ed.sub.len c22, .slice A23 ed.bl.length c23] rfl rfl HNW.out (by intro u hu; simp only [List.mem_cons, List.not_mem_nil, or_false] at hu; rcases hu with rfl | rfl | rfl | rfl <;> rfl) (by omega) (by omega) SZ ?_; intro A8 c8 u10 ho8 hg8 how8; have HO8 := Lib.hid ho8; have HG8 := Lib.hid hg8; have HW8 := Lib.hid how8; clear ho8 hg8 how8; (try simp only [Act.put, List.setIfInBounds_toArray, List.set_cons_succ, List.set_cons_zero]))
          replace HG8 := Lib.hid (show z2.grownBy u10 (Value.slice A' i c').ownBlock from HG8.out)
          replace HW8 := Lib.hid (show (Value.slice A8 (i + 1) c8).ownBlock = (Value.slice A' i c').ownBlock ∨ (Value.slice A8 (i + 1) c8).ownBlock = some z2.heap.size from HW8.out)
          have hbb : Below (w.heap.size + 2) z2 u10 := (Below.refl _ _).grown HG8.out SZ (fun k hk => (World.ownsRow.lt HO.out k hk).1)
          refine ⟨w.heap.size + 2, hbb, Nat.le_refl _, ?_⟩
          have hst := nb2_step (n := w.heap.size + 2) (g := g3) (v' := (.slice A8 (i + 1) c8)) HG8.out HW8.out
          replace R3 := Lib.hid ((HG8.out.block _ (row_lt R3.out) (fun e => (own_row_types HO.out R3.out (by decide)).elim (fun h => by rw [h] at e; cases e) (fun h => h e.symm))).trans R3.out)
          have hxf : FoV u10 (NB2 (w.heap.size + 2) (.slice A8 (i + 1) c8) g3) true (d.sub.take (i + 1)) (xs ++ [.int .i64 etag, .slice A21 ed.ts.length c21, .slice A22 ed.sub.len c22, .slice A23 ed.bl.length c23]) := by
            rw [HTK.out]
            refine FoV.mono (fun b _ h => hst.2 b h) _ (FoV.keep hst.1 _ ?_)
            exact FoV.mono (fun b hlt h => ⟨h, hlt⟩) _ (FoV.app _ _ XF.out (FoV.one (k := true) (e := ⟨etag, ed⟩) HE2.out))
          replace XT := Lib.hid (((XT.out.mono (fun b hlt h => ⟨h, hlt⟩)).keep hst.1).mono (q := (NB2 (w.heap.size + 2) (.slice A8 (i + 1) c8) g3)) (fun b _ h => hst.2 b h))
          replace XB := Lib.hid (((XB.out.mono (fun b hlt h => ⟨h, hlt⟩)).keep hst.1).mono (q := (NB2 (w.heap.size + 2) (.slice A8 (i + 1) c8) g3)) (fun b _ h => hst.2 b h))
          replace XF := Lib.hid hxf
          replace HBX := Lib.hid (HBX.out.trans ((HVB.out.mono hsz).trans hbb))
          have SZ2 := Nat.le_trans SZ hbb.size
          clear hst hxf HVB HO HNW HE2 hbb
          refine Tin.reg_quiets [18] _ 1 rfl (by simp only [Tin.pick, List.map_cons, List.map_nil, Array.getD_eq_getD_getElem?, List.getElem?_toArray, List.getElem?_cons_zero, List.getElem?_cons_succ, Option.getD_some]; rfl) (by kernel_rfl) (by kernel_rfl) ?_
          repeat (first | go_big_quiet_step (fail))
          refine wpQuiet_nil ?_
          refine Tin.reg_one 19 _ rfl (by kernel_rfl) ?_
          try simp only [List.getElem_toArray, List.getElem_cons_succ, List.getElem_cons_zero]
          have ks := row_cell (v := (.slice A' i c')) R3.out 1 rfl
          have ys := frozen_of_row _ _ 1 _ _ R3.out
          go_wp2_with fail
          clear ks ys
          have hbs2 : Below (w.heap.size + 2) u10 (u10.setCell ⟨g3, 1, none⟩ (.slice A8 (i + 1) c8)) := (Below.refl _ _).setCell (p := ⟨g3, 1, none⟩) hg3 _
          refine ⟨w.heap.size + 2, hbs2, Nat.le_refl _, ?_⟩
          have hkp : Kp (NB2 (w.heap.size + 2) (.slice A8 (i + 1) c8) g3) u10 (u10.setCell ⟨g3, 1, none⟩ (.slice A8 (i + 1) c8)) := set_kp _ (fun h => h.2.2 rfl)
          have hr3 := row_set R3.out 1 (.slice A8 (i + 1) c8)
          replace HO8 := Lib.hid (HO8.out.kept (gr_set u10 g3 1 (.slice A8 (i + 1) c8)) (own_row_types HO8.out R3.out (by decide)))
          replace XF := Lib.hid (FoV.keep hkp _ XF.out)
          replace XT := Lib.hid (XT.out.keep hkp)
          replace XB := Lib.hid (XB.out.keep hkp)
          replace R3 := Lib.hid (show (u10.setCell ⟨g3, 1, none⟩ (.slice A8 (i + 1) c8)).heap[g3]? = some (.cells #[.slice A7 NT c7, .slice A8 (i + 1) c8, .slice A10 NB c10] 42 (0, 0)) from hr3)
          replace HBX := Lib.hid (HBX.out.trans hbs2)
          clear hbs2 hkp hr3
          refine Tin.reg_done (by kernel_rfl) ?_
          go_wp2_with fail
          exact ⟨⟨i + 1, A8, c8, _, by omega, rfl, R3.out, HO8.out, XF.out, XT.out, XB.out, HBX.out⟩, by simp only [intOf]; omega⟩
        · try simp only [List.getElem_toArray, List.getElem_cons_succ, List.getElem_cons_zero]
          go_wp2_with fail
          have hv := ba (brefl z1) (.cells #[.int .i64 etag, .slice A21 ed.ts.length c21, .slice A22 ed.sub.len c22, .slice A23 ed.bl.length c23] 79)
          have hnw := SlV.new_ z1 79 #[.int .i64 etag, .slice A21 ed.ts.length c21, .slice A22 ed.sub.len c22, .slice A23 ed.bl.length c23]
          refine ⟨w.heap.size + 2, hv.mono SZ, Nat.le_refl _, ?_⟩
          replace R3 := Lib.hid ((hv.block _ (row_lt R3.out)).trans R3.out)
          replace HO := Lib.hid (HO.out.keep hv)
          replace XF := Lib.hid (FoV.keep (Kp.mono (Kp.all hv) (fun _ h _ => h)) _ XF.out)
          replace HVB := Lib.hid (HVB.out.trans (hv.mono HVB.out.size))
          replace XT := Lib.hid (XT.out.keep (Kp.mono (Kp.all hv) (fun _ h _ => h)))
          replace XB := Lib.hid (XB.out.keep (Kp.mono (Kp.all hv) (fun _ h _ => h)))
          replace HE2 := Lib.hid (HE2.out.keep (Kp.mono (Kp.all hv) (fun _ h _ => h)))
          have HNW := Lib.hid hnw
          replace SZ := Nat.le_trans SZ hv.size
          clear hnw hv
          generalize z1.alloc (.cells #[.int .i64 etag, .slice A21 ed.ts.length c21, .slice A22 ed.sub.len c22, .slice A23 ed.bl.length c23] 79) = z2 at *
          generalize z1.heap.size = g7 at *
          refine Tin.reg_one 1 _ rfl (by kernel_rfl) ?_
          try simp only [List.getElem_toArray, List.getElem_cons_succ, List.getElem_cons_zero]
          have kl := row_cell (v := (.slice A' i c')) R3.out 1 rfl
          go_wp2_with fail
          clear kl
          refine ⟨w.heap.size + 2, Below.refl _ _, Nat.le_refl _, ?_⟩
          refine Tin.reg_one 17 _ rfl (by kernel_rfl) ?_
          try simp only [List.getElem_toArray, List.getElem_cons_succ, List.getElem_cons_zero]
          have hmx : (i + 1) ≤ 1000 := by omega
          go_wp2_with (at_builtin; refine Tin.wplv_app svSb z2 rfl (.tmp 20) (.tmp 35) rfl (w.heap.size + 2) _ _ _ rfl HO.out (some ⟨g7, 0, none⟩) 1 1 [.int .i64 etag, .slice A21 ed.ts.length c21, .slice A22 ed.sub.len c22, .slice A23 ed.bl.length c23] rfl rfl HNW.out (by intro u hu; simp only [List.mem_cons, List.not_mem_nil, or_false] at hu; rcases hu with rfl | rfl | rfl | rfl <;> rfl) (by omega) (by omega) SZ ?_; intro A8 c8 u10 ho8 hg8 how8; have HO8 := Lib.hid ho8; have HG8 := Lib.hid hg8; have HW8 := Lib.hid how8; clear ho8 hg8 how8; (try simp only [Act.put, List.setIfInBounds_toArray, List.set_cons_succ, List.set_cons_zero]))
          replace HG8 := Lib.hid (show z2.grownBy u10 (Value.slice A' i c').ownBlock from HG8.out)
          replace HW8 := Lib.hid (show (Value.slice A8 (i + 1) c8).ownBlock = (Value.slice A' i c').ownBlock ∨ (Value.slice A8 (i + 1) c8).ownBlock = some z2.heap.size from HW8.out)
          have hbb : Below (w.heap.size + 2) z2 u10 := (Below.refl _ _).grown HG8.out SZ (fun k hk => (World.ownsRow.lt HO.out k hk).1)
          refine ⟨w.heap.size + 2, hbb, Nat.le_refl _, ?_⟩
          have hst := nb2_step (n := w.heap.size + 2) (g := g3) (v' := (.slice A8 (i + 1) c8)) HG8.out HW8.out
          replace R3 := Lib.hid ((HG8.out.block _ (row_lt R3.out) (fun e => (own_row_types HO.out R3.out (by decide)).elim (fun h => by rw [h] at e; cases e) (fun h => h e.symm))).trans R3.out)
          have hxf : FoV u10 (NB2 (w.heap.size + 2) (.slice A8 (i + 1) c8) g3) true (d.sub.take (i + 1)) (xs ++ [.int .i64 etag, .slice A21 ed.ts.length c21, .slice A22 ed.sub.len c22, .slice A23 ed.bl.length c23]) := by
            rw [HTK.out]
            refine FoV.mono (fun b _ h => hst.2 b h) _ (FoV.keep hst.1 _ ?_)
            exact FoV.mono (fun b hlt h => ⟨h, hlt⟩) _ (FoV.app _ _ XF.out (FoV.one (k := true) (e := ⟨etag, ed⟩) HE2.out))
          replace XT := Lib.hid (((XT.out.mono (fun b hlt h => ⟨h, hlt⟩)).keep hst.1).mono (q := (NB2 (w.heap.size + 2) (.slice A8 (i + 1) c8) g3)) (fun b _ h => hst.2 b h))
          replace XB := Lib.hid (((XB.out.mono (fun b hlt h => ⟨h, hlt⟩)).keep hst.1).mono (q := (NB2 (w.heap.size + 2) (.slice A8 (i + 1) c8) g3)) (fun b _ h => hst.2 b h))
          replace XF := Lib.hid hxf
          replace HBX := Lib.hid (HBX.out.trans ((HVB.out.mono hsz).trans hbb))
          have SZ2 := Nat.le_trans SZ hbb.size
          clear hst hxf HVB HO HNW HE2 hbb
          refine Tin.reg_quiets [18] _ 1 rfl (by simp only [Tin.pick, List.map_cons, List.map_nil, Array.getD_eq_getD_getElem?, List.getElem?_toArray, List.getElem?_cons_zero, List.getElem?_cons_succ, Option.getD_some]; rfl) (by kernel_rfl) (by kernel_rfl) ?_
          repeat (first | go_big_quiet_step (fail))
          refine wpQuiet_nil ?_
          refine Tin.reg_one 19 _ rfl (by kernel_rfl) ?_
          try simp only [List.getElem_toArray, List.getElem_cons_succ, List.getElem_cons_zero]
          have ks := row_cell (v := (.slice A' i c')) R3.out 1 rfl
          have ys := frozen_of_row _ _ 1 _ _ R3.out
          go_wp2_with fail
          clear ks ys
          have hbs2 : Below (w.heap.size + 2) u10 (u10.setCell ⟨g3, 1, none⟩ (.slice A8 (i + 1) c8)) := (Below.refl _ _).setCell (p := ⟨g3, 1, none⟩) hg3 _
          refine ⟨w.heap.size + 2, hbs2, Nat.le_refl _, ?_⟩
          have hkp : Kp (NB2 (w.heap.size + 2) (.slice A8 (i + 1) c8) g3) u10 (u10.setCell ⟨g3, 1, none⟩ (.slice A8 (i + 1) c8)) := set_kp _ (fun h => h.2.2 rfl)
          have hr3 := row_set R3.out 1 (.slice A8 (i + 1) c8)
          replace HO8 := Lib.hid (HO8.out.kept (gr_set u10 g3 1 (.slice A8 (i + 1) c8)) (own_row_types HO8.out R3.out (by decide)))
          replace XF := Lib.hid (FoV.keep hkp _ XF.out)
          replace XT := Lib.hid (XT.out.keep hkp)
          replace XB := Lib.hid (XB.out.keep hkp)
          replace R3 := Lib.hid (show (u10.setCell ⟨g3, 1, none⟩ (.slice A8 (i + 1) c8)).heap[g3]? = some (.cells #[.slice A7 NT c7, .slice A8 (i + 1) c8, .slice A10 NB c10] 42 (0, 0)) from hr3)
          replace HBX := Lib.hid (HBX.out.trans hbs2)
          clear hbs2 hkp hr3
          refine Tin.reg_done (by kernel_rfl) ?_
          go_wp2_with fail
          exact ⟨⟨i + 1, A8, c8, _, by omega, rfl, R3.out, HO8.out, XF.out, XT.out, XB.out, HBX.out⟩, by simp only [intOf]; omega⟩
  have LT1 : w.heap.size < w1.heap.size := row_lt R1.out
  have LT2 : w.heap.size + 1 < w1.heap.size := row_lt R2.out
  have hrb : w.heap.size ≤ w1.heap.size := Nat.le_of_lt LT1
  have SZ : w1.heap.size ≤ w1.drew.heap.size := Nat.le_refl _
  have hb := ud' (brefl w1)
  replace R1 := Lib.hid ((hb.block _ LT1).trans R1.out)
  replace R2 := Lib.hid ((hb.block _ LT2).trans R2.out)
  replace HD := Lib.hid (DiP.bel HD.out (hb.mono hrb))
  replace HB := Lib.hid (HB.out.trans (hb.mono hrb))
  clear hb
  refine Tin.reg_begin (w1.heap.size) 9 (by rfl) (by kernel_rfl) ?_
  generalize w1.drew = u0 at *
  have k0 : ∀ p : Bel (w1.heap.size) u0, p.w'.cell? ⟨w.heap.size, 0, none⟩ = some (.slice At NT ct) := fun p => row_cell ((p.h.block _ LT1).trans R1.out) 0 rfl
  have k2 : ∀ p : Bel (w1.heap.size) u0, p.w'.cell? ⟨w.heap.size, 2, none⟩ = some (.slice Ab NB cb) := fun p => row_cell ((p.h.block _ LT1).trans R1.out) 2 rfl
  refine Tin.reg_quiets [0, 1, 3, 4] _ 5 rfl (by simp only [Tin.pick, List.map_cons, List.map_nil, Array.getD_eq_getD_getElem?, List.getElem?_toArray, List.getElem?_cons_zero, List.getElem?_cons_succ, Option.getD_some]; rfl) (by kernel_rfl) (by kernel_rfl) ?_
  repeat (first | go_big_quiet_step (fail))
  refine wpQuiet_nil ?_
  clear k0 k2
  refine Tin.reg_two 2 7 _ _ rfl rfl (by kernel_rfl) ?_ ?_
  · try simp only [List.getElem_toArray, List.getElem_cons_succ, List.getElem_cons_zero]
    go_wp2_with fail
    refine (HTG.out _ ((HD.out.tg).mono (fun b _ h => Nat.lt_of_lt_of_le h (Nat.le_trans hrb SZ)))).mono ?_
    rintro e s1 ⟨A7, c7, rfl, hx, hv⟩
    go_wp2_with fail
    refine ⟨w1.heap.size, hv.mono SZ, Nat.le_refl _, ?_⟩
    have hxx : TgS s1 (fun b => w.heap.size + 2 ≤ b) A7 d.ts := hx.mono (fun b _ h => (by have := SZ; have := HZ1.out; omega))
    have hb := hv.mono SZ
    replace R1 := Lib.hid ((hb.block _ LT1).trans R1.out)
    replace R2 := Lib.hid ((hb.block _ LT2).trans R2.out)
    replace HD := Lib.hid (DiP.bel HD.out (hb.mono hrb))
    replace HB := Lib.hid (HB.out.trans (hb.mono hrb))
    replace SZ := Nat.le_trans SZ hv.size
    have XT := Lib.hid hxx
    clear hv hb hx hxx
    refine Tin.reg_two 5 7 _ _ rfl rfl (by kernel_rfl) ?_ ?_
    · try simp only [List.getElem_toArray, List.getElem_cons_succ, List.getElem_cons_zero]
      go_wp2_with fail
      refine (HOW.out _ HD.out.bl.sl).mono ?_
      rintro e s2 ⟨A10, c10, rfl, hx, hv⟩
      go_wp2_with fail
      refine ⟨w1.heap.size, hv.mono SZ, Nat.le_refl _, ?_⟩
      have hxx : SlP .u8 s2 (fun b => w.heap.size + 2 ≤ b) A10 d.bl := SlP.ofOwn hx (fun b _ h => (by have := SZ; have := HZ1.out; omega))
      replace XT := Lib.hid (XT.out.keep (Kp.mono (Kp.all hv) (fun _ h _ => h)))
      have hb := hv.mono SZ
      replace R1 := Lib.hid ((hb.block _ LT1).trans R1.out)
      replace R2 := Lib.hid ((hb.block _ LT2).trans R2.out)
      replace HD := Lib.hid (DiP.bel HD.out (hb.mono hrb))
      replace HB := Lib.hid (HB.out.trans (hb.mono hrb))
      replace SZ := Nat.le_trans SZ hv.size
      have XB := Lib.hid hxx
      clear hv hb hx hxx
      refine Tin.reg_quiets [6] _ 2 rfl (by simp only [Tin.pick, List.map_cons, List.map_nil, Array.getD_eq_getD_getElem?, List.getElem?_toArray, List.getElem?_cons_zero, List.getElem?_cons_succ, Option.getD_some]; rfl) (by kernel_rfl) (by kernel_rfl) ?_
      repeat (first | go_big_quiet_step (fail))
      refine wpQuiet_nil ?_
      refine Tin.reg_one 7 _ rfl (by kernel_rfl) ?_
      try simp only [List.getElem_toArray, List.getElem_cons_succ, List.getElem_cons_zero]
      go_wp2_with fail
      refine ⟨w1.heap.size, (ba (brefl s2) (.cells #[.slice none 0 0, .slice none 0 0, .slice none 0 0] 42)).mono SZ, Nat.le_refl _, ?_⟩
      refine Tin.reg_one 8 _ rfl (by kernel_rfl) ?_
      try simp only [List.getElem_toArray, List.getElem_cons_succ, List.getElem_cons_zero]
      go_wp2_with fail
      have hv := ba (brefl s2) (.cells #[.slice A7 NT c7, .slice none 0 0, .slice A10 NB c10] 42)
      refine ⟨w1.heap.size, ⟨rfl, rfl, rfl, by simp, fun i hi => (heap_alloc_old s2 _ (Nat.lt_of_lt_of_le hi SZ)).trans (heap_alloc_old s2 _ (Nat.lt_of_lt_of_le hi SZ)).symm⟩, Nat.le_refl _, ?_⟩
      have hg3 : w.heap.size + 2 ≤ s2.heap.size := by have := SZ; have := HZ1.out; omega
      replace XT := Lib.hid (XT.out.mono (q := (fun b => w.heap.size + 2 ≤ b ∧ b ≠ s2.heap.size)) (fun b hb h => ⟨h, by omega⟩))
      replace XB := Lib.hid (XB.out.mono (q := (fun b => w.heap.size + 2 ≤ b ∧ b ≠ s2.heap.size)) (fun b hb h => ⟨h, by omega⟩))
      replace XT := Lib.hid (XT.out.keep (Kp.mono (Kp.all hv) (fun _ h _ => h)))
      replace XB := Lib.hid (XB.out.keep (Kp.mono (Kp.all hv) (fun _ h _ => h)))
      have R3 := Lib.hid (heap_alloc_new s2 (.cells #[.slice A7 NT c7, .slice none 0 0, .slice A10 NB c10] 42))
      have hb := hv.mono SZ
      replace R1 := Lib.hid ((hb.block _ LT1).trans R1.out)
      replace R2 := Lib.hid ((hb.block _ LT2).trans R2.out)
      replace HD := Lib.hid (DiP.bel HD.out (hb.mono hrb))
      replace HB := Lib.hid (HB.out.trans (hb.mono hrb))
      clear hb hv
      generalize s2.alloc (.cells #[.slice A7 NT c7, .slice none 0 0, .slice A10 NB c10] 42) = s3 at *
      refine Tin.reg_done (by kernel_rfl) ?_
      exact tail1 _ _ _ _ _ _ _ _ _ _ _ _ _ hg3 R3.out XT.out XB.out R1.out R2.out HD.out HB.out
    · try simp only [List.getElem_toArray, List.getElem_cons_succ, List.getElem_cons_zero]
      go_wp2_with fail
      have hv := ba (brefl s1) (.cells #[.slice none 0 0, .slice none 0 0, .slice none 0 0] 42)
      have hr3 := heap_alloc_new s1 (.cells #[.slice none 0 0, .slice none 0 0, .slice none 0 0] 42)
      refine ⟨w1.heap.size, hv.mono SZ, Nat.le_refl _, ?_⟩
      have hg3 : w.heap.size + 2 ≤ s1.heap.size := by have := SZ; have := HZ1.out; omega
      replace XT := Lib.hid (XT.out.mono (q := (fun b => w.heap.size + 2 ≤ b ∧ b ≠ s1.heap.size)) (fun b hb h => ⟨h, by omega⟩))
      replace XT := Lib.hid (XT.out.keep (Kp.mono (Kp.all hv) (fun _ h _ => h)))
      have hb := hv.mono SZ
      replace R1 := Lib.hid ((hb.block _ LT1).trans R1.out)
      replace R2 := Lib.hid ((hb.block _ LT2).trans R2.out)
      replace HD := Lib.hid (DiP.bel HD.out (hb.mono hrb))
      replace HB := Lib.hid (HB.out.trans (hb.mono hrb))
      have R3 := Lib.hid hr3
      replace SZ := Nat.le_trans SZ hv.size
      clear hv hb hr3
      generalize s1.alloc (.cells #[.slice none 0 0, .slice none 0 0, .slice none 0 0] 42) = s2 at *
      refine Tin.reg_one 5 _ rfl (by kernel_rfl) ?_
      try simp only [List.getElem_toArray, List.getElem_cons_succ, List.getElem_cons_zero]
      go_wp2_with fail
      refine (HOW.out _ HD.out.bl.sl).mono ?_
      rintro e s3 ⟨A10, c10, rfl, hx, hv⟩
      go_wp2_with fail
      refine ⟨w1.heap.size, hv.mono SZ, Nat.le_refl _, ?_⟩
      have hxx : SlP .u8 s3 (fun b => w.heap.size + 2 ≤ b ∧ b ≠ s1.heap.size) A10 d.bl := SlP.ofOwn hx (fun b _ h => ⟨by have := SZ; have := HZ1.out; omega, fun e => by have := row_lt R3.out; omega⟩)
      replace XT := Lib.hid (XT.out.keep (Kp.mono (Kp.all hv) (fun _ h _ => h)))
      replace R3 := Lib.hid ((hv.block _ (row_lt R3.out)).trans R3.out)
      have hb := hv.mono SZ
      replace R1 := Lib.hid ((hb.block _ LT1).trans R1.out)
      replace R2 := Lib.hid ((hb.block _ LT2).trans R2.out)
      replace HD := Lib.hid (DiP.bel HD.out (hb.mono hrb))
      replace HB := Lib.hid (HB.out.trans (hb.mono hrb))
      replace SZ := Nat.le_trans SZ hv.size
      have XB := Lib.hid hxx
      clear hv hb hx hxx
      refine Tin.reg_quiets [6] _ 1 rfl (by simp only [Tin.pick, List.map_cons, List.map_nil, Array.getD_eq_getD_getElem?, List.getElem?_toArray, List.getElem?_cons_zero, List.getElem?_cons_succ, Option.getD_some]; rfl) (by kernel_rfl) (by kernel_rfl) ?_
      repeat (first | go_big_quiet_step (fail))
      refine wpQuiet_nil ?_
      refine Tin.reg_one 8 _ rfl (by kernel_rfl) ?_
      try simp only [List.getElem_toArray, List.getElem_cons_succ, List.getElem_cons_zero]
      go_wp2_with ((with_reducible refine wpl_store_row rtDi ?_ (.tmp 3) (.tmp 11) ?_ (s1.heap.size) ?_ #[.slice A7 NT c7, .slice none 0 0, .slice A10 NB c10] ?_ ?_ 42 ?_ #[.slice none 0 0, .slice none 0 0, .slice none 0 0] ?_ R3.out ?_); rfl; rfl; rfl; rfl; (simp [Value.oneCell']); rfl; rfl; intro s4 hr hg hs; (try simp only [Act.put, List.setIfInBounds_toArray, List.set_cons_succ, List.set_cons_zero]))
      have hb : Below (w1.heap.size) s3 s4 := (Below.refl _ _).grown hg SZ (fun k hk => by cases hk; have := hg3; have := HZ1.out; omega)
      refine ⟨w1.heap.size, hb, Nat.le_refl _, ?_⟩
      have R3 := Lib.hid hr
      replace XT := Lib.hid (XT.out.keep (Kp.grown hg (fun b hb e => hb.2 (Option.some.inj e))))
      replace XB := Lib.hid (XB.out.keep (Kp.grown hg (fun b hb e => hb.2 (Option.some.inj e))))
      replace R1 := Lib.hid ((hb.block _ LT1).trans R1.out)
      replace R2 := Lib.hid ((hb.block _ LT2).trans R2.out)
      replace HD := Lib.hid (DiP.bel HD.out (hb.mono hrb))
      replace HB := Lib.hid (HB.out.trans (hb.mono hrb))
      clear hb
      refine Tin.reg_done (by kernel_rfl) ?_
      exact tail1 _ _ _ _ _ _ _ _ _ _ _ _ _ hg3 R3.out XT.out XB.out R1.out R2.out HD.out HB.out
  · try simp only [List.getElem_toArray, List.getElem_cons_succ, List.getElem_cons_zero]
    go_wp2_with fail
    have hv := ba (brefl u0) (.cells #[.slice none 0 0, .slice none 0 0, .slice none 0 0] 42)
    have hr3 := heap_alloc_new u0 (.cells #[.slice none 0 0, .slice none 0 0, .slice none 0 0] 42)
    refine ⟨w1.heap.size, hv.mono SZ, Nat.le_refl _, ?_⟩
    have hg3 : w.heap.size + 2 ≤ u0.heap.size := by have := SZ; have := HZ1.out; omega
    have hb := hv.mono SZ
    replace R1 := Lib.hid ((hb.block _ LT1).trans R1.out)
    replace R2 := Lib.hid ((hb.block _ LT2).trans R2.out)
    replace HD := Lib.hid (DiP.bel HD.out (hb.mono hrb))
    replace HB := Lib.hid (HB.out.trans (hb.mono hrb))
    have R3 := Lib.hid hr3
    replace SZ := Nat.le_trans SZ hv.size
    clear hv hb hr3
    generalize u0.alloc (.cells #[.slice none 0 0, .slice none 0 0, .slice none 0 0] 42) = s1 at *
    refine Tin.reg_one 2 _ rfl (by kernel_rfl) ?_
    try simp only [List.getElem_toArray, List.getElem_cons_succ, List.getElem_cons_zero]
    go_wp2_with fail
    refine (HTG.out _ ((HD.out.tg).mono (fun b _ h => Nat.lt_of_lt_of_le h (Nat.le_trans hrb SZ)))).mono ?_
    rintro e s2 ⟨A7, c7, rfl, hx, hv⟩
    go_wp2_with fail
    refine ⟨w1.heap.size, hv.mono SZ, Nat.le_refl _, ?_⟩
    have hxx : TgS s2 (fun b => w.heap.size + 2 ≤ b ∧ b ≠ u0.heap.size) A7 d.ts := hx.mono (fun b _ h => ⟨by have := SZ; have := HZ1.out; omega, fun e => by have := row_lt R3.out; omega⟩)
    replace R3 := Lib.hid ((hv.block _ (row_lt R3.out)).trans R3.out)
    have hb := hv.mono SZ
    replace R1 := Lib.hid ((hb.block _ LT1).trans R1.out)
    replace R2 := Lib.hid ((hb.block _ LT2).trans R2.out)
    replace HD := Lib.hid (DiP.bel HD.out (hb.mono hrb))
    replace HB := Lib.hid (HB.out.trans (hb.mono hrb))
    replace SZ := Nat.le_trans SZ hv.size
    have XT := Lib.hid hxx
    clear hv hb hx hxx
    refine Tin.reg_one 5 _ rfl (by kernel_rfl) ?_
    try simp only [List.getElem_toArray, List.getElem_cons_succ, List.getElem_cons_zero]
    go_wp2_with fail
    refine (HOW.out _ HD.out.bl.sl).mono ?_
    rintro e s3 ⟨A10, c10, rfl, hx, hv⟩
    go_wp2_with fail
    refine ⟨w1.heap.size, hv.mono SZ, Nat.le_refl _, ?_⟩
    have hxx : SlP .u8 s3 (fun b => w.heap.size + 2 ≤ b ∧ b ≠ u0.heap.size) A10 d.bl := SlP.ofOwn hx (fun b _ h => ⟨by have := SZ; have := HZ1.out; omega, fun e => by have := row_lt R3.out; omega⟩)
    replace XT := Lib.hid (XT.out.keep (Kp.mono (Kp.all hv) (fun _ h _ => h)))
    replace R3 := Lib.hid ((hv.block _ (row_lt R3.out)).trans R3.out)
    have hb := hv.mono SZ
    replace R1 := Lib.hid ((hb.block _ LT1).trans R1.out)
    replace R2 := Lib.hid ((hb.block _ LT2).trans R2.out)
    replace HD := Lib.hid (DiP.bel HD.out (hb.mono hrb))
    replace HB := Lib.hid (HB.out.trans (hb.mono hrb))
    replace SZ := Nat.le_trans SZ hv.size
    have XB := Lib.hid hxx
    clear hv hb hx hxx
    refine Tin.reg_quiets [6] _ 1 rfl (by simp only [Tin.pick, List.map_cons, List.map_nil, Array.getD_eq_getD_getElem?, List.getElem?_toArray, List.getElem?_cons_zero, List.getElem?_cons_succ, Option.getD_some]; rfl) (by kernel_rfl) (by kernel_rfl) ?_
    repeat (first | go_big_quiet_step (fail))
    refine wpQuiet_nil ?_
    refine Tin.reg_one 8 _ rfl (by kernel_rfl) ?_
    try simp only [List.getElem_toArray, List.getElem_cons_succ, List.getElem_cons_zero]
    go_wp2_with ((with_reducible refine wpl_store_row rtDi ?_ (.tmp 3) (.tmp 11) ?_ (u0.heap.size) ?_ #[.slice A7 NT c7, .slice none 0 0, .slice A10 NB c10] ?_ ?_ 42 ?_ #[.slice none 0 0, .slice none 0 0, .slice none 0 0] ?_ R3.out ?_); rfl; rfl; rfl; rfl; (simp [Value.oneCell']); rfl; rfl; intro s4 hr hg hs; (try simp only [Act.put, List.setIfInBounds_toArray, List.set_cons_succ, List.set_cons_zero]))
    have hb : Below (w1.heap.size) s3 s4 := (Below.refl _ _).grown hg SZ (fun k hk => by cases hk; have := hg3; have := HZ1.out; omega)
    refine ⟨w1.heap.size, hb, Nat.le_refl _, ?_⟩
    have R3 := Lib.hid hr
    replace XT := Lib.hid (XT.out.keep (Kp.grown hg (fun b hb e => hb.2 (Option.some.inj e))))
    replace XB := Lib.hid (XB.out.keep (Kp.grown hg (fun b hb e => hb.2 (Option.some.inj e))))
    replace R1 := Lib.hid ((hb.block _ LT1).trans R1.out)
    replace R2 := Lib.hid ((hb.block _ LT2).trans R2.out)
    replace HD := Lib.hid (DiP.bel HD.out (hb.mono hrb))
    replace HB := Lib.hid (HB.out.trans (hb.mono hrb))
    clear hb
    refine Tin.reg_done (by kernel_rfl) ?_
    exact tail1 _ _ _ _ _ _ _ _ _ _ _ _ _ hg3 R3.out XT.out XB.out R1.out R2.out HD.out HB.out
end Go.Proofs.Ytkepbobnjplpoaa
