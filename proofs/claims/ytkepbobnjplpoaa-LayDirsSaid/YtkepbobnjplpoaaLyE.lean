/- The contracts of with, within and the reference's Dirs. -/
import Derived.Test.YtkepbobnjplpoaaLyD
namespace Go.Proofs.Ytkepbobnjplpoaa
open Go.RowKit
open Go.Tin
set_option linter.unusedVariables false
set_option linter.unusedSimpArgs false


theorem svDi : SV Try.prog 22 42 3 72 := SV.of Try.underlying22 (by kernel_rfl) (by decide)
/-- Blocks that are no spots lie as they lay. -/
def Nsq (w w' : World) : Prop := ∀ (k : Nat) (o : Obj), w.heap[k]? = some o → (∀ (cs : Array Value) (q : Nat × Nat), o ≠ .cells cs 53 q) → w'.heap[k]? = some o
theorem Nsq.refl (w : World) : Nsq w w := fun _ _ h _ => h
theorem Nsq.trans {a b c : World} (h : Nsq a b) (h' : Nsq b c) : Nsq a c := fun k o h1 h3 => h' k o (h k o h1 h3) h3
theorem Nsq.of_bel {w w' : World} (h : Below w.heap.size w w') : Nsq w w' := fun k o h1 _ => (h.block k (row_lt h1)).trans h1
theorem Nsq.of_own {B n sz : Nat} {w w' : World} {v : Value} {xs : List Value} (ho : OwnV 53 sz w B v n xs) (h : w.grownBy w' v.ownBlock) : Nsq w w' := fun k o h1 h3 => by
  refine (h.block k (row_lt h1) fun e => ?_).trans h1
  rcases ho.2 with ⟨rfl, _⟩ | ⟨q, cap, cur, rfl, _, hh, _⟩
  · cases e
  · have e : k = q := Option.some.inj e
    subst e
    rw [h1] at hh
    injection hh with hh
    exact h3 _ _ hh
theorem Nsq.row {k : Nat} {w w' : World} {cs : Array Value} {t : TypeId} (h : Nsq w w') (hr : w.heap[k]? = some (.cells cs t (0, 0))) (ht : t ≠ 53) : w'.heap[k]? = some (.cells cs t (0, 0)) := h k _ hr fun cs' q e => by injection e with _ e; exact ht e
set_option maxRecDepth 100000 in
set_option maxHeartbeats 4000000 in
theorem with_any (B : Nat) (A : Option Addr) (c : Nat) (l : List Sp) (what dir tag long : Int) (w : World) (h : OwnV 53 5 w B (.slice A l.length c) l.length (spsC l)) (hB : B ≤ w.heap.size) (he0 : 0 ≤ endL l) (he1 : endL l ≤ 100000000000000) (hl : l.length ≤ 100000000) :
    Calls Try.prog 34 #[.slice A l.length c, .int .i64 what, .int .i64 dir, .int .i64 tag, .int .i64 long] w fun e w' => ∃ A' c', e = .returned (.slice A' (wth l what dir tag long).length c') ∧ OwnV 53 5 w' B (.slice A' (wth l what dir tag long).length c') (wth l what dir tag long).length (spsC (wth l what dir tag long)) ∧ Below B w w' ∧ Nsq w w' := by
  have HO := Lib.hid h
  have HEV := Lib.hid (fun W => reven_any (endL l) W (by omega) (by omega))
  have HE := Lib.hid (end_any A c l w h.sl'.2.1 (by omega) (by omega) (by omega))
  have HLEN := Lib.hid (show (wth l what dir tag long).length = l.length + 1 from wth_len _ _ _ _ _)
  have HC := Lib.hid (show spsC (wth l what dir tag long) = spsC l ++ [.int .i64 what, .int .i64 dir, .int .i64 tag, .int .i64 (evenN (endL l)), .int .i64 long] by unfold wth; rw [spsC_app]; simp [spsC, spC])
  clear h
  rw [HLEN.out, HC.out]
  clear HLEN HC
  generalize endL l = E at *
  generalize evenN E = E' at *
  generalize spsC l = XS at *
  generalize l.length = N at *
  go_enter Try.func34, Try.ntmps34
  go_wp2_with fail
  refine HE.out.mono ?_
  rintro e w1 ⟨rfl, hb⟩
  replace HO := Lib.hid (HO.out.keep hb)
  have HB := Lib.hid (hb.mono hB)
  have HN := Lib.hid (Nsq.of_bel hb)
  replace hB := Nat.le_trans hB hb.size
  clear hb
  go_wp2_with fail
  refine (HEV.out _).mono ?_
  rintro e w' ⟨rfl, rfl⟩
  have hv := ba (brefl w1) (.cells #[.int .i64 what, .int .i64 dir, .int .i64 tag, .int .i64 E', .int .i64 long] 53)
  go_wp2_with (at_builtin; refine Tin.wplv_push svSp w1 #[.int .i64 what, .int .i64 dir, .int .i64 tag, .int .i64 E', .int .i64 long] rfl (.tmp 11) (.tmp 20) rfl B A N c XS rfl HO.out hB rfl rfl (by simp [Value.oneCell']) (by omega) (by omega) ?_; intro A4 c4 w4 ho4 hg4 how4; have HO4 := Lib.hid ho4; have HG4 := Lib.hid hg4; clear ho4 hg4 how4)
  go_ret
  refine ⟨A4, c4, rfl, HO4.out, HB.out.trans ?_, HN.out.trans ?_⟩
  · exact grown_below (Below.refl B _) HG4.out hB (fun k hk => (World.ownsRow.lt HO.out k hk).1)
  · exact Nsq.of_own HO.out HG4.out
theorem flatF_one (e : El) (r : Fo) : flatF (one e r) = e.d :: (flatF e.d.sub ++ flatF r) := rfl
theorem flat_take : ∀ (i : Nat) (f : Fo), i < f.len → flatF (f.take (i + 1)) = flatF (f.take i) ++ ((f.elem i).d :: flatF (f.elem i).d.sub)
  | _, .nil, h => by simp [Fo.len] at h
  | 0, .cons _ _ _ _ r, _ => by simp [Fo.take, Fo.elem, flatF]
  | i + 1, .cons _ _ _ _ r, h => by
    have := flat_take i r (by simpa [Fo.len] using h)
    simp only [Fo.take, Fo.elem, flatF] at this ⊢
    rw [this]
    simp
theorem take_cnt : ∀ (i : Nat) (f : Fo), i < f.len → (f.take (i + 1)).cnt = (f.take i).cnt + ((f.elem i).d.sub.cnt + 1)
  | _, .nil, h => by simp [Fo.len] at h
  | 0, .cons _ _ _ _ r, _ => by simp only [Fo.take, Fo.elem, Fo.cnt]; omega
  | i + 1, .cons _ _ _ _ r, h => by
    have := take_cnt i r (by simpa [Fo.len] using h)
    simp only [Fo.take, Fo.elem, Fo.cnt] at this ⊢
    omega
theorem take_cnt_le : ∀ (i : Nat) (f : Fo), (f.take i).cnt ≤ f.cnt
  | 0, f => Nat.zero_le _
  | i + 1, .nil => Nat.le_refl _
  | i + 1, .cons _ _ _ _ r => by
    have := take_cnt_le i r
    simp only [Fo.take, Fo.cnt]; omega
theorem DiV.bel {B : Nat} {w w' : World} {L : List Di} {xs : List Value} (h : DiV w (· < B) L xs) (hb : Below B w w') : DiV w' (· < B) L xs := h.keep (Kp.below hb fun _ _ h => h)
theorem diV_one (xs : List Value) : ∀ u ∈ xs, u.oneCell' = true → u.oneCell' = true := fun _ _ h => h
theorem DiV.one {w : World} {p : Nat → Prop} {L : List Di} {xs : List Value} (h : DiV w p L xs) : ∀ u ∈ xs, u.oneCell' = true := by
  induction h with
  | nil => simp
  | cons _ _ ih => simpa [Value.oneCell'] using ih
set_option maxRecDepth 100000 in
set_option maxHeartbeats 8000000 in
theorem within_any : ∀ (n : Nat) (B : Nat) (At As Ab : Option Addr) (ct cs cb : Nat) (d : Di) (w : World), d.sub.cnt < n → DiP w (· < B) At As Ab d → B ≤ w.heap.size → d.sub.cnt ≤ 100000000 →
    Calls Try.prog 36 #[.agg #[.slice At d.ts.length ct, .slice As d.sub.len cs, .slice Ab d.bl.length cb]] w fun e w' => ∃ A c xs, e = .returned (.slice A (d.sub.cnt + 1) c) ∧ OwnV 42 3 w' w.heap.size (.slice A (d.sub.cnt + 1) c) (d.sub.cnt + 1) xs ∧ DiV w' (· < B) (d :: flatF d.sub) xs ∧ Below w.heap.size w w' := by
  intro n
  induction n with
  | zero => intro B At As Ab ct cs cb d w h; omega
  | succ n ih =>
  intro B At As Ab ct cs cb d w hcnt hd hB hmax
  have IH := Lib.hid ih
  clear ih
  have HD := Lib.hid hd
  have hns : d.sub.len ≤ 100000000 := Nat.le_trans d.sub.len_cnt hmax
  clear hd
  generalize hsub : d.sub.len = NS at *
  generalize hts : d.ts.length = NT at *
  generalize hbl : d.bl.length = NB at *
  have HSUB := Lib.hid hsub
  have hb0 := ba (brefl w) (.cells (drow At NT ct As NS cs Ab NB cb) 42)
  have R1 := Lib.hid (heap_alloc_new w (.cells (drow At NT ct As NS cs Ab NB cb) 42))
  have HB0 := Lib.hid hb0
  have hs1 : (w.alloc (.cells (drow At NT ct As NS cs Ab NB cb) 42)).heap.size = w.heap.size + 1 := by simp
  have HS1 := Lib.hid hs1
  have DV0 := Lib.hid (DiV.cons (L := []) (HD.out.bel (hb0.mono hB)) DiV.nil (ct := ct) (cs := cs) (cb := cb))
  rw [hts, hsub, hbl] at DV0
  have HTS := Lib.hid hts
  have HBL := Lib.hid hbl
  clear hb0 hs1 hsub hts hbl
  go_enter Try.func36, Try.ntmps36
  go_wp2_with ((with_reducible refine wpl_load_row rtDi ?_ (.tmp 1) ?_ (w.heap.size) ?_ 42 (drow At NT ct As NS cs Ab NB cb) ?_ R1.out ?_); rfl; rfl; rfl; rfl; simp only [Act.put, List.setIfInBounds_toArray, List.set_cons_succ, List.set_cons_zero])
  generalize w.alloc (.cells (drow At NT ct As NS cs Ab NB cb) 42) = w1 at *
  have OL := Lib.hid (OwnV.lit (n := 1) (sz := 3) (e := 42) w1 (drow At NT ct As NS cs Ab NB cb) rfl (by decide))
  have hb1 := ba (brefl w1) (.cells (drow At NT ct As NS cs Ab NB cb) 42)
  have R2 := Lib.hid ((hb1.block _ (row_lt R1.out)).trans R1.out)
  have HB1 := Lib.hid hb1
  have DV1 := Lib.hid (DV0.out.bel (hb1.mono (Nat.le_trans hB HB0.out.size)))
  rw [HS1.out] at OL
  clear hb1 R1 DV0
  have hs2 : w.heap.size + 1 ≤ (w1.alloc (.cells (drow At NT ct As NS cs Ab NB cb) 42)).heap.size := by have := HS1.out; simp; omega
  generalize w1.alloc (.cells (drow At NT ct As NS cs Ab NB cb) 42) = w2 at *
  have HSU := Lib.hid HD.out.su
  go_loopw [3, 4] (fun s3 s4 wr => ∃ (i : Nat) (A : Option Addr) (c : Nat) (xs : List Value), i ≤ NS ∧ s4 = .int .i64 (i : Int) ∧ s3 = .slice A ((d.sub.take i).cnt + 1) c ∧ OwnV 42 3 wr (w.heap.size + 1) (.slice A ((d.sub.take i).cnt + 1) c) ((d.sub.take i).cnt + 1) xs ∧ DiV wr (· < B) (d :: flatF (d.sub.take i)) xs ∧ Below (w.heap.size + 1) w2 wr) (fun _ s4 _ => NS - (intOf s4).toNat)
  case atStart => exact ⟨0, _, _, _, by omega, rfl, rfl, OL.out, DV1.out, Below.refl _ _⟩
  case round =>
    obtain ⟨i, A, c, xs, hi, rfl, rfl, ho, hdv, hb⟩ := hrel
    have HO := Lib.hid ho
    have HDV := Lib.hid hdv
    have HB := Lib.hid hb
    have R := Lib.hid ((hb.block _ (by omega)).trans R2.out)
    have q1 := row_cell (v := .slice As NS cs) R.out 1 rfl
    have hBr : w.heap.size + 1 ≤ wr.heap.size := Nat.le_trans hs2 hb.size
    clear ho hdv hb
    by_cases hin : i < NS
    case neg =>
      obtain rfl : i = NS := by omega
      have ht : d.sub.take i = d.sub := by have := HSUB.out; rw [← this]; exact Fo.take_all _
      rw [ht] at HO HDV
      go_wp2_with fail
      go_ret
      refine ⟨A, c, rfl, xs, HO.out.mono (by omega), HDV.out, ?_⟩
      exact HB0.out.trans ((HB1.out.mono (by have := HS1.out; omega)).trans (HB.out.mono (by omega)))
    have i1 : (i : Int) < (NS : Int) := by omega
    have hif : i < d.sub.len := by rw [HSUB.out]; exact hin
    obtain ⟨b, off, rfl, hpb, hbs, hc⟩ := HSU.out.at_ (by omega)
    obtain ⟨At', ct', As', cs', Ab', cb', hr0, hdi⟩ := hc i hif
    have hbw : Below B w wr := HB0.out.mono hB |>.trans ((HB1.out.mono (by have := HS1.out; omega)).trans (HB.out.mono (by omega)))
    have HRG := Lib.hid (rng_tail (rng_below hbw hpb hr0))
    have HDI := Lib.hid (hdi.bel hbw)
    have hce := Fo.elem_cnt i d.sub hif
    have htc := take_cnt i d.sub hif
    have htl := take_cnt_le (i + 1) d.sub
    have HFT := Lib.hid (flat_take i d.sub hif)
    clear hc hr0 hdi
    generalize d.sub.elem i = el at *
    obtain ⟨etag, ed⟩ := el
    dsimp only at hce htc HFT
    dsimp only at HRG HDI
    replace HRG := Lib.hid (show wr.rangeAt b (off + i * 4 + 1) [.slice At' ed.ts.length ct', .slice As' ed.sub.len cs', .slice Ab' ed.bl.length cb'] from HRG.out)
    go_wp2_with ((with_reducible refine wpl_loadv rtDi ?_ (.tmp 19) ?_ b (off + i * 4 + 1) ?_ [.slice At' ed.ts.length ct', .slice As' ed.sub.len cs', .slice Ab' ed.bl.length cb'] ?_ HRG.out ?_); rfl; rfl; rfl; rfl; simp only [Act.put, List.setIfInBounds_toArray, List.set_cons_succ, List.set_cons_zero])
    clear q1
    refine (IH.out B At' As' Ab' ct' cs' cb' ed _ (by omega) HDI.out (by omega) (by omega)).mono ?_
    rintro e w3 ⟨A3, c3, ys, rfl, ho3, hv3, hb3⟩
    replace HO := Lib.hid (HO.out.keep hb3)
    replace HDV := Lib.hid (HDV.out.bel (hb3.mono (by omega)))
    have HO3 := Lib.hid ho3
    have HV3 := Lib.hid hv3
    replace HB := Lib.hid (HB.out.trans (hb3.mono hBr))
    have hBr3 := Nat.le_trans hBr hb3.size
    clear ho3 hv3 hb3
    generalize hT : (d.sub.take i).cnt = T at *
    generalize hE : ed.sub.cnt = EC at *
    have HTT := Lib.hid hT
    have HTC := Lib.hid htc
    clear hT hE
    go_wp2_with (at_builtin; refine Tin.wplv_app svDi w3 rfl (.tmp 14) (.tmp 21) rfl (w.heap.size + 1) _ (T + 1) xs rfl HO.out A3 (EC + 1) c3 ys rfl HO3.out.len HO3.out.sl'.2.1 HV3.out.one (by omega) (by omega) hBr3 ?_; intro A4 c4 w4 ho4 hg4 how4; have HO4 := Lib.hid ho4; have HG4 := Lib.hid hg4; clear ho4 hg4 how4)
    have hb4 := grown_below (Below.refl (w.heap.size + 1) w3) HG4.out hBr3 (fun k hk => (World.ownsRow.lt HO.out k hk).1)
    have hv4 := (DiV.app HDV.out HV3.out).bel (hb4.mono (by omega))
    refine ⟨⟨i + 1, A4, c4, xs ++ ys, by omega, rfl, ?_, ?_, ?_, HB.out.trans hb4⟩, by simp only [intOf]; omega⟩
    · rw [HTC.out, show T + (EC + 1) + 1 = T + 1 + (EC + 1) by omega]
    · rw [HTC.out, show T + (EC + 1) + 1 = T + 1 + (EC + 1) by omega]; exact HO4.out
    · rw [HFT.out]; exact hv4
end Go.Proofs.Ytkepbobnjplpoaa
