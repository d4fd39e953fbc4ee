/- A tree in memory of its own: the reference's OwnTags, OwnDir, Own. -/
import Derived.Test.YtkepbobnjplpoaaLzL
namespace Go.Proofs.Ytkepbobnjplpoaa
open Go.RowKit
open Go.Tin
set_option linter.unusedVariables false
set_option linter.unusedSimpArgs false


theorem svTg : SV Try.prog 38 50 4 48 := SV.of Try.underlying38 (by kernel_rfl) (by decide)
theorem svSb : SV Try.prog 39 79 4 80 := SV.of Try.underlying39 (by kernel_rfl) (by decide)
def NB (n : Nat) (v : Value) (b : Nat) : Prop := n ≤ b ∧ v.ownBlock ≠ some b
theorem nb_step {n : Nat} {v v' : Value} {u2 u3 : World} (hg : u2.grownBy u3 v.ownBlock) (how : v'.ownBlock = v.ownBlock ∨ v'.ownBlock = some u2.heap.size) :
    Kp (fun b => NB n v b ∧ b < u2.heap.size) u2 u3 ∧ ∀ b, NB n v b ∧ b < u2.heap.size → NB n v' b := by
  refine ⟨Kp.grown hg fun b hb e => hb.1.2 e.symm, fun b hb => ⟨hb.1.1, fun e => ?_⟩⟩
  rcases how with h | h
  · rw [h] at e; exact hb.1.2 e
  · rw [h] at e; injection e with e; omega
theorem nb_new {n m b : Nat} {v : Value} (hn : n ≤ m) (hv : ∀ q, v.ownBlock = some q → q < m) (hb : m ≤ b) : NB n v b := ⟨Nat.le_trans hn hb, fun e => by have := hv b e; omega⟩
set_option maxRecDepth 100000 in
set_option maxHeartbeats 8000000 in
theorem owntags_any (A : Option Addr) (c : Nat) (ts : List Tg) (w : World) (hs : TgK w A ts) (hl : ts.length ≤ 1000000) (hd : ∀ t ∈ ts, t.d.length ≤ 1000000) :
    Calls Try.prog 49 #[.slice A ts.length c] w fun e w' => ∃ A' c', e = .returned (.slice A' ts.length c') ∧ TgS w' (fun b => w.heap.size ≤ b) A' ts ∧ Below w.heap.size w w' := by
  have HS := Lib.hid hs
  have HD := Lib.hid hd
  clear hs hd
  generalize hn : ts.length = n at *
  have HN := Lib.hid hn
  clear hn
  go_enter Try.func49, Try.ntmps49
  go_wp2_with fail
  go_loopw [3, 4] (fun s3 s4 wr => ∃ (i : Nat) (A' : Option Addr) (c' : Nat) (xs : List Value), i ≤ n ∧ s4 = .int .i64 (i : Int) ∧ s3 = .slice A' i c' ∧ OwnV 50 4 wr w.heap.size (.slice A' i c') i xs ∧ TgV (BtP wr (NB w.heap.size (.slice A' i c'))) xs (ts.take i) ∧ Below w.heap.size w wr) (fun _ s4 _ => n - (intOf s4).toNat)
  case atStart => exact ⟨0, none, 0, [], by omega, rfl, rfl, OwnV.nil_ _ _ _ _, .nil, Below.refl _ _⟩
  case round =>
    obtain ⟨i, A', c', xs, hi, rfl, rfl, ho, htv, hb⟩ := hrel
    have HB := Lib.hid hb
    have HO := Lib.hid ho
    have HV := Lib.hid htv
    by_cases hin : i < n
    case neg =>
      obtain rfl : i = n := by omega
      rw [List.take_of_length_le (by rw [HN.out]; exact Nat.le_refl _)] at HV
      clear hb ho htv
      go_wp2_with fail
      go_ret
      exact ⟨A', c', rfl, ⟨xs, SvP.ofOwn HO.out (fun _ _ h => h), TgV.mono (fun _ _ h => h.mono fun _ _ h => h.1) HV.out⟩, HB.out⟩
    have i1 : (i : Int) < (n : Int) := by omega
    have hil : i < ts.length := by rw [HN.out]; exact hin
    obtain ⟨b, off, rfl, hpb, hb1, hc1⟩ := (TgS.keep HS.out (Kp.below hb fun _ _ h => h)).at_ (by omega)
    obtain ⟨d1, e1, hr1, hs1, hby, hml⟩ := hc1 i hil
    have hdl := HD.out _ (List.getElem_mem hil)
    have HTK := Lib.hid (List.take_succ_eq_append_getElem hil)
    clear hb ho htv hc1
    generalize ts[i] = t at *
    obtain ⟨tn, tt, tc, td⟩ := t
    dsimp only at hr1 hs1 hdl hby hml
    have E1 := Lib.hid (show RgK wr b (off + i * 4) [.int .i64 tn, .int .i64 tt, .int .i64 tc, .slice d1 td.length e1] from ⟨hb1, hr1⟩)
    have S1 := Lib.hid hs1.sl
    clear hr1 hs1
    go_wp2_with fail
    have hBw := HB.out.size
    have L1 : b < w.heap.size := hpb
    have HOL := Lib.hid (fun q (hq : (Value.slice A' i c').ownBlock = some q) => (World.ownsRow.lt HO.out q hq).2)
    have HVB := Lib.hid (brefl wr)
    have SZ : w.heap.size ≤ wr.drew.heap.size := HB.out.size
    have hb := ud' (brefl wr)
    replace S1 := Lib.hid (S1.out.keep hb)
    replace E1 := Lib.hid (E1.out.keep hb)
    replace HO := Lib.hid (HO.out.keep hb)
    replace HVB := Lib.hid (HVB.out.trans (hb.mono HVB.out.size))
    clear hb
    refine Tin.reg_begin (w.heap.size) 16 (by rfl) (by kernel_rfl) ?_
    have SZ0 : wr.heap.size ≤ wr.drew.heap.size := Nat.le_refl _
    generalize wr.drew = u0 at *
    have q1 : ∀ p : Bel (w.heap.size) u0, p.w'.cell? ⟨b, off + i * 4, none⟩ = some (.int .i64 tn) := fun p => (rng_below p.h L1 E1.out.2) 0 _ rfl
    refine Tin.reg_quiets [0, 1, 2, 3, 4, 5, 6, 7, 8, 9, 10] _ 5 rfl (by simp only [Tin.pick, List.map_cons, List.map_nil, Array.getD_eq_getD_getElem?, List.getElem?_toArray, List.getElem?_cons_zero, List.getElem?_cons_succ, Option.getD_some]; rfl) (by kernel_rfl) (by kernel_rfl) ?_
    repeat (first | ((with_reducible refine wpq_loadv rtVl ?_ (.tmp 20) ?_ b (off + i * 4 + 1) ?_ [.int .i64 tt, .int .i64 tc, .slice d1 td.length e1] ?_ (fun W h => by obtain ⟨p, rfl⟩ := h; exact rng_tail (rng_below p.h L1 E1.out.rng)) ?_); rfl; rfl; rfl; rfl; simp only [Act.put, List.setIfInBounds_toArray, List.set_cons_succ, List.set_cons_zero]) | go_big_quiet_step (fail))
    refine wpQuiet_nil ?_
    clear q1
    refine Tin.reg_one 11 _ rfl (by kernel_rfl) ?_
    try simp only [List.getElem_toArray, List.getElem_cons_succ, List.getElem_cons_zero]
    go_wp2_with fail
    refine (vown_any tt tc d1 td e1 _ S1.out (by omega)).mono ?_
    rintro e v1 ⟨A7, c7, rfl, hv1_0, hv⟩
    go_wp2_with fail
    refine ⟨w.heap.size, hv.mono SZ, Nat.le_refl _, ?_⟩
    replace S1 := Lib.hid (S1.out.keep hv)
    replace E1 := Lib.hid (E1.out.keep hv)
    replace HO := Lib.hid (HO.out.keep hv)
    replace HVB := Lib.hid (HVB.out.trans (hv.mono HVB.out.size))
    have HO7 := Lib.hid hv1_0
    replace SZ := Nat.le_trans SZ hv.size
    clear hv1_0 hv
    refine Tin.reg_quiets [12] _ 3 rfl (by simp only [Tin.pick, List.map_cons, List.map_nil, Array.getD_eq_getD_getElem?, List.getElem?_toArray, List.getElem?_cons_zero, List.getElem?_cons_succ, Option.getD_some]; rfl) (by kernel_rfl) (by kernel_rfl) ?_
    repeat (first | go_big_quiet_step (fail))
    refine wpQuiet_nil ?_
    have hbt := BtP.mono (q := NB w.heap.size (.slice A' i c')) (p := fun b => wr.heap.size ≤ b) (show BtP v1 (fun b => wr.heap.size ≤ b) (.slice A7 td.length c7) td from ⟨A7, c7, rfl, SlP.ofOwn HO7.out (fun b _ h => Nat.le_trans SZ0 h), hby, hml⟩) (fun b _ h => nb_new hBw HOL.out h)
    have HBT := Lib.hid hbt
    clear hbt
    refine Tin.reg_one 13 _ rfl (by kernel_rfl) ?_
    try simp only [List.getElem_toArray, List.getElem_cons_succ, List.getElem_cons_zero]
    go_wp2_with fail
    have hv := ba (brefl v1) (.cells #[.int .i64 tn, .int .i64 tt, .int .i64 tc, .slice A7 td.length c7] 50)
    have hnw := SlV.new_ v1 50 #[.int .i64 tn, .int .i64 tt, .int .i64 tc, .slice A7 td.length c7]
    refine ⟨w.heap.size, hv.mono SZ, Nat.le_refl _, ?_⟩
    have HNW := Lib.hid hnw
    replace HO := Lib.hid (HO.out.keep hv)
    replace HVB := Lib.hid (HVB.out.trans (hv.mono HVB.out.size))
    replace HBT := Lib.hid (BtP.keep HBT.out (Kp.mono (Kp.all hv) (fun _ h _ => h)))
    have hzz : v1.heap.size < (v1.alloc (.cells #[.int .i64 tn, .int .i64 tt, .int .i64 tc, .slice A7 td.length c7] 50)).heap.size := by simp
    replace SZ := Nat.le_trans SZ hv.size
    clear hv hnw
    generalize hg7 : v1.heap.size = g7 at *
    clear hg7
    generalize v1.alloc (.cells #[.int .i64 tn, .int .i64 tt, .int .i64 tc, .slice A7 td.length c7] 50) = u9 at *
    refine Tin.reg_one 14 _ rfl (by kernel_rfl) ?_
    try simp only [List.getElem_toArray, List.getElem_cons_succ, List.getElem_cons_zero]
    go_wp2_with (at_builtin; refine Tin.wplv_app svTg u9 rfl (.tmp 11) (.tmp 24) rfl w.heap.size _ _ _ rfl HO.out (some ⟨g7, 0, none⟩) 1 1 [.int .i64 tn, .int .i64 tt, .int .i64 tc, .slice A7 td.length c7] rfl rfl HNW.out (by intro u hu; simp only [List.mem_cons, List.not_mem_nil, or_false] at hu; rcases hu with rfl | rfl | rfl | rfl <;> rfl) (by omega) (by omega) SZ ?_; intro A8 c8 u10 ho8 hg8 how8; have HO8 := Lib.hid ho8; have HG8 := Lib.hid hg8; have HW8 := Lib.hid how8; clear ho8 hg8 how8; (try simp only [Act.put, List.setIfInBounds_toArray, List.set_cons_succ, List.set_cons_zero]))
    have hbb : Below w.heap.size u9 u10 := (Below.refl _ _).grown HG8.out SZ (fun k hk => (World.ownsRow.lt HO.out k hk).1)
    refine ⟨w.heap.size, hbb, Nat.le_refl _, ?_⟩
    refine Tin.reg_quiets [15] _ 0 rfl (by simp only [Tin.pick, List.map_cons, List.map_nil, Array.getD_eq_getD_getElem?, List.getElem?_toArray, List.getElem?_cons_zero, List.getElem?_cons_succ, Option.getD_some]; rfl) (by kernel_rfl) (by kernel_rfl) ?_
    repeat (first | go_big_quiet_step (fail))
    refine wpQuiet_nil ?_
    refine Tin.reg_done (by kernel_rfl) ?_
    have hst := nb_step (n := w.heap.size) (v' := .slice A8 (i + 1) c8) HG8.out HW8.out
    have hvf : TgV (BtP u10 (NB w.heap.size (.slice A8 (i + 1) c8))) (xs ++ [.int .i64 tn, .int .i64 tt, .int .i64 tc, .slice A7 td.length c7]) (ts.take (i + 1)) := by
      rw [HTK.out]
      exact TgV.mono (fun _ _ h => (BtP.keep (BtP.mono h (fun b hlt h => ⟨h, hlt⟩)) hst.1).mono fun b _ h => hst.2 b h) (TgV.app (TgV.mono (fun _ _ h => BtP.keep h (Kp.mono (Kp.all HVB.out) (fun _ h _ => h))) HV.out) (.cons HBT.out .nil))
    have HVF := Lib.hid hvf
    have HBF := Lib.hid ((HB.out.trans (HVB.out.mono hBw)).trans hbb)
    clear hst hvf hbb
    go_wp2_with fail
    exact ⟨⟨i + 1, A8, c8, _, by omega, rfl, rfl, HO8.out, HVF.out, HBF.out⟩, by simp only [intOf]; omega⟩
end Go.Proofs.Ytkepbobnjplpoaa
