/- The law ColourOrder of the law file, walked: it returns true for any numbers and bytes. No condition beyond the types. -/
import Derived.Test.YtknnmgbiondipaaJ
namespace Go.Proofs.Ytknnmgbiondipaa
open Go.RowKit
open Go.Tin
set_option linter.unusedVariables false

set_option maxHeartbeats 2000000 in
theorem walkOrder (r g b more : Int) (A : Option Addr) (len c : Nat) (zs : List Int) (A' : Option Addr) (len' c' : Nat) (zs' : List Int) (w : World) (_w0 : (Lit.int .i64 r).wf = true) (_w1 : (Lit.int .i64 g).wf = true) (_w2 : (Lit.int .i64 b).wf = true) (_w3 : (Lit.int .i64 more).wf = true) (h : IsRow .u8 w A len c zs) (h' : IsRow .u8 w A' len' c' zs') :
    Calls Try.prog 6 #[.int .i64 r, .int .i64 g, .int .i64 b, .int .i64 more, .slice A len c, .slice A' len' c'] w fun e w' => e = .returned (.bool true) ∧ Below w.heap.size w w' := by
  clear _w0 _w1 _w2 _w3
  obtain ⟨hr, hlen, hc, hm, hwf⟩ := Sl.of_row h
  obtain ⟨hr', hlen', hc', hm', hwf'⟩ := Sl.of_row h'
  clear h h'
  generalize zs.take len = l at *
  generalize zs'.take len' = l' at *
  subst hlen
  subst hlen'
  have hb := allB_of_wf hwf
  have hb' := allB_of_wf hwf'
  clear hwf hwf'
  have heq := eq3
  have hmx : ∀ a b : Int, (if a < b then b else a) = mx a b := fun _ _ => rfl
  by_cases h100 : 100 < l.length
  · go_enter Try.func6, Try.ntmps6
    go_wp2_with fail
    refine (awake_any _).mono ?_
    rintro e w1 ⟨rfl, hb1⟩
    go_wp2_with fail
    go_ret
    exact ⟨rfl, hb1⟩
  by_cases h100' : 100 < l'.length
  · go_enter Try.func6, Try.ntmps6
    go_wp2_with fail
    refine (awake_any _).mono ?_
    rintro e w1 ⟨rfl, hb1⟩
    go_wp2_with fail
    go_ret
    exact ⟨rfl, hb1⟩
  have g1 : l.length ≤ 100 := by omega
  have g2 : l'.length ≤ 100 := by omega
  clear h100 h100'
  have hmono := lumY_mono r g b more
  go_enter Try.func6, Try.ntmps6
  go_wp2_with fail
  refine (lluma_any _ _ _ _).mono ?_
  rintro e w1 ⟨rfl, hb1⟩
  go_wp2_with fail
  refine (lluma_any _ _ _ _).mono ?_
  rintro e w2 ⟨rfl, hb2⟩
  go_wp2_with fail
  generalize hW : (w2.alloc _).alloc _ = W
  have x0 : W.cell? ⟨w2.heap.size, 0, none⟩ = some (.int .i64 (lumY r g b)) := by rw [← hW]; simp [go_sem]
  have x1 : W.cell? ⟨w2.heap.size, 1, none⟩ = some (.int .i64 (lumB r g b)) := by rw [← hW]; simp [go_sem]
  have x2 : W.cell? ⟨w2.heap.size, 2, none⟩ = some (.int .i64 (lumR r g b)) := by rw [← hW]; simp [go_sem]
  have y0 : W.cell? ⟨w2.heap.size + 1, 0, none⟩ = some (.int .i64 (lumY (mx r more) (mx g more) (mx b more))) := by rw [← hW]; simp [go_sem]
  have hbW : Below w.heap.size w W := by rw [← hW]; exact Tin.ba (Tin.ba (Tin.bt hb1 hb2) _) _
  have hWs : w2.heap.size + 1 < W.heap.size := by rw [← hW]; simp
  clear hW
  have hd : decide (lumY (mx r more) (mx g more) (mx b more) < lumY r g b) = false := by simp; omega
  have kx0 : ∀ p : Bel W.heap.size W.drew, p.w'.cell? ⟨w2.heap.size, 0, none⟩ = some (.int .i64 (lumY r g b)) := fun p => (p.h.cell (p := ⟨w2.heap.size, 0, none⟩) (by show w2.heap.size < _; omega)).trans x0
  have kx1 : ∀ p : Bel W.heap.size W.drew, p.w'.cell? ⟨w2.heap.size, 1, none⟩ = some (.int .i64 (lumB r g b)) := fun p => (p.h.cell (p := ⟨w2.heap.size, 1, none⟩) (by show w2.heap.size < _; omega)).trans x1
  have kx2 : ∀ p : Bel W.heap.size W.drew, p.w'.cell? ⟨w2.heap.size, 2, none⟩ = some (.int .i64 (lumR r g b)) := fun p => (p.h.cell (p := ⟨w2.heap.size, 2, none⟩) (by show w2.heap.size < _; omega)).trans x2
  have ky0 : ∀ p : Bel W.heap.size W.drew, p.w'.cell? ⟨w2.heap.size + 1, 0, none⟩ = some (.int .i64 (lumY (mx r more) (mx g more) (mx b more))) := fun p => (p.h.cell (p := ⟨w2.heap.size + 1, 0, none⟩) (by show w2.heap.size + 1 < _; omega)).trans y0
  refine Tin.reg_begin W.heap.size 30 (by rfl) (by kernel_rfl) ?_
  refine Tin.reg_quiets [0, 1, 2, 3, 4, 5, 6, 7, 9, 11] _ 20 rfl (by simp only [Tin.pick, List.map_cons, List.map_nil, Array.getD_eq_getD_getElem?, List.getElem?_toArray, List.getElem?_cons_zero, List.getElem?_cons_succ, Option.getD_some]; rfl) (by kernel_rfl) (by kernel_rfl) ?_
  repeat (go_big_quiet_step (fail))
  refine wpQuiet_nil ?_
  clear kx0 kx1 kx2 ky0
  refine Tin.reg_one 8 _ rfl (by kernel_rfl) ?_
  go_wp2_with (go_at_call 7; refine (clamp_any _ _).mono ?_; rintro e w' ⟨rfl, rfl⟩)
  refine ⟨_, Below.refl _ _, Nat.le_refl _, ?_⟩
  refine Tin.reg_one 10 _ rfl (by kernel_rfl) ?_
  go_wp2_with (go_at_call 7; refine (clamp_any _ _).mono ?_; rintro e w' ⟨rfl, rfl⟩)
  refine ⟨_, Below.refl _ _, Nat.le_refl _, ?_⟩
  refine Tin.reg_one 12 _ rfl (by kernel_rfl) ?_
  go_wp2_with (go_at_call 7; refine (clamp_any _ _).mono ?_; rintro e w' ⟨rfl, rfl⟩)
  refine ⟨_, Below.refl _ _, Nat.le_refl _, ?_⟩
  refine Tin.reg_one 13 _ rfl (by kernel_rfl) ?_
  go_wp2_with (go_at_call 9; refine (lluma_any _ _ _ _).mono ?_; rintro e w3 ⟨rfl, hb3⟩)
  refine ⟨_, hb3, hb3.size, ?_⟩
  rw [(lum_clamp r g b).1, (lum_clamp r g b).2.1, (lum_clamp r g b).2.2]
  refine Tin.reg_quiets [14, 15, 16, 17, 18, 19, 21, 23, 25] _ 7 rfl (by simp only [Tin.pick, List.map_cons, List.map_nil, Array.getD_eq_getD_getElem?, List.getElem?_toArray, List.getElem?_cons_zero, List.getElem?_cons_succ, Option.getD_some]; rfl) (by kernel_rfl) (by kernel_rfl) ?_
  repeat (go_big_quiet_step (fail))
  refine wpQuiet_nil ?_
  refine Tin.reg_one 20 _ rfl (by kernel_rfl) ?_
  go_wp2_with (go_at_call 11; refine (lpaint_any _ _ _ _).mono ?_; rintro e w4 ⟨rfl, hb4⟩)
  refine ⟨_, hb4, hb4.size, ?_⟩
  refine Tin.reg_one 22 _ rfl (by kernel_rfl) ?_
  go_wp2_with (go_at_call 7; refine (clamp_any _ _).mono ?_; rintro e w' ⟨rfl, rfl⟩)
  refine ⟨_, Below.refl _ _, Nat.le_refl _, ?_⟩
  refine Tin.reg_one 24 _ rfl (by kernel_rfl) ?_
  go_wp2_with (go_at_call 7; refine (clamp_any _ _).mono ?_; rintro e w' ⟨rfl, rfl⟩)
  refine ⟨_, Below.refl _ _, Nat.le_refl _, ?_⟩
  refine Tin.reg_one 26 _ rfl (by kernel_rfl) ?_
  go_wp2_with (go_at_call 7; refine (clamp_any _ _).mono ?_; rintro e w' ⟨rfl, rfl⟩)
  refine ⟨_, Below.refl _ _, Nat.le_refl _, ?_⟩
  refine Tin.reg_one 27 _ rfl (by kernel_rfl) ?_
  go_wp2_with (go_at_call 11; refine (lpaint_any _ _ _ _).mono ?_; rintro e w5 ⟨rfl, hb5⟩)
  refine ⟨_, hb5, hb5.size, ?_⟩
  rw [(pai_clamp r g b).1, (pai_clamp r g b).2.1, (pai_clamp r g b).2.2]
  refine Tin.reg_quiets [28, 29] _ 0 rfl (by simp only [Tin.pick, List.map_cons, List.map_nil, Array.getD_eq_getD_getElem?, List.getElem?_toArray, List.getElem?_cons_zero, List.getElem?_cons_succ, Option.getD_some]; rfl) (by kernel_rfl) (by kernel_rfl) ?_
  repeat (go_big_quiet_step (fail))
  refine wpQuiet_nil ?_
  refine Tin.reg_done (by kernel_rfl) ?_
  have hbw5 : Below w.heap.size w w5 := Tin.bt (Tin.bt (hbW.trans ((show Below W.heap.size W w3 from ⟨hb3.os, hb3.tape, hb3.output, hb3.size, hb3.block⟩).mono hbW.size)) hb4) hb5
  clear x0 x1 x2 y0 hb1 hb2 hb3 hb4 hb5 hbW hWs hmono
  by_cases h3 : l.length % 3 = 0
  · have e3 : ((l.length : Int) % 3 != 0) = false := by simp; omega
    have e3' : ((l.length : Int) % 3 == 0) = true := by simp; omega
    have H3 := Lib.hid h3
    clear h3
    by_cases h3' : l'.length % 3 = 0
    · have e4 : ((l'.length : Int) % 3 != 0) = false := by simp; omega
      have H4 := Lib.hid h3'
      clear h3'
      have hrw := hr.keep hbw5
      have hrw' := hr'.keep hbw5
      go_wp2_with (first | (at_builtin; (refine Tin.wpl_app bt _ rfl (.tmp 96) (.tmp 97) rfl w5.heap.size (.slice (some ⟨w5.heap.size, 0, none⟩) 0 0) [] rfl (Own.new0 w5) A l.length c l rfl (hrw.keep ((Below.refl _ _).alloc (Nat.le_refl _) _)) rfl (by simp; omega) (by simp; omega) (by simp) ?_); intro v6 w6 hown6 hg6 _; simp only [List.nil_append] at hown6; have hb6 : Below w5.heap.size w5 w6 := Own.grown (k := .u8) (e := 5) (l := []) (Own.new0 w5) ((Below.refl _ _).alloc (Nat.le_refl _) _) (by simp) hg6; clear hg6) | (at_builtin; (refine Tin.wpl_app bt _ rfl (.tmp 98) (.tmp 99) rfl w5.heap.size v6 l rfl hown6 A' l'.length c' l' rfl (hrw'.keep hb6) rfl (by omega) (by omega) hb6.size ?_); intro v7 w7 hown7 hg7 _; have hb7 : Below w5.heap.size w5 w7 := Own.grown hown6 hb6 hb6.size hg7; clear hg7))
      obtain ⟨A7, c7, rfl, hs7, hc7, hm7, _⟩ := hown7.sl
      have hrv := hrw.keep hb7
      have hrv' := hrw'.keep hb7
      have hbv := hbw5.trans (hb7.mono hbw5.size)
      have hB : AllB (l ++ l') := allB_append hb hb'
      clear hrw hrw' hb6 hb7 hown6 hown7 hr hr' hbw5 hmx heq e3 e3' e4 hd
      rw [List.length_append] at *
      go_loopw [16, 17, 18, 19] (fun i _ _ _ wr => (i = .int .i64 0 ∨ i = .int .i64 1 ∨ i = .int .i64 2) ∧ Below w7.heap.size w7 wr) (fun i _ _ _ _ => 2 - (intOf i).toNat)
      case atStart => exact ⟨.inl rfl, Below.refl _ _⟩
      case round =>
        obtain ⟨hi, hbr⟩ := hrel
        rcases hi with rfl | rfl | rfl
        · have q1 := allOf_append false l l' H3.out H4.out
          have q2 := strOf_append (allOf false l) (allOf false l')
          have q3 : (((allOf false (l ++ l')).length : Int) != ((l.length + l'.length : Nat) : Int)) = false := by rw [allOf_len _ _ (by rw [List.length_append]; have := H3.out; have := H4.out; omega), List.length_append]; simp
          have q3' : (((allOf false (l ++ l')).length : Int) != (l.length : Int) + (l'.length : Int)) = false := by rw [allOf_len _ _ (by rw [List.length_append]; have := H3.out; have := H4.out; omega), List.length_append]; simp
          have q4 : strOf (allOf false (l ++ l')) = strOf (allOf false l) ++ strOf (allOf false l') := by rw [q1, q2]
          clear q1 q2
          have Q4 := Lib.hid q4
          clear q4
          go_wp2_with fail
          refine (all_any A c l false _ (hrv.keep hbr) hc (by omega) hb).mono ?_
          rintro e wa ⟨va, rfl, howna, hba⟩
          go_wp2_with fail
          refine (all_any A' c' l' false _ ((hrv'.keep hbr).keep hba) hc' (by omega) hb').mono ?_
          rintro e wb ⟨vb, rfl, hownb, hbb⟩
          go_wp2_with fail
          refine (all_n A7 _ c7 (l ++ l') false _ List.length_append (((hs7.keep hbr).keep hba).keep hbb) hc7 (by omega) hB).mono ?_
          rintro e wc ⟨vc, rfl, hownc, hbc⟩
          obtain ⟨Aa, ca, rfl, hsa, _, _, _⟩ := howna.sl
          obtain ⟨Ab, cb, rfl, hsb, _, _, _⟩ := hownb.sl
          obtain ⟨Ac, cc, rfl, hsc, _, _, _⟩ := hownc.sl
          have s1 := str_run Try.underlying27 Try.underlying5 Try.underlying9 ((hsa.keep hbb).keep hbc) (allOf false l).length ca rfl
          have s2 := str_run Try.underlying27 Try.underlying5 Try.underlying9 (hsb.keep hbc) (allOf false l').length cb rfl
          have s3 := str_run Try.underlying27 Try.underlying5 Try.underlying9 hsc (allOf false (l ++ l')).length cc rfl
          rw [Q4.out] at s3
          clear hsa hsb hsc howna hownb hownc
          have sz : ¬ 9223372036854775807 < (strOf (allOf false l)).size + (strOf (allOf false l')).size := by rw [strOf_size, strOf_size, allOf_len _ _ H3.out, allOf_len _ _ H4.out]; omega
          go_wp2_with fail
          go_roundw
          case rel => exact ⟨by simp, ((hbr.trans (hba.mono hbr.size)).trans (hbb.mono (Nat.le_trans hbr.size hba.size))).trans (hbc.mono (Nat.le_trans hbr.size (Nat.le_trans hba.size hbb.size)))⟩
          case measure => simp [intOf]
        · have q1 := allOf_append true l l' H3.out H4.out
          have q2 := strOf_append (allOf true l) (allOf true l')
          have q3 : (((allOf true (l ++ l')).length : Int) != ((l.length + l'.length : Nat) : Int)) = false := by rw [allOf_len _ _ (by rw [List.length_append]; have := H3.out; have := H4.out; omega), List.length_append]; simp
          have q3' : (((allOf true (l ++ l')).length : Int) != (l.length : Int) + (l'.length : Int)) = false := by rw [allOf_len _ _ (by rw [List.length_append]; have := H3.out; have := H4.out; omega), List.length_append]; simp
          have q4 : strOf (allOf true (l ++ l')) = strOf (allOf true l) ++ strOf (allOf true l') := by rw [q1, q2]
          clear q1 q2
          have Q4 := Lib.hid q4
          clear q4
          go_wp2_with fail
          refine (all_any A c l true _ (hrv.keep hbr) hc (by omega) hb).mono ?_
          rintro e wa ⟨va, rfl, howna, hba⟩
          go_wp2_with fail
          refine (all_any A' c' l' true _ ((hrv'.keep hbr).keep hba) hc' (by omega) hb').mono ?_
          rintro e wb ⟨vb, rfl, hownb, hbb⟩
          go_wp2_with fail
          refine (all_n A7 _ c7 (l ++ l') true _ List.length_append (((hs7.keep hbr).keep hba).keep hbb) hc7 (by omega) hB).mono ?_
          rintro e wc ⟨vc, rfl, hownc, hbc⟩
          obtain ⟨Aa, ca, rfl, hsa, _, _, _⟩ := howna.sl
          obtain ⟨Ab, cb, rfl, hsb, _, _, _⟩ := hownb.sl
          obtain ⟨Ac, cc, rfl, hsc, _, _, _⟩ := hownc.sl
          have s1 := str_run Try.underlying27 Try.underlying5 Try.underlying9 ((hsa.keep hbb).keep hbc) (allOf true l).length ca rfl
          have s2 := str_run Try.underlying27 Try.underlying5 Try.underlying9 (hsb.keep hbc) (allOf true l').length cb rfl
          have s3 := str_run Try.underlying27 Try.underlying5 Try.underlying9 hsc (allOf true (l ++ l')).length cc rfl
          rw [Q4.out] at s3
          clear hsa hsb hsc howna hownb hownc
          have sz : ¬ 9223372036854775807 < (strOf (allOf true l)).size + (strOf (allOf true l')).size := by rw [strOf_size, strOf_size, allOf_len _ _ H3.out, allOf_len _ _ H4.out]; omega
          go_wp2_with fail
          go_roundw
          case rel => exact ⟨by simp, ((hbr.trans (hba.mono hbr.size)).trans (hbb.mono (Nat.le_trans hbr.size hba.size))).trans (hbc.mono (Nat.le_trans hbr.size (Nat.le_trans hba.size hbb.size)))⟩
          case measure => simp [intOf]
        · go_wp2_with fail
          refine (awake_any _).mono ?_
          rintro e w8 ⟨rfl, hb8⟩
          go_wp2_with fail
          go_ret
          exact ⟨rfl, Tin.bt (hbv.trans (hbr.mono hbv.size)) hb8⟩
    · have e4 : ((l'.length : Int) % 3 != 0) = true := by simp; omega
      go_wp2_with fail
      refine (awake_any _).mono ?_
      rintro e w6 ⟨rfl, hb6⟩
      go_wp2_with fail
      go_ret
      exact ⟨rfl, Tin.bt hbw5 hb6⟩
  · have e3 : ((l.length : Int) % 3 != 0) = true := by simp; omega
    have e3' : ((l.length : Int) % 3 == 0) = false := by simp; omega
    go_wp2_with fail
    refine (all_no _ _ _ _ _ (by omega) e3).mono ?_
    rintro e w6 ⟨rfl, rfl⟩
    go_wp2_with fail
    refine (awake_any _).mono ?_
    rintro e w6 ⟨rfl, hb6⟩
    go_wp2_with fail
    go_ret
    exact ⟨rfl, Tin.bt hbw5 hb6⟩
end Go.Proofs.Ytknnmgbiondipaa
