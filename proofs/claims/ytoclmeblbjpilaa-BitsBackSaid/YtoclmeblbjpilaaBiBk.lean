/- The walk of BitsBack. -/
import Derived.Test.YtoclmeblbjpilaaBiMb
namespace Go.Proofs.Ytoclmeblbjpilaa
open Go.RowKit
open Go.Tin
set_option linter.unusedVariables false
set_option linter.unusedSimpArgs false


theorem WS.fr {w w' : World} {B g g' : Nat} {r : Option Nat} {A : Option Addr} {c : Nat} {L : List Int} (h : WS w B g A c L) (hf : Fr w w' g' r) (h1 : g ≠ g') (h2 : some g ≠ r) (h3 : ob A ≠ some g') (h4 : ob A = none ∨ ob A ≠ r) : WS w' B g A c L :=
  ⟨(hf.block g h.gt h1 h2).trans h.row, Own.keepFr h.own hf (by rw [ob_eq]; exact h3) (by rw [ob_eq]; exact h4), h.ne, h.bits, h.len⟩
/-- Two writers of the call's own, apart. -/
structure TW (w0 w : World) (B g g' : Nat) (A : Option Addr) (c : Nat) (A' : Option Addr) (c' : Nat) (L : List Int) : Prop where
  one : AW w0 w B g A c L
  two : AW w0 w B g' A' c' L
  ne : g ≠ g'
  n1 : ob A ≠ some g'
  n2 : ob A' ≠ some g
  ap : ob A = none ∨ ob A' = none ∨ ob A ≠ ob A'
theorem TW.keep {w0 w w' : World} {B g g' : Nat} {A A' : Option Addr} {c c' : Nat} {L : List Int} (h : TW w0 w B g g' A c A' c' L) (hb : Below w.heap.size w w') : TW w0 w' B g g' A c A' c' L :=
  ⟨h.one.keep hb, h.two.keep hb, h.ne, h.n1, h.n2, h.ap⟩
theorem TW.bg {w0 w : World} {B g g' : Nat} {A A' : Option Addr} {c c' : Nat} {L : List Int} (h : TW w0 w B g g' A c A' c' L) : B ≤ w.heap.size := Nat.le_of_lt (Nat.lt_of_le_of_lt h.one.bg h.one.ws.gt)
/-- Put at the first one, then at the second one. -/
theorem two_put (w0 w : World) (B g g' : Nat) (A : Option Addr) (c : Nat) (A' : Option Addr) (c' : Nat) (L : List Int) (h : TW w0 w B g g' A c A' c' L) (v N : Int) (n : Nat) (hN : N = (n : Int)) (hn : n ≤ 16) (wv : (Lit.int .i64 v).wf = true) (hl : L.length + n ≤ 100000) :
    Calls Try.prog 8 #[.pointer (some ⟨g, 0, none⟩), .int .i64 v, .int .i64 N] w fun e w1 => e = .returned (.bool true) ∧ Below B w w1 ∧
      Calls Try.prog 8 #[.pointer (some ⟨g', 0, none⟩), .int .i64 v, .int .i64 N] w1 fun e w2 => ∃ A1 c1 A2 c2, e = .returned (.bool true) ∧ Below B w1 w2 ∧ TW w0 w2 B g g' A1 c1 A2 c2 (L ++ low v n) := by
  refine (put_aw w0 w B g A c L h.one v N n hN hn wv hl).mono ?_
  rintro e w1 ⟨A1, c1, rfl, h1, hf, hh⟩
  have hB := h.bg
  have hb1 : Below B w w1 := hf.below (Below.refl B w) h.one.bg (fun q hq => (h.one.ws.low q hq).1) hB
  have h2 : AW w0 w1 B g' A' c' L := by
    refine ⟨h.two.ws.fr hf h.ne.symm (fun e => h.n1 e.symm) h.n2 ?_, h.two.bel.trans hb1 |>.mono (Nat.le_refl _), h.two.bg⟩
    rcases h.ap with e | e | e
    · rw [e]
      cases ho : ob A' with
      | none => exact .inl rfl
      | some q => exact .inr (fun e => by cases e)
    · exact .inl e
    · exact .inr (fun e' => e e'.symm)
  have hn1 : ob A1 ≠ some g' := by
    rcases hh with e | ⟨q, e, hq⟩
    · rw [e]; exact h.n1
    · rw [e]; intro e'; injection e' with e'; have := h.two.ws.gt; omega
  have hap1 : ob A1 = none ∨ ob A' = none ∨ ob A1 ≠ ob A' := by
    rcases hh with e | ⟨q, e, hq⟩
    · rw [e]; exact h.ap
    · refine .inr (.inr fun e' => ?_)
      rw [e] at e'
      have := (h.two.ws.low q e'.symm).2
      omega
  refine ⟨rfl, hb1, (put_aw w0 w1 B g' A' c' L h2 v N n hN hn wv hl).mono ?_⟩
  rintro e w2 ⟨A2, c2, rfl, h3, hf2, hh2⟩
  have hB1 : B ≤ w1.heap.size := Nat.le_of_lt (Nat.lt_of_le_of_lt h1.bg h1.ws.gt)
  have hb2 : Below B w1 w2 := hf2.below (Below.refl B w1) h2.bg (fun q hq => (h2.ws.low q hq).1) hB1
  refine ⟨A1, c1, A2, c2, rfl, hb2, ⟨⟨h1.ws.fr hf2 h.ne (fun e => h.n2 e.symm) hn1 ?_, h1.bel.trans hb2, h1.bg⟩, h3, h.ne, hn1, ?_, ?_⟩⟩
  · rcases hap1 with e | e | e
    · exact .inl e
    · rw [e]
      cases ho : ob A1 with
      | none => exact .inl rfl
      | some q => exact .inr (fun e => by cases e)
    · exact .inr e
  · rcases hh2 with e | ⟨q, e, hq⟩
    · rw [e]; exact h.n2
    · rw [e]; intro e'; injection e' with e'; have := h1.ws.gt; omega
  · rcases hh2 with e | ⟨q, e, hq⟩
    · rw [e]; exact hap1
    · refine .inr (.inr fun e' => ?_)
      rw [e] at e'
      have := (h1.ws.low q e').2
      omega
theorem TW.new (w : World) : TW w ((w.alloc (.cells #[.slice none 0 0, .int .u32 0, .int .i64 0] 27)).alloc (.cells #[.slice none 0 0, .int .u32 0, .int .i64 0] 27)) w.heap.size w.heap.size (w.heap.size + 1) none 0 none 0 [] := by
  have h1 := AW.new w w w.heap.size (brefl w) (Nat.le_refl _)
  have h2 := AW.new w (w.alloc (.cells #[.slice none 0 0, .int .u32 0, .int .i64 0] 27)) w.heap.size (ba (brefl w) _) (by simp)
  have e : (w.alloc (.cells #[.slice none 0 0, .int .u32 0, .int .i64 0] 27)).heap.size = w.heap.size + 1 := by simp
  rw [e] at h2
  exact ⟨h1.keep (ba (brefl _) _), h2, by omega, by simp [ob, Value.ownBlock], by simp [ob, Value.ownBlock], .inl rfl⟩

set_option maxRecDepth 100000 in
set_option maxHeartbeats 4000000 in
theorem back_any (A : Option Addr) (len cap : Nat) (A1 : Option Addr) (len1 cap1 : Nat) (zs1 : List Int) (w : World) (ft : Fits w (.slice 2 (.fld 0 0 1 (.int .i64) (.fld 1 1 1 (.int .i64) .unit))) [.slice A len cap]) (hr1 : IsRow .u8 w A1 len1 cap1 zs1) :
    Calls Try.prog 6 #[.slice A len cap, .slice A1 len1 cap1] w fun e w' => e = .returned (.bool true) ∧ Below w.heap.size w w' := by
  obtain ⟨zs, hsl, hzl, hlc, hcm, hwf, -⟩ := flat_of_fits (flat_two w .i64) ft
  clear ft
  obtain ⟨hs1, hlen1, hlc1, hcm1, hwf1⟩ := Sl.of_row hr1
  have hby : BY (zs1.take len1) := BY.of fun x hx => wf_byte (hwf1 x hx)
  generalize zs1.take len1 = l at *
  subst hlen1
  unfold maxLen at hcm hcm1
  have HS := Lib.hid hsl
  have HZ := Lib.hid hzl
  have HW := Lib.hid hwf
  have HL1 := Lib.hid hs1
  have HY1 := Lib.hid hby
  clear hsl hzl hwf hs1 hby hwf1 hr1
  by_cases h200 : 200 < len
  · have d1 : decide ((200 : Int) < (len : Int)) = true := decide_eq_true (by omega)
    go_enter Try.func6, Try.ntmps6
    go_wp2_with fail
    refine (awake_any w).mono ?_
    rintro e w1 ⟨rfl, hb⟩
    go_wp2_with fail
    go_ret
    exact ⟨rfl, hb⟩
  by_cases h300 : 300 < l.length
  · have d1 : decide ((200 : Int) < (len : Int)) = false := decide_eq_false (by omega)
    have d2 : decide ((300 : Int) < (l.length : Int)) = true := decide_eq_true (by omega)
    go_enter Try.func6, Try.ntmps6
    go_wp2_with fail
    refine (awake_any w).mono ?_
    rintro e w1 ⟨rfl, hb⟩
    go_wp2_with fail
    go_ret
    exact ⟨rfl, hb⟩
  have d1 : decide ((200 : Int) < (len : Int)) = false := decide_eq_false (by omega)
  have d2 : decide ((300 : Int) < (l.length : Int)) = false := decide_eq_false (by omega)
  have hlen : len ≤ 200 := by omega
  have hl3 : l.length ≤ 300 := by omega
  clear h200 h300
  go_enter Try.func6, Try.ntmps6
  go_wp2_with fail
  have H0 := Lib.hid (TW.new w)
  obtain ⟨g, hg⟩ : ∃ g, g = w.heap.size := ⟨_, rfl⟩
  have HG := Lib.hid hg
  rw [← hg] at H0 ⊢
  clear hg
  obtain ⟨g2, hg2⟩ : ∃ g2, g2 = g + 1 := ⟨_, rfl⟩
  rw [← hg2] at H0 ⊢
  have HG2 := Lib.hid hg2
  clear hg2
  go_loopw [7] (fun s7 wr => ∃ (i : Nat) (A5 : Option Addr) (c5 : Nat) (A6 : Option Addr) (c6 : Nat), i ≤ len ∧ s7 = .int .i64 (i : Int) ∧ TW w wr g g g2 A5 c5 A6 c6 (entL zs i)) (fun s7 _ => len - (intOf s7).toNat)
  case atStart => exact ⟨0, none, 0, none, 0, by omega, rfl, H0.out⟩
  case round =>
    obtain ⟨i, A5, c5, A6, c6, hi, rfl, htw⟩ := hrel
    have HT := Lib.hid htw
    clear htw H0
    by_cases hil : i < len
    · have i1 : (i : Int) < (len : Int) := by omega
      obtain ⟨b, off, rfl, hbl, hcell⟩ := HS.out.at_ (by rw [HZ.out]; omega)
      have K0 := Lib.hid (show ∀ W : World, Below g w W → W.cell? ⟨b, off + i * 2, none⟩ = some (.int .i64 (nth zs (i * 2))) from fun W h => (h.cell (p := ⟨b, off + i * 2, none⟩) (by rw [HG.out]; exact hbl)).trans (hcell (i * 2) (by rw [HZ.out]; omega)))
      have K1 := Lib.hid (show ∀ W : World, Below g w W → W.cell? ⟨b, off + i * 2 + 1, none⟩ = some (.int .i64 (nth zs (i * 2 + 1))) from fun W h => (h.cell (p := ⟨b, off + i * 2 + 1, none⟩) (by rw [HG.out]; exact hbl)).trans (by rw [Nat.add_assoc]; exact hcell (i * 2 + 1) (by rw [HZ.out]; omega)))
      have HwV := Lib.hid (HW.out _ (mem_nth zs (i * 2) (by rw [HZ.out]; omega)))
      have nb := wf64 (HW.out _ (mem_nth zs (i * 2 + 1) (by rw [HZ.out]; omega)))
      have HEY := Lib.hid (ent_yes zs i)
      have HEN := Lib.hid (ent_no zs i)
      have hel := entL_len zs i
      clear hcell
      generalize nth zs (i * 2) = V at *
      generalize nth zs (i * 2 + 1) = N at *
      have kb0 : ∀ p : Bel g wr.drew, p.w'.cell? ⟨b, off + i * 2, none⟩ = some (.int .i64 V) := fun p => K0.out _ (HT.out.one.bel.trans (ud p.h))
      have kb1 : ∀ p : Bel g wr.drew, p.w'.cell? ⟨b, off + i * 2 + 1, none⟩ = some (.int .i64 N) := fun p => K1.out _ (HT.out.one.bel.trans (ud p.h))
      by_cases hN : N < 0 ∨ 16 < N
      · have HX := Lib.hid (fun W => put_no W g V N hN)
        have HX2 := Lib.hid (fun W => put_no W g2 V N hN)
        have HE := Lib.hid (HEN.out hN)
        clear hN HEY HEN
        go_wp2_with fail
        refine Tin.reg_begin g 23 (by rfl) (by kernel_rfl) ?_
        refine Tin.reg_quiets [0, 1, 2, 3, 4, 5, 6, 7, 8, 9, 11, 12, 13, 14, 15, 16, 17, 18, 19, 20] _ 3 rfl (by simp only [Tin.pick, List.map_cons, List.map_nil, Array.getD_eq_getD_getElem?, List.getElem?_toArray, List.getElem?_cons_zero, List.getElem?_cons_succ, Option.getD_some]; rfl) (by kernel_rfl) (by kernel_rfl) ?_
        repeat (first | go_big_quiet_step (fail))
        refine wpQuiet_nil ?_
        refine Tin.reg_one 10 _ rfl (by kernel_rfl) ?_
        try simp only [List.getElem_toArray, List.getElem_cons_succ, List.getElem_cons_zero]
        go_wp2_with fail
        refine Calls.mono (HX.out _) ?_
        rintro e w2 ⟨rfl, hb2⟩
        go_wp2_with fail
        refine ⟨g, hb2.mono HT.out.bg, Nat.le_refl _, ?_⟩
        have HT2 := Lib.hid (HT.out.keep (ud hb2))
        clear hb2 kb0 kb1
        refine Tin.reg_one 21 _ rfl (by kernel_rfl) ?_
        try simp only [List.getElem_toArray, List.getElem_cons_succ, List.getElem_cons_zero]
        go_wp2_with fail
        refine Calls.mono (HX2.out _) ?_
        rintro e w3 ⟨rfl, hb3⟩
        go_wp2_with fail
        refine ⟨g, hb3.mono HT2.out.bg, Nat.le_refl _, ?_⟩
        have HT3 := Lib.hid (HT2.out.keep hb3)
        clear hb3
        refine Tin.reg_quiets [22] _ 0 rfl (by simp only [Tin.pick, List.map_cons, List.map_nil, Array.getD_eq_getD_getElem?, List.getElem?_toArray, List.getElem?_cons_zero, List.getElem?_cons_succ, Option.getD_some]; rfl) (by kernel_rfl) (by kernel_rfl) ?_
        repeat (first | go_big_quiet_step (fail))
        refine wpQuiet_nil ?_
        refine Tin.reg_done (by kernel_rfl) ?_
        go_wp2_with fail
        refine (done_any w3 g g2 A6 c6 _ HT3.out.two.ws).mono ?_
        rintro e w4 ⟨A8, c8, rfl, -, hb4⟩
        have HT4 := Lib.hid (HT3.out.keep hb4)
        clear hb4
        go_wp2_with fail
        go_roundw
        case rel => exact ⟨i + 1, A5, c5, A6, c6, by omega, by go_num, by rw [HE.out]; exact HT4.out⟩
        case measure => simp [intOf]; omega
      · obtain ⟨n, rfl⟩ := Int.eq_ofNat_of_zero_le (show 0 ≤ N by omega)
        have hn16 : n ≤ 16 := by omega
        have hTd : TW w wr.drew g g g2 A5 c5 A6 c6 (entL zs i) := HT.out.keep ⟨rfl, rfl, rfl, Nat.le_refl _, fun _ _ => rfl⟩
        have HX := Lib.hid (two_put w wr.drew g g g2 A5 c5 A6 c6 _ hTd V n n rfl hn16 HwV.out (by omega))
        have HE := Lib.hid (HEY.out n rfl hn16)
        clear hN HEY HEN hTd
        go_wp2_with fail
        refine Tin.reg_begin g 23 (by rfl) (by kernel_rfl) ?_
        refine Tin.reg_quiets [0, 1, 2, 3, 4, 5, 6, 7, 8, 9, 11, 12, 13, 14, 15, 16, 17, 18, 19, 20] _ 3 rfl (by simp only [Tin.pick, List.map_cons, List.map_nil, Array.getD_eq_getD_getElem?, List.getElem?_toArray, List.getElem?_cons_zero, List.getElem?_cons_succ, Option.getD_some]; rfl) (by kernel_rfl) (by kernel_rfl) ?_
        repeat (first | go_big_quiet_step (fail))
        refine wpQuiet_nil ?_
        refine Tin.reg_one 10 _ rfl (by kernel_rfl) ?_
        try simp only [List.getElem_toArray, List.getElem_cons_succ, List.getElem_cons_zero]
        go_wp2_with fail
        refine Calls.mono HX.out ?_
        rintro e w2 ⟨rfl, hb2, hc2⟩
        have HX2 := Lib.hid hc2
        clear hc2 HX
        go_wp2_with fail
        refine ⟨g, hb2, Nat.le_refl _, ?_⟩
        clear kb0 kb1 hb2
        refine Tin.reg_one 21 _ rfl (by kernel_rfl) ?_
        try simp only [List.getElem_toArray, List.getElem_cons_succ, List.getElem_cons_zero]
        go_wp2_with fail
        refine Calls.mono HX2.out ?_
        rintro e w3 ⟨A7, c7, A8, c8, rfl, hb3, ht3⟩
        have HT3 := Lib.hid ht3
        clear ht3 HX2
        go_wp2_with fail
        refine ⟨g, hb3, Nat.le_refl _, ?_⟩
        clear hb3
        refine Tin.reg_quiets [22] _ 0 rfl (by simp only [Tin.pick, List.map_cons, List.map_nil, Array.getD_eq_getD_getElem?, List.getElem?_toArray, List.getElem?_cons_zero, List.getElem?_cons_succ, Option.getD_some]; rfl) (by kernel_rfl) (by kernel_rfl) ?_
        repeat (first | go_big_quiet_step (fail))
        refine wpQuiet_nil ?_
        refine Tin.reg_done (by kernel_rfl) ?_
        go_wp2_with fail
        refine (done_any w3 g g2 A8 c8 _ HT3.out.two.ws).mono ?_
        rintro e w4 ⟨A9, c9, rfl, -, hb4⟩
        have HT4 := Lib.hid (HT3.out.keep hb4)
        clear hb4
        go_wp2_with fail
        go_roundw
        case rel => exact ⟨i + 1, A7, c7, A8, c8, by omega, by go_num, by rw [HE.out]; exact HT4.out⟩
        case measure => simp [intOf]; omega
    · obtain rfl : i = len := by omega
      have HLb := Lib.hid (entL_bit zs i)
      have HEnd := Lib.hid (fil_end (entL zs i) HLb.out)
      have HTk := Lib.hid (ent_take zs i)
      have hel := entL_len zs i
      have hpn : padN (entL zs i).length ≤ 7 := by unfold padN; omega
      have hDl : (pck (padL (entL zs i))).length = (padL (entL zs i)).length / 8 := pckN_len _ _
      rw [padL_len] at hDl
      have HYD := Lib.hid (BY.pck (padL_bit (entL zs i) HLb.out))
      have HBD := Lib.hid (bitsL_pck (padL (entL zs i)) (padL_bit (entL zs i) HLb.out) (padL_mod _))
      have HPl := Lib.hid (padL_len (entL zs i))
      have HD1 := Lib.hid (fun (W : World) (B q : Nat) (A : Option Addr) (c : Nat) (h : WS W B q A c (entL zs i)) => done_any W B q A c (entL zs i) h)
      generalize hD : pck (padL (entL zs i)) = D at *
      have hD4 : D.length ≤ 410 := by omega
      have hOl := (stf_len D).2
      have HYO := Lib.hid (BY.stf HYD.out)
      have HPS := Lib.hid (pln_stf D)
      have HFF := Lib.hid (stf_ff D)
      generalize hO : stf D = O at *
      have hO8 : O.length ≤ 820 := by omega
      have HDe := Lib.hid hD
      have HOe := Lib.hid hO
      clear hD hO hOl hDl hpn hel
      go_wp2_with fail
      refine (HD1.out wr g g A5 c5 HT.out.one.ws).mono ?_
      rintro e w2 ⟨A8, c8, rfl, ho8, hb2⟩
      have HT2 := Lib.hid (HT.out.keep hb2)
      have S8 := Lib.hid (Own.sl' ho8).2
      have HTd := Lib.hid (HT2.out.keep (w' := w2.drew) ⟨rfl, rfl, rfl, Nat.le_refl _, fun _ _ => rfl⟩)
      have HC8 := Lib.hid (fun (W : World) (hW : Below w2.heap.size w2 W) => str_bel Try.underlying24 Try.underlying5 Try.underlying9 S8.out hW O.length c8 rfl)
      have kA : ∀ p : Bel w2.heap.size w2.drew, (convert 24 9 (.slice A8 O.length c8)).run Try.prog p.w' = .ok (.string (strOf O)) p.w' := fun p => HC8.out _ (ud p.h)
      clear ho8 hb2 HT
      go_wp2_with fail
      refine Tin.reg_begin w2.heap.size 12 (by rfl) (by kernel_rfl) ?_
      refine Tin.reg_quiets [0, 1] _ 10 rfl (by simp only [Tin.pick, List.map_cons, List.map_nil, Array.getD_eq_getD_getElem?, List.getElem?_toArray, List.getElem?_cons_zero, List.getElem?_cons_succ, Option.getD_some]; rfl) (by kernel_rfl) (by kernel_rfl) ?_
      repeat (first | go_big_quiet_step (fail))
      refine wpQuiet_nil ?_
      refine Tin.reg_one 2 _ rfl (by kernel_rfl) ?_
      try simp only [List.getElem_toArray, List.getElem_cons_succ, List.getElem_cons_zero]
      go_wp2_with fail
      refine Calls.mono (HD1.out _ g g2 A6 c6 HTd.out.two.ws) ?_
      rintro e w3 ⟨A9, c9, rfl, ho9, hb3⟩
      go_wp2_with fail
      have HT3 := Lib.hid (HT2.out.keep (ud hb3))
      have HB3 := Lib.hid (ud hb3)
      have S9 := Lib.hid (Own.sl' ho9).2
      refine ⟨w3.heap.size, hb3, hb3.size, ?_⟩
      clear kA hb3 ho9 HTd
      have kA : ∀ p : Bel w3.heap.size w3, (convert 24 9 (.slice A8 O.length c8)).run Try.prog p.w' = .ok (.string (strOf O)) p.w' := fun p => HC8.out _ (bt HB3.out p.h)
      have kB : ∀ p : Bel w3.heap.size w3, (convert 24 9 (.slice A9 O.length c9)).run Try.prog p.w' = .ok (.string (strOf O)) p.w' := fun p => str_bel Try.underlying24 Try.underlying5 Try.underlying9 S9.out p.h O.length c9 rfl
      refine Tin.reg_quiets [3, 4, 5, 6, 7] _ 4 rfl (by simp only [Tin.pick, List.map_cons, List.map_nil, Array.getD_eq_getD_getElem?, List.getElem?_toArray, List.getElem?_cons_zero, List.getElem?_cons_succ, Option.getD_some]; rfl) (by kernel_rfl) (by kernel_rfl) ?_
      repeat (first | go_big_quiet_step (fail))
      refine wpQuiet_nil ?_
      refine Tin.reg_one 8 _ rfl (by kernel_rfl) ?_
      try simp only [List.getElem_toArray, List.getElem_cons_succ, List.getElem_cons_zero]
      go_wp2_with fail
      refine Calls.mono (HD1.out _ g g A5 c5 HT3.out.one.ws) ?_
      rintro e w4 ⟨A10, c10, rfl, ho10, hb4⟩
      go_wp2_with fail
      have HT4 := Lib.hid (HT3.out.keep hb4)
      have S10 := Lib.hid (Own.sl' ho10).2
      have S84 := Lib.hid (Sl.keep S8.out (bt HB3.out hb4))
      refine ⟨w4.heap.size, hb4, hb4.size, ?_⟩
      clear kA kB hb4 ho10 HB3 HC8
      have kC : ∀ p : Bel w4.heap.size w4, (convert 24 9 (.slice A10 O.length c10)).run Try.prog p.w' = .ok (.string (strOf O)) p.w' := fun p => str_bel Try.underlying24 Try.underlying5 Try.underlying9 S10.out p.h O.length c10 rfl
      refine Tin.reg_quiets [9, 10, 11] _ 0 rfl (by simp only [Tin.pick, List.map_cons, List.map_nil, Array.getD_eq_getD_getElem?, List.getElem?_toArray, List.getElem?_cons_zero, List.getElem?_cons_succ, Option.getD_some]; rfl) (by kernel_rfl) (by kernel_rfl) ?_
      repeat (first | go_big_quiet_step (fail))
      refine wpQuiet_nil ?_
      refine Tin.reg_done (by kernel_rfl) ?_
      clear kC
      generalize strOf O = so at *
      go_wp2_with fail
      go_loop [9] (fun s9 => ∃ (k : Nat), k ≤ O.length ∧ s9 = .int .i64 (k : Int)) (fun s9 => O.length - (intOf s9).toNat)
      case atStart => exact ⟨0, by omega, rfl⟩
      case round =>
        obtain ⟨k, hk, rfl⟩ := hrel
        by_cases hkO : k < O.length
        · have j1 : (k : Int) < (O.length : Int) := by omega
          obtain ⟨b8, o8, h8, K8⟩ := Sl.cellsI S84.out (by omega)
          subst h8
          have k8 := K8.out w4 (fun _ => rfl) k hkO
          have hff := HFF.out k hkO
          by_cases hx : nth O k = 255
          · obtain ⟨hk1, hx1⟩ := hff hx
            have k9 := K8.out w4 (fun _ => rfl) (k + 1) hk1
            rw [hx] at k8
            rw [hx1] at k9
            have j2 : (k : Int) + 1 < (O.length : Int) := by omega
            clear hx hx1 hff
            go_wp2_with fail
            go_round
            case rel => exact ⟨k + 1, by omega, by go_num⟩
            case measure => simp [intOf]; omega
          · have dx : (nth O k == 255) = false := by simp [hx]
            clear hff hx
            go_wp2_with fail
            go_round
            case rel => exact ⟨k + 1, by omega, by go_num⟩
            case measure => simp [intOf]; omega
        · go_wp2_with fail
          refine (new_n A8 O O.length c8 rfl D (by rw [HPS.out]) w4 S84.out (by omega) HYO.out).mono ?_
          rintro e w5 ⟨g3, A11, c11, rfl, hg3, hg3', hrs, hb5⟩
          have R5 := Lib.hid hrs
          have HT5 := Lib.hid (HT4.out.keep hb5)
          have hgg : g ≤ g3 := Nat.le_trans HT4.out.bg hg3
          clear hrs hb5 HT4 HT3 HT2
          go_wp2_with fail
          go_loopw [11] (fun s11 wq => ∃ (j : Nat), j ≤ i ∧ s11 = .int .i64 (j : Int) ∧ RS wq g3 A11 c11 D (entL zs j).length ∧ Fr w5 wq g3 none) (fun s11 _ => i - (intOf s11).toNat)
          case atStart => exact ⟨0, by omega, rfl, R5.out, Fr.refl _ _ _⟩
          case round =>
            obtain ⟨j, hj, rfl, hr6, hf6⟩ := hrel
            have R6 := Lib.hid hr6
            have F6 := Lib.hid hf6
            have HB6 := Lib.hid (hf6.below HT5.out.one.bel hgg (fun q h => by cases h) HT5.out.bg)
            clear hr6 hf6 R5
            by_cases hji : j < i
            · have i1 : (j : Int) < (i : Int) := by omega
              obtain ⟨b, off, rfl, hbl, hcell⟩ := HS.out.at_ (by rw [HZ.out]; omega)
              have K0 := Lib.hid (show ∀ W : World, Below g w W → W.cell? ⟨b, off + j * 2, none⟩ = some (.int .i64 (nth zs (j * 2))) from fun W h => (h.cell (p := ⟨b, off + j * 2, none⟩) (by rw [HG.out]; exact hbl)).trans (hcell (j * 2) (by rw [HZ.out]; omega)))
              have K1 := Lib.hid (show ∀ W : World, Below g w W → W.cell? ⟨b, off + j * 2 + 1, none⟩ = some (.int .i64 (nth zs (j * 2 + 1))) from fun W h => (h.cell (p := ⟨b, off + j * 2 + 1, none⟩) (by rw [HG.out]; exact hbl)).trans (by rw [Nat.add_assoc]; exact hcell (j * 2 + 1) (by rw [HZ.out]; omega)))
              have nb := wf64 (HW.out _ (mem_nth zs (j * 2 + 1) (by rw [HZ.out]; omega)))
              have HEY := Lib.hid (ent_yes zs j)
              have HEN := Lib.hid (ent_no zs j)
              have HTJ := Lib.hid (HTk.out j)
              have c1 := K1.out wr HB6.out
              clear hcell
              generalize nth zs (j * 2) = V at *
              generalize nth zs (j * 2 + 1) = N at *
              by_cases h1 : N < 0
              · have d1 : decide (N < 0) = true := by simpa using h1
                have HE := Lib.hid (HEN.out (by omega))
                clear HEY HEN HTJ
                go_wp2_with fail
                go_roundw
                case rel => exact ⟨j + 1, by omega, by go_num, by rw [HE.out]; exact R6.out, F6.out⟩
                case measure => simp [intOf]; omega
              have d1 : decide (N < 0) = false := by simpa using h1
              by_cases h2 : 16 < N
              · have d2 : decide (16 < N) = true := by simpa using h2
                have HE := Lib.hid (HEN.out (by omega))
                clear HEY HEN HTJ
                go_wp2_with fail
                go_roundw
                case rel => exact ⟨j + 1, by omega, by go_num, by rw [HE.out]; exact R6.out, F6.out⟩
                case measure => simp [intOf]; omega
              have d2 : decide (16 < N) = false := by simpa using h2
              obtain ⟨n, rfl⟩ := Int.eq_ofNat_of_zero_le (show 0 ≤ N by omega)
              have hn16 : n ≤ 16 := by omega
              have htk := HTJ.out n hji rfl hn16
              have HE := Lib.hid (HEY.out n rfl hn16)
              have LN := Lib.hid (low_len V n)
              have hk8 : (entL zs j).length + n ≤ 8 * D.length := by have h1 := bitsL_len D; rw [HBD.out] at h1; have := htk.1; omega
              have HX := Lib.hid (take_v wr g3 A11 c11 D (entL zs j).length n (entL zs (j + 1)).length (n : Int) (V % 2 ^ n) rfl R6.out hn16 hk8 (by rw [HE.out, List.length_append, LN.out]) (by rw [HBD.out]; exact htk.2))
              have dm : (V % 2 ^ n != bits .and .i64 V (wrap64 (wrap64 (2 ^ n) - 1))) = false := by
                obtain ⟨p1, p2⟩ := pow16 hn16
                rw [show wrap64 ((2 : Int) ^ n) = 2 ^ n by unfold wrap64; omega, show wrap64 ((2 : Int) ^ n - 1) = 2 ^ n - 1 by unfold wrap64; omega, and_mask64 V n hn16]
                simp
              clear HEY HEN HTJ htk hk8
              go_wp2_with fail
              refine HX.out.mono ?_
              rintro e w6 ⟨rfl, hr7, hg7⟩
              have R7 := Lib.hid hr7
              have F7 := Lib.hid (F6.out.grow hg7 (.inl rfl))
              have HB7 := Lib.hid (F7.out.below HT5.out.one.bel hgg (fun q h => by cases h) HT5.out.bg)
              have c0 := K0.out w6 HB7.out
              clear hr7 hg7 c1
              go_wp2_with fail
              go_roundw
              case rel => exact ⟨j + 1, by omega, by go_num, R7.out, F7.out⟩
              case measure => simp [intOf]; omega
            · obtain rfl : j = i := by omega
              have HST := Lib.hid (fun (W : World) (h : Below w.heap.size w W) => stuff_any A1 l cap1 W (Sl.keep HL1.out h) (by omega))
              have hsl := (stf_len l)
              have HSB := Lib.hid (pln_stf l)
              obtain ⟨s1, s2⟩ := hsl
              have HB7 := Lib.hid (show Below w.heap.size w wr from HG.out ▸ HB6.out)
              generalize hO2 : stf l = O2 at *
              have HO2 := Lib.hid hO2
              clear hO2
              go_wp2_with fail
              refine (HST.out wr HB7.out).mono ?_
              rintro e w7 ⟨A12, c12, rfl, ho12, hb12⟩
              have S12 := Lib.hid (Own.sl' ho12).2
              have R8 := Lib.hid (R6.out.keep hb12)
              clear ho12
              have hpl2 : (pln O2).2 = O2.length := by rw [HSB.out]
              have HP2 := Lib.hid (bplain_yes A12 O2 c12 w7 S12.out (by omega) hpl2)
              rw [HSB.out] at HP2
              clear hpl2
              go_wp2_with fail
              refine HP2.out.mono ?_
              rintro e w8 ⟨A13, c13, rfl, ho13, hb13⟩
              have S13 := Lib.hid (Own.sl' ho13).2
              have R9 := Lib.hid (R8.out.keep hb13)
              have HB8 := Lib.hid (bt HB7.out (bt hb12 hb13))
              clear ho13 hb12 hb13
              go_wp2_with fail
              refine (filled_any w8 g3 A11 c11 D _ R9.out).mono ?_
              rw [HEnd.out]
              rintro e w9 ⟨rfl, hb9⟩
              have HB9 := Lib.hid (bt HB8.out hb9)
              have e1 := str_run Try.underlying24 Try.underlying5 Try.underlying9 (Sl.keep S13.out hb9) l.length c13 rfl
              have e2 := str_run Try.underlying24 Try.underlying5 Try.underlying9 (Sl.keep HL1.out HB9.out) l.length cap1 rfl
              have i9 : (l.length : Int) ≤ (O2.length : Int) := by omega
              have i8 : decide (l.length ≤ O2.length) = true := decide_eq_true (by omega)
              clear hb9
              go_wp2_with fail
              refine (awake_any w9).mono ?_
              rintro e w10 ⟨rfl, hb10⟩
              have HB10 := Lib.hid (bt HB9.out hb10)
              clear hb10
              go_wp2_with fail
              go_ret
              exact ⟨rfl, HB10.out⟩
end Go.Proofs.Ytoclmeblbjpilaa
