/- The contract of the reference's Of. -/
import Derived.Test.YtfohajgljjffgaaMkF
namespace Go.Proofs.Ytfohajgljjffgaa
open Go.RowKit
open Go.Tin
set_option linter.unusedVariables false
set_option linter.unusedSimpArgs false


theorem OfP.of_err {w w' : World} {r : Lo} {p q : Int} (h : r = .err p q) (hb : Below w.heap.size w w') : OfP w r (.returned (.tuple #[.slice none 0 0, .int .i64 0, .int .i64 p, .int .i64 q])) w' := by
  subst h; exact ⟨rfl, hb⟩
theorem OfP.of_ok {w w' : World} {r : Lo} {L : List Sg} {a n : Nat} {A : Option Addr} {c : Nat} {xs : List Value} {v : Value} (h : r = .ok L a) (hn : n = L.length) (hv : v = .int .i64 (a : Int)) (ho : OwnV 36 3 w' w.heap.size (.slice A n c) n xs) (hs : SgV (fun v l => Own .u8 5 w' w.heap.size v l) xs L) (hb : Below w.heap.size w w') :
    OfP w r (.returned (.tuple #[.slice A n c, v, .int .i64 0, .int .i64 0])) w' := by
  subst h; subst hn; subst hv; exact ⟨A, c, xs, rfl, ho, hs, hb⟩
theorem ownv_below {e : TypeId} {sz B n : Nat} {w w' : World} {v : Value} {xs : List Value} (h : OwnV e sz w B v n xs) (hs : B ≤ w.heap.size) (hg : w.grownBy w' v.ownBlock) : Below B w w' := h.grown (Below.refl _ _) hs hg
theorem lexS_app {l : List Int} {a N : Nat} {m : Int} (hm : aloB m = false) (h1 : a + 2 ≤ l.length) (hN : lenS l a = (N : Int)) (h2 : 2 ≤ N) (h3 : a + N ≤ l.length) :
    lexS l a m = if m = 218 then .ok ((l.drop (a + 2)).take (N - 2)) ((l.drop (a + N)).take (scL (l.drop (a + N)))) (a + N + scL (l.drop (a + N))) else .ok ((l.drop (a + 2)).take (N - 2)) [] (a + N) := by
  unfold lexS
  rw [hm, hN]
  rw [if_neg (by decide), if_neg (by omega), if_neg (by omega), if_neg (by omega)]
  rfl
theorem below_drewN {B : Nat} {w x : World} (n : Nat) (h : Below B w x) : Below B w (x.drewN n) := ⟨h.os, h.tape, h.output, h.size, h.block⟩
theorem ownv_drewN {e : TypeId} {sz B n : Nat} {w : World} {v : Value} {xs : List Value} (h : OwnV e sz w B v n xs) (k : Nat) : OwnV e sz (w.drewN k) B v n xs := h
theorem own_cells_ne {k : IntKind} {e t : TypeId} {w : World} {B g : Nat} {v : Value} {l : List Int} {cs : Array Value} {z : Nat × Nat} (h : Own k e w B v l) (hr : w.heap[g]? = some (.cells cs t z)) (hne : e ≠ t) : v.ownBlock = none ∨ v.ownBlock ≠ some g := by
  rcases h.2 with ⟨rfl, _⟩ | ⟨q, cap, cur, rfl, _, hh, _⟩
  · exact .inl rfl
  refine .inr fun he => ?_
  have he : q = g := Option.some.inj he
  subst he
  rw [hr] at hh
  injection hh with hh
  injection hh with _ ht
  exact hne ht.symm
set_option maxRecDepth 100000 in
set_option maxHeartbeats 16000000 in
theorem rof_any (A : Option Addr) (l : List Int) (cap : Nat) (w : World) (hs : Sl .u8 w A l) (hcap : l.length ≤ cap) (hl : l.length ≤ 1000000) (hby : Byts l) :
    Calls Try.prog 28 #[.slice A l.length cap] w fun e w' => OfP w (ofR l) e w' := by
  have HS0 := Lib.hid hs
  have HBY := Lib.hid hby
  clear hs hby
  go_enter Try.func28, Try.ntmps28
  go_wp2_with fail
  go_loopw [6, 7] (fun s6 s7 wr => ∃ (acc : List Sg) (a : Nat) (A1 : Option Addr) (c1 : Nat) (xs : List Value) (f : Nat), (a ≤ l.length ∧ acc.length ≤ a) ∧ s6 = .slice A1 acc.length c1 ∧ s7 = .int .i64 (a : Int) ∧ OwnV 36 3 wr w.heap.size (.slice A1 acc.length c1) acc.length xs ∧ SgV (fun v d => Own .u8 5 wr w.heap.size v d) xs acc ∧ Below w.heap.size w wr ∧ ofR l = lexO l f a acc ∧ l.length < f + a) (fun _ s7 _ => l.length + 1 - (intOf s7).toNat)
  case atStart => exact ⟨[], 0, none, 0, [], l.length + 1, ⟨by omega, Nat.le_refl _⟩, rfl, rfl, OwnV.nil_ _ _ _ _, .nil, Below.refl _ _, rfl, by omega⟩
  case round =>
    obtain ⟨acc, a, A1, c1, xs, f, ⟨ha, hac⟩, rfl, rfl, hov, hsv, hb, hf, hfl⟩ := hrel
    have OV := Lib.hid hov
    have SV := Lib.hid hsv
    have HB := Lib.hid hb
    have HF := Lib.hid hf
    have HAC := Lib.hid hac
    clear hov hsv hb hf hac
    by_cases h1 : l.length ≤ a
    · have i1 : (l.length : Int) ≤ (a : Int) := by omega
      have HE := Lib.hid (show ofR l = .err l.length 3 by rw [HF.out]; obtain ⟨f1, rfl⟩ : ∃ f1, f = f1 + 1 := ⟨f - 1, by omega⟩; simp only [lexO]; rw [show lexM l a = .err l.length 3 by unfold lexM; rw [if_pos h1]])
      go_wp2_with fail
      exact bodyPost_ret (v := .tuple #[.slice none 0 0, .int .i64 0, .int .i64 (l.length), .int .i64 3]) (by simp [results, Try.results28, go_sem]) rfl (OfP.of_err HE.out HB.out)
    have h1' : a < l.length := by omega
    have i1 : (a : Int) < (l.length : Int) := by omega
    have HS := Lib.hid (HS0.out.keep HB.out)
    obtain ⟨b, off, rfl, hlt, hcell⟩ := HS.out.at_ (by omega)
    have k0 : wr.cell? ⟨b, off + a, none⟩ = some (.int .u8 (nth l a)) := hcell a (by omega)
    have HK := Lib.hid hcell
    clear hcell
    obtain ⟨X, hX⟩ : ∃ X, nth l a = X := ⟨_, rfl⟩
    rw [hX] at k0
    have HX := Lib.hid hX
    clear hX
    by_cases h2 : X = 255
    case neg =>
      have n2 : (X != 255) = true := by simpa using h2
      have H2 := Lib.hid h2
      clear h2
      have HE := Lib.hid (show ofR l = .err a 2 by rw [HF.out]; obtain ⟨f1, rfl⟩ : ∃ f1, f = f1 + 1 := ⟨f - 1, by omega⟩; simp only [lexO]; rw [show lexM l a = .err a 2 by unfold lexM; rw [if_neg h1, if_pos (by rw [HX.out]; exact H2.out)]])
      go_wp2_with fail
      exact bodyPost_ret (v := .tuple #[.slice none 0 0, .int .i64 0, .int .i64 (a), .int .i64 2]) (by simp [results, Try.results28, go_sem]) rfl (OfP.of_err HE.out HB.out)
    subst h2
    by_cases h3 : l.length ≤ a + 1
    · have i3 : (l.length : Int) ≤ (a : Int) + 1 := by omega
      have HE := Lib.hid (show ofR l = .err l.length 3 by rw [HF.out]; obtain ⟨f1, rfl⟩ : ∃ f1, f = f1 + 1 := ⟨f - 1, by omega⟩; simp only [lexO]; rw [show lexM l a = .err l.length 3 by unfold lexM; rw [if_neg h1, if_neg (by rw [HX.out]; decide), if_pos h3]])
      go_wp2_with fail
      exact bodyPost_ret (v := .tuple #[.slice none 0 0, .int .i64 0, .int .i64 (l.length), .int .i64 3]) (by simp [results, Try.results28, go_sem]) rfl (OfP.of_err HE.out HB.out)
    have i3 : (a : Int) + 1 < (l.length : Int) := by omega
    have t1 : ((a : Int) + 1).toNat = a + 1 := by omega
    have k1 : wr.cell? ⟨b, off + (a + 1), none⟩ = some (.int .u8 (nth l (a + 1))) := HK.out (a + 1) (by omega)
    have hM := HBY.out.nth (a + 1)
    obtain ⟨M, hM2⟩ : ∃ M, nth l (a + 1) = M := ⟨_, rfl⟩
    rw [hM2] at k1 hM
    have HLM := Lib.hid (show lexM l a = if badM a M = true then .err a 2 else .ok M by unfold lexM; rw [if_neg h1, if_neg (by rw [HX.out]; decide), if_neg h3, hM2])
    have m0 := hM.1
    have m1 := hM.2
    clear hM hM2
    have t2 : ((a : Int) + 2).toNat = a + 2 := by omega
    by_cases h0 : a = 0
    · have e0 : ((a : Int) == 0) = true := by simp; omega
      by_cases h216 : M = 216
      · subst h216
        have HBD := Lib.hid (show badM a 216 = false by unfold badM; rw [decide_eq_true h0]; rfl)
        clear h0
        have HE := Lib.hid (show ofR l = lexO l (f - 1) (a + 2) (acc ++ [⟨216, [], []⟩]) by rw [HF.out]; obtain ⟨f1, rfl⟩ : ∃ f1, f = f1 + 1 := ⟨f - 1, by omega⟩; simp only [lexO]; rw [show lexM l a = .ok _ from HLM.out.trans (if_neg (by rw [HBD.out]; decide))]; simp [lexS, aloB])
        obtain ⟨R0, hvb, hvz⟩ := alloc1 wr (.cells (srow 216 none 0 0 none 0 0) 36)
        have R := Lib.hid R0
        have HB0 := Lib.hid HB.out
        have OV0 := Lib.hid OV.out
        have HZ := Lib.hid hvz
        replace HB := Lib.hid (HB.out.trans (hvb.mono HB.out.size))
        replace OV := Lib.hid (OV.out.keep hvb)
        replace SV := Lib.hid (SgV.mono (fun _ _ h => h.keep hvb) SV.out)
        have HD1 := Lib.hid (Own.nil_ .u8 5 (wr.alloc (.cells (srow 216 none 0 0 none 0 0) 36)) w.heap.size)
        have HD2 := Lib.hid (Own.nil_ .u8 5 (wr.alloc (.cells (srow 216 none 0 0 none 0 0) 36)) w.heap.size)
        clear R0 hvb hvz
        go_wp2_with (first | ((with_reducible refine wpl_load_row rtS ?_ (.tmp 9) ?_ (wr.heap.size) ?_ 36 (srow 216 none 0 0 none 0 0) ?_ R.out ?_); rfl; rfl; rfl; rfl; simp only [Act.put, List.setIfInBounds_toArray, List.set_cons_succ, List.set_cons_zero]) | (at_builtin; refine Tin.wplv_push svG _ (srow 216 none 0 0 none 0 0) rfl (.tmp 133) (.tmp 135) rfl w.heap.size A1 acc.length c1 xs rfl OV.out HB.out.size (by rw [HZ.out]; rfl) rfl (by simp [Value.oneCell']) (by have := HAC.out; omega) (by have := HAC.out; omega) ?_; intro A4 c4 w4 ho4 hg4 how4; have HO4 := Lib.hid ho4; have HG4 := Lib.hid hg4; clear ho4 hg4 how4))
        have hb4 := Lib.hid (HB.out.trans (ownv_below OV.out HB.out.size HG4.out))
        have SV4 := Lib.hid (SgV.app (SgV.mono (fun _ _ h => Own.kept h HG4.out (own_ownv_apart h OV.out (by decide))) SV.out) (SgV.one (m := 216) (HD1.out.kept HG4.out (own_ownv_apart HD1.out OV.out (by decide))) (HD2.out.kept HG4.out (own_ownv_apart HD2.out OV.out (by decide)))))
        have hln : (acc ++ [Sg.mk (216) ([]) ([])]).length = acc.length + 1 := by simp
        exact ⟨⟨acc ++ [⟨216, [], []⟩], a + 2, A4, c4, _, f - 1, ⟨by omega, by rw [hln]; have := HAC.out; omega⟩, by rw [hln], congrArg (Value.int .i64) (by omega), by rw [hln]; exact HO4.out, SV4.out, hb4.out, HE.out, by omega⟩, by simp only [intOf]; omega⟩
      · have n216 : (M == 216) = false := by simpa using h216
        have HBD := Lib.hid (show badM a M = true by unfold badM; rw [decide_eq_true h0, n216]; rfl)
        clear h0 h216
        have HE := Lib.hid (show ofR l = .err a 2 by rw [HF.out]; obtain ⟨f1, rfl⟩ : ∃ f1, f = f1 + 1 := ⟨f - 1, by omega⟩; simp only [lexO]; rw [HLM.out, if_pos HBD.out])
        go_wp2_with fail
        exact bodyPost_ret (v := .tuple #[.slice none 0 0, .int .i64 0, .int .i64 (a), .int .i64 2]) (by simp [results, Try.results28, go_sem]) rfl (OfP.of_err HE.out HB.out)
    have e0 : ((a : Int) == 0) = false := by rw [beq_eq_false_iff_ne]; omega
    by_cases h216 : M = 216
    · subst h216
      have HBD := Lib.hid (show badM a 216 = true by unfold badM; rw [decide_eq_false h0]; rfl)
      clear h0
      have HE := Lib.hid (show ofR l = .err a 2 by rw [HF.out]; obtain ⟨f1, rfl⟩ : ∃ f1, f = f1 + 1 := ⟨f - 1, by omega⟩; simp only [lexO]; rw [HLM.out, if_pos HBD.out])
      go_wp2_with fail
      exact bodyPost_ret (v := .tuple #[.slice none 0 0, .int .i64 0, .int .i64 (a), .int .i64 2]) (by simp [results, Try.results28, go_sem]) rfl (OfP.of_err HE.out HB.out)
    have n216 : (M == 216) = false := by simpa using h216
    have n216' : (M != 216) = true := by simpa using h216
    by_cases h217 : M = 217
    · subst h217
      have HBD := Lib.hid (show badM a 217 = false by unfold badM; rw [decide_eq_false h0]; rfl)
      clear h0 h216 n216 n216'
      have HE := Lib.hid (show ofR l = .ok (acc ++ [⟨217, [], []⟩]) (a + 2) by rw [HF.out]; obtain ⟨f1, rfl⟩ : ∃ f1, f = f1 + 1 := ⟨f - 1, by omega⟩; simp only [lexO]; rw [show lexM l a = .ok _ from HLM.out.trans (if_neg (by rw [HBD.out]; decide))]; simp [lexS, aloB])
      obtain ⟨R0, hvb, hvz⟩ := alloc1 wr (.cells (srow 217 none 0 0 none 0 0) 36)
      have R := Lib.hid R0
      have HB0 := Lib.hid HB.out
      have OV0 := Lib.hid OV.out
      have HZ := Lib.hid hvz
      replace HB := Lib.hid (HB.out.trans (hvb.mono HB.out.size))
      replace OV := Lib.hid (OV.out.keep hvb)
      replace SV := Lib.hid (SgV.mono (fun _ _ h => h.keep hvb) SV.out)
      have HD1 := Lib.hid (Own.nil_ .u8 5 (wr.alloc (.cells (srow 217 none 0 0 none 0 0) 36)) w.heap.size)
      have HD2 := Lib.hid (Own.nil_ .u8 5 (wr.alloc (.cells (srow 217 none 0 0 none 0 0) 36)) w.heap.size)
      clear R0 hvb hvz
      go_wp2_with (first | ((with_reducible refine wpl_load_row rtS ?_ (.tmp 9) ?_ (wr.heap.size) ?_ 36 (srow 217 none 0 0 none 0 0) ?_ R.out ?_); rfl; rfl; rfl; rfl; simp only [Act.put, List.setIfInBounds_toArray, List.set_cons_succ, List.set_cons_zero]) | (at_builtin; refine Tin.wplv_push svG _ (srow 217 none 0 0 none 0 0) rfl (.tmp 62) (.tmp 64) rfl w.heap.size A1 acc.length c1 xs rfl OV.out HB.out.size (by rw [HZ.out]; rfl) rfl (by simp [Value.oneCell']) (by have := HAC.out; omega) (by have := HAC.out; omega) ?_; intro A4 c4 w4 ho4 hg4 how4; have HO4 := Lib.hid ho4; have HG4 := Lib.hid hg4; clear ho4 hg4 how4))
      have hb4 := Lib.hid (HB.out.trans (ownv_below OV.out HB.out.size HG4.out))
      have SV4 := Lib.hid (SgV.app (SgV.mono (fun _ _ h => Own.kept h HG4.out (own_ownv_apart h OV.out (by decide))) SV.out) (SgV.one (m := 217) (HD1.out.kept HG4.out (own_ownv_apart HD1.out OV.out (by decide))) (HD2.out.kept HG4.out (own_ownv_apart HD2.out OV.out (by decide)))))
      have hln : (acc ++ [Sg.mk (217) ([]) ([])]).length = acc.length + 1 := by simp
      exact bodyPost_ret (v := .tuple #[.slice A4 (acc.length + 1) c4, .int .i64 ((a : Int) + 2), .int .i64 0, .int .i64 0]) (by simp [results, Try.results28, go_sem]) rfl (OfP.of_ok HE.out hln.symm (congrArg (Value.int .i64) (by omega)) HO4.out SV4.out hb4.out)
    have n217 : (M == 217) = false := by simpa using h217
    have n217' : (M != 217) = true := by simpa using h217
    cases hh : hdB M with
    | false =>
      have HBD := Lib.hid (show badM a M = true by unfold badM; rw [decide_eq_false h0, n216, n217, hh]; rfl)
      have HH := Lib.hid hh
      clear h0 h216 h217 hh
      have HE := Lib.hid (show ofR l = .err a 2 by rw [HF.out]; obtain ⟨f1, rfl⟩ : ∃ f1, f = f1 + 1 := ⟨f - 1, by omega⟩; simp only [lexO]; rw [HLM.out, if_pos HBD.out])
      go_wp2_with fail
      refine (rhd_any M _).mono ?_
      rintro e w2 ⟨rfl, rfl⟩
      rw [HH.out]
      go_wp2_with fail
      exact bodyPost_ret (v := .tuple #[.slice none 0 0, .int .i64 0, .int .i64 (a), .int .i64 2]) (by simp [results, Try.results28, go_sem]) rfl (OfP.of_err HE.out HB.out)
    | true =>
      have HBD := Lib.hid (show badM a M = false by unfold badM; rw [decide_eq_false h0, n216, n217, hh]; rfl)
      have HAL := Lib.hid (show aloB M = false by unfold aloB; rw [n216, n217]; rfl)
      have HH := Lib.hid hh
      clear h0 h216 hh
      obtain ⟨R0, hvb, hvz⟩ := alloc1 wr (.cells (srow M none 0 0 none 0 0) 36)
      have R := Lib.hid R0
      have HB0 := Lib.hid HB.out
      have OV0 := Lib.hid OV.out
      have HZ := Lib.hid hvz
      replace HB := Lib.hid (HB.out.trans (hvb.mono HB.out.size))
      replace OV := Lib.hid (OV.out.keep hvb)
      replace SV := Lib.hid (SgV.mono (fun _ _ h => h.keep hvb) SV.out)
      have HD1 := Lib.hid (Own.nil_ .u8 5 (wr.alloc (.cells (srow M none 0 0 none 0 0) 36)) w.heap.size)
      have HD2 := Lib.hid (Own.nil_ .u8 5 (wr.alloc (.cells (srow M none 0 0 none 0 0) 36)) w.heap.size)
      clear R0 hvb hvz
      by_cases h4 : l.length < a + 4
      · have i4 : (l.length : Int) < (a : Int) + 2 + 2 := by omega
        have HE := Lib.hid (show ofR l = .err l.length 3 by rw [HF.out]; obtain ⟨f1, rfl⟩ : ∃ f1, f = f1 + 1 := ⟨f - 1, by omega⟩; simp only [lexO]; rw [show lexM l a = .ok _ from HLM.out.trans (if_neg (by rw [HBD.out]; decide))]; simp only [show lexS l (a + 2) M = .err l.length 3 by unfold lexS; rw [HAL.out, if_neg (by decide), if_pos (by omega)]])
        go_wp2_with fail
        refine (rhd_any M _).mono ?_
        rintro e w2 ⟨rfl, rfl⟩
        rw [HH.out]
        go_wp2_with fail
        exact bodyPost_ret (v := .tuple #[.slice none 0 0, .int .i64 0, .int .i64 (l.length), .int .i64 3]) (by simp [results, Try.results28, go_sem]) rfl (OfP.of_err HE.out HB.out)
      have i4 : (a : Int) + 2 + 2 ≤ (l.length : Int) := by omega
      have i5 : (a : Int) + 2 < (l.length : Int) := by omega
      have i6 : (a : Int) + 2 + 1 < (l.length : Int) := by omega
      have t3 : ((a : Int) + 2 + 1).toNat = a + 3 := by omega
      have HS2 := Lib.hid (HS0.out.keep HB.out)
      obtain ⟨b', off', hA, _, hcell⟩ := HS2.out.at_ (by omega)
      injection hA with hA
      injection hA with hb' ho' _
      subst hb'; subst ho'
      have k2 : (wr.alloc (.cells (srow M none 0 0 none 0 0) 36)).cell? ⟨b, off + (a + 2), none⟩ = some (.int .u8 (nth l (a + 2))) := hcell (a + 2) (by omega)
      have k3 : (wr.alloc (.cells (srow M none 0 0 none 0 0) 36)).cell? ⟨b, off + (a + 3), none⟩ = some (.int .u8 (nth l (a + 3))) := hcell (a + 3) (by omega)
      have HG2 := Lib.hid (get2 HBY.out (show a + 2 + 2 ≤ l.length by omega))
      have hY := HBY.out.nth (a + 2)
      have hZ := HBY.out.nth (a + 3)
      have HLS := Lib.hid (show lenS l (a + 2) = nth l (a + 2) * 256 + nth l (a + 3) from rfl)
      obtain ⟨Y, hY2⟩ : ∃ Y, nth l (a + 2) = Y := ⟨_, rfl⟩
      obtain ⟨Z, hZ2⟩ : ∃ Z, nth l (a + 3) = Z := ⟨_, rfl⟩
      rw [hY2] at k2 hY
      rw [hZ2] at k3 hZ
      have HLS2 := Lib.hid (show lenS l (a + 2) = Y * 256 + Z by rw [HLS.out, hY2, hZ2])
      clear hcell hY2 hZ2 HLS
      have y0 := hY.1
      have y1 := hY.2
      have z0 := hZ.1
      have z1 := hZ.2
      clear hY hZ
      go_wp2_with fail
      refine (rhd_any M _).mono ?_
      rintro e w2 ⟨rfl, rfl⟩
      rw [HH.out]
      go_wp2_with fail
      go_quiet (fail)
      clear k0 k1 k2 k3
      have HLO := Lib.hid OV0.out.low
      replace R := Lib.hid (show ((wr.alloc (.cells (srow M none 0 0 none 0 0) 36)).drewN nq).heap[wr.heap.size]? = _ from R.out)
      replace OV := Lib.hid (ownv_drewN OV.out nq)
      replace SV := Lib.hid (SgV.mono (fun _ _ h => Own.drewN h nq) SV.out)
      replace HB := Lib.hid (below_drewN nq HB.out)
      have hbz := HZ.out
      replace HZ := Lib.hid (show ((wr.alloc (.cells (srow M none 0 0 none 0 0) 36)).drewN nq).heap.size = wr.heap.size + 1 from hbz)
      clear hbz HD1 HD2 HS2
      generalize ((wr.alloc (.cells (srow M none 0 0 none 0 0) 36)).drewN nq) = W1 at *
      obtain ⟨N, hN⟩ := Int.eq_ofNat_of_zero_le (show 0 ≤ 256 * Y + Z by omega)
      have HLN := Lib.hid (show lenS l (a + 2) = (N : Int) by rw [HLS2.out]; omega)
      have HNB : N ≤ 65535 := by omega
      rw [hN]
      clear hN HLS2 HG2 y0 y1 z0 z1
      by_cases h5 : N < 2
      · have d5 : (N : Int) < 2 := by omega
        have HE := Lib.hid (show ofR l = .err ((a : Int) + 2) 2 by rw [HF.out]; obtain ⟨f1, rfl⟩ : ∃ f1, f = f1 + 1 := ⟨f - 1, by omega⟩; simp only [lexO]; rw [show lexM l a = .ok _ from HLM.out.trans (if_neg (by rw [HBD.out]; decide))]; simp only [show lexS l (a + 2) M = Ls.err ((a : Int) + 2) 2 by unfold lexS; rw [HAL.out, if_neg (by decide), if_neg (by omega), HLN.out, if_pos (by omega)]; exact congrArg (fun z => Ls.err z 2) (by omega)])
        go_wp2_with fail
        exact bodyPost_ret (v := .tuple #[.slice none 0 0, .int .i64 0, .int .i64 (((a : Int) + 2)), .int .i64 2]) (by simp [results, Try.results28, go_sem]) rfl (OfP.of_err HE.out HB.out)
      have d5 : 2 ≤ (N : Int) := by omega
      by_cases h6 : l.length < a + 2 + N
      · have d6 : (l.length : Int) < (a : Int) + 2 + (N : Int) := by omega
        have HE := Lib.hid (show ofR l = .err l.length 3 by rw [HF.out]; obtain ⟨f1, rfl⟩ : ∃ f1, f = f1 + 1 := ⟨f - 1, by omega⟩; simp only [lexO]; rw [show lexM l a = .ok _ from HLM.out.trans (if_neg (by rw [HBD.out]; decide))]; simp only [show lexS l (a + 2) M = .err l.length 3 by unfold lexS; rw [HAL.out, if_neg (by decide), if_neg (by omega), HLN.out, if_neg (by omega), if_pos (by omega)]])
        go_wp2_with fail
        exact bodyPost_ret (v := .tuple #[.slice none 0 0, .int .i64 0, .int .i64 (l.length), .int .i64 3]) (by simp [results, Try.results28, go_sem]) rfl (OfP.of_err HE.out HB.out)
      have d6 : (a : Int) + 2 + (N : Int) ≤ (l.length : Int) := by omega
      have HLE := Lib.hid (lexS_app HAL.out (show a + 2 + 2 ≤ l.length by omega) HLN.out (show 2 ≤ N by omega) (show a + 2 + N ≤ l.length by omega))
      go_wp2_with fail
      obtain ⟨D, hD⟩ : ∃ D, (l.drop (a + 2 + 2)).take (N - 2) = D := ⟨_, rfl⟩
      have HDL := Lib.hid (show a + 2 + N - (a + 4) = D.length by rw [← hD, List.length_take, List.length_drop]; omega)
      have HDN := Lib.hid (show D.length ≤ 100000 by rw [← HDL.out]; omega)
      have HSD := Lib.hid (fun (W : World) (h : Sl .u8 W (some ⟨b, off, none⟩) l) => (show Sl .u8 W (cutA (some ⟨b, off, none⟩) cap (a + 4) 1) D by have h2 := (h.cutA (j := a + 4) hcap).take (N - 2); rw [hD] at h2; exact h2))
      rw [hD] at HLE
      clear hD
      have R1 := Lib.hid (show W1.drew.heap[wr.heap.size]? = _ from R.out)
      have OV1 := Lib.hid OV.out.drew
      have SV1 := Lib.hid (SgV.mono (fun _ _ h => Own.drew h) SV.out)
      have HB1 := Lib.hid (ud' HB.out)
      clear R OV SV HB HZ
      refine Tin.reg_begin 0 12 (by rfl) (by kernel_rfl) ?_
      refine Tin.reg_quiets [0, 2, 3, 4, 5, 6, 7, 8] _ 4 rfl (by simp only [Tin.pick, List.map_cons, List.map_nil, Array.getD_eq_getD_getElem?, List.getElem?_toArray, List.getElem?_cons_zero, List.getElem?_cons_succ, Option.getD_some]; rfl) (by kernel_rfl) (by kernel_rfl) ?_
      repeat (first | ((with_reducible refine Tin.wpq_cut (P := Try.prog) (e := 5) (s := 1) Try.underlying22 sz8 ?_ (.tmp 102) (.tmp 104) (.tmp 107) ?_ (some ⟨b, off, none⟩) l.length cap (a + 4) (a + 2 + N) ((a : Int) + 2 + 2) ((a : Int) + 2 + (N : Int)) ?_ ?_ ?_ ?_ ?_ ?_ ?_ ?_); rfl; rfl; rfl; rfl; rfl; omega; omega; omega; omega; simp only [Act.put, List.setIfInBounds_toArray, List.set_cons_succ, List.set_cons_zero]) | go_big_quiet_step (fail))
      refine wpQuiet_nil ?_

      refine Tin.reg_one 1 _ rfl (by kernel_rfl) ?_
      try simp only [List.getElem_toArray, List.getElem_cons_succ, List.getElem_cons_zero]
      have kq := row_cell (v := .slice none 0 0) R1.out 1 rfl
      go_wp2_with fail
      clear kq
      refine ⟨0, Below.refl _ _, Nat.le_refl _, ?_⟩
      rw [HDL.out]
      refine Tin.reg_one 9 _ rfl (by kernel_rfl) ?_
      try simp only [List.getElem_toArray, List.getElem_cons_succ, List.getElem_cons_zero]
      refine Tin.wpl_app bt5 _ rfl (.tmp 101) (.tmp 108) rfl W1.drew.heap.size (.slice none 0 0) [] rfl (Own.nil_ _ _ _ _) (cutA (some ⟨b, off, none⟩) cap (a + 4) 1) D.length (cap - (a + 4)) D rfl (HSD.out _ (HS0.out.keep HB1.out)) rfl (by simp; have := HDN.out; omega) (by simp; have := HDN.out; omega) (Nat.le_refl _) ?_
      intro x1 w5 ho1 hg1 hw1
      rw [List.nil_append] at ho1
      obtain ⟨A5, c5, rfl⟩ := own_form ho1
      have hb1 : Below W1.drew.heap.size W1.drew w5 := ⟨hg1.os, hg1.tape, hg1.output, hg1.size, fun i hi => hg1.block i hi nofun⟩
      go_wp2_with fail
      refine ⟨0, hb1.mono (Nat.zero_le _), Nat.le_refl _, ?_⟩
      replace R1 := Lib.hid ((hb1.block _ (row_lt R1.out)).trans R1.out)
      replace OV1 := Lib.hid (OV1.out.keep hb1)
      replace SV1 := Lib.hid (SgV.mono (fun _ _ h => h.keep hb1) SV1.out)
      have HBX := Lib.hid (ho1.mono HB1.out.size)
      replace HB1 := Lib.hid (HB1.out.trans (hb1.mono HB1.out.size))
      clear hb1 hg1 hw1 ho1
      refine Tin.reg_quiets [10] _ 1 rfl (by simp only [Tin.pick, List.map_cons, List.map_nil, Array.getD_eq_getD_getElem?, List.getElem?_toArray, List.getElem?_cons_zero, List.getElem?_cons_succ, Option.getD_some]; rfl) (by kernel_rfl) (by kernel_rfl) ?_
      repeat (first | go_big_quiet_step (fail))
      refine wpQuiet_nil ?_
      refine Tin.reg_one 11 _ rfl (by kernel_rfl) ?_
      try simp only [List.getElem_toArray, List.getElem_cons_succ, List.getElem_cons_zero]
      have kq := row_cell (v := .slice none 0 0) R1.out 1 rfl
      have yq := frozen_of_row _ (wr.heap.size) 1 _ _ R1.out
      go_wp2_with fail
      clear kq yq
      have hg : w5.grownBy (w5.setCell ⟨wr.heap.size, 1, none⟩ (.slice A5 D.length c5)) (some wr.heap.size) := grown_setCells (wr.heap.size) [.slice A5 D.length c5] 1 _ _ (World.grownBy.refl _ _)
      refine ⟨0, bel_grown (Below.refl 0 _) (Nat.zero_le _) (Nat.zero_le _) hg, Nat.le_refl _, ?_⟩
      have hne := fun (v : Value) (d : List Int) (h : Own .u8 5 w5 w.heap.size v d) => own_cells_ne h R1.out (by decide)
      replace OV1 := Lib.hid (OV1.out.kept hg (ne_own fun q hq => by have := (HLO.out q hq).2; omega))
      replace SV1 := Lib.hid (SgV.mono (fun _ _ h => h.kept hg (hne _ _ h)) SV1.out)
      have HD1 := Lib.hid (HBX.out.kept hg (hne _ _ HBX.out))
      replace R1 := Lib.hid (show (w5.setCell ⟨wr.heap.size, 1, none⟩ (.slice A5 D.length c5)).heap[wr.heap.size]? = some (.cells (srow M A5 D.length c5 none 0 0) 36 (0, 0)) from row_set R1.out 1 _)
      replace HB1 := Lib.hid (bset HB1.out wr.heap.size 1 (.slice A5 D.length c5) HB0.out.size)
      clear hg hne HBX
      generalize (w5.setCell ⟨wr.heap.size, 1, none⟩ (.slice A5 D.length c5)) = w6 at *
      refine Tin.reg_done (by kernel_rfl) ?_

      have HD2 := Lib.hid (Own.nil_ .u8 5 w6 w.heap.size)
      by_cases h218 : M = 218
      case neg =>
        have n218 : (M == 218) = false := by simpa using h218
        have HE := Lib.hid (show ofR l = lexO l (f - 1) (a + 2 + N) (acc ++ [⟨M, D, []⟩]) by rw [HF.out]; obtain ⟨f1, rfl⟩ : ∃ f1, f = f1 + 1 := ⟨f - 1, by omega⟩; simp only [lexO]; rw [show lexM l a = .ok _ from HLM.out.trans (if_neg (by rw [HBD.out]; decide))]; simp only [HLE.out, if_neg h218, if_neg h217, Nat.add_sub_cancel])
        clear h218 h217
        have HB := HB1
        have OV := OV1
        have SV := SV1
        have R := R1
        go_wp2_with (first | ((with_reducible refine wpl_load_row rtS ?_ (.tmp 9) ?_ (wr.heap.size) ?_ 36 (srow M A5 D.length c5 none 0 0) ?_ R.out ?_); rfl; rfl; rfl; rfl; simp only [Act.put, List.setIfInBounds_toArray, List.set_cons_succ, List.set_cons_zero]) | (at_builtin; refine Tin.wplv_push svG _ (srow M A5 D.length c5 none 0 0) rfl (.tmp 133) (.tmp 135) rfl w.heap.size A1 acc.length c1 xs rfl OV.out HB.out.size rfl rfl (by simp [Value.oneCell']) (by have := HAC.out; omega) (by have := HAC.out; omega) ?_; intro A4 c4 w4 ho4 hg4 how4; have HO4 := Lib.hid ho4; have HG4 := Lib.hid hg4; clear ho4 hg4 how4))
        have hb4 := Lib.hid (HB.out.trans (ownv_below OV.out HB.out.size HG4.out))
        have SV4 := Lib.hid (SgV.app (SgV.mono (fun _ _ h => Own.kept h HG4.out (own_ownv_apart h OV.out (by decide))) SV.out) (SgV.one (m := M) (HD1.out.kept HG4.out (own_ownv_apart HD1.out OV.out (by decide))) (HD2.out.kept HG4.out (own_ownv_apart HD2.out OV.out (by decide)))))
        have hln : (acc ++ [Sg.mk (M) (D) ([])]).length = acc.length + 1 := by simp
        exact ⟨⟨acc ++ [⟨M, D, []⟩], a + 2 + N, A4, c4, _, f - 1, ⟨by omega, by rw [hln]; have := HAC.out; omega⟩, by rw [hln], congrArg (Value.int .i64) (by omega), by rw [hln]; exact HO4.out, SV4.out, hb4.out, HE.out, by omega⟩, by simp only [intOf]; omega⟩
      subst h218
      obtain ⟨P, hP⟩ : ∃ P, a + 2 + N = P := ⟨_, rfl⟩
      have eP : (a : Int) + 2 + (N : Int) = (P : Int) := by omega
      obtain ⟨E, hE⟩ : ∃ E, l.drop P = E := ⟨_, rfl⟩
      have HEL := Lib.hid (show l.length - P = E.length by rw [← hE, List.length_drop])
      have HSE := Lib.hid (fun (W : World) (h : Sl .u8 W (some ⟨b, off, none⟩) l) => (show Sl .u8 W (cutA (some ⟨b, off, none⟩) cap P 1) E by have h2 := h.cutA (j := P) hcap; rw [hE] at h2; exact h2))
      have HEB := Lib.hid (show Byts E by rw [← hE]; exact HBY.out.drop P)
      have hPl : P ≤ l.length := by omega
      have HEN := Lib.hid (show E.length ≤ 1000000000 by rw [← HEL.out]; omega)
      have HKL := Lib.hid (show scL E ≤ l.length - P by rw [HEL.out]; exact scL_le E)
      obtain ⟨S, hS⟩ : ∃ S, E.take (scL E) = S := ⟨_, rfl⟩
      have hSL : scL E = S.length := by rw [← hS, List.length_take, ← HEL.out]; have := HKL.out; omega
      have HSS := Lib.hid (fun (W : World) (h : Sl .u8 W (some ⟨b, off, none⟩) l) => (show Sl .u8 W (cutA (some ⟨b, off, none⟩) cap P 1) S by rw [← hS]; exact (HSE.out W h).take _))
      have HSC := Lib.hid (fun (W : World) (h : Sl .u8 W (cutA (some ⟨b, off, none⟩) cap P 1) E) => rscan_any (cutA (some ⟨b, off, none⟩) cap P 1) E (cap - P) W h HEN.out HEB.out)
      replace HLE := HLE.out
      rw [hP, hE, hS, hSL] at HLE
      replace HLE := Lib.hid HLE
      simp only [hSL] at HSC
      have HKS : P + S.length ≤ l.length := by have := HKL.out; omega
      have HP := Lib.hid hP
      have HSLN := Lib.hid hSL
      have EP := Lib.hid eP
      clear hP hE hS hSL eP
      have HE := Lib.hid (show ofR l = lexO l (f - 1) (P + S.length) (acc ++ [⟨218, D, S⟩]) by rw [HF.out]; obtain ⟨f1, rfl⟩ : ∃ f1, f = f1 + 1 := ⟨f - 1, by omega⟩; simp only [lexO]; rw [show lexM l a = .ok _ from HLM.out.trans (if_neg (by rw [HBD.out]; decide))]; simp only [HLE.out, if_true]; simp [Nat.add_sub_cancel])

      go_wp2_with ((with_reducible refine Tin.wpl_cutn (P := Try.prog) (e := 5) (s := 1) Try.underlying22 sz8 ?_ (.tmp 116) (.tmp 117) ?_ (some ⟨b, off, none⟩) l.length cap P ((a : Int) + 2 + (N : Int)) ?_ ?_ ?_ ?_ ?_); rfl; rfl; rfl; rfl; exact EP.out; exact hPl; simp only [Act.put, List.setIfInBounds_toArray, List.set_cons_succ, List.set_cons_zero])
      rw [HEL.out]
      refine (HSC.out _ (HSE.out _ (HS0.out.keep HB1.out))).mono ?_
      rintro e w7 ⟨rfl, hb7⟩
      go_wp2_with fail
      have R2 := Lib.hid (show w7.drew.heap[wr.heap.size]? = _ from (hb7.block _ (row_lt R1.out)).trans R1.out)
      have OV2 := Lib.hid (OV1.out.keep hb7).drew
      have SV2 := Lib.hid (SgV.mono (fun _ _ h => Own.drew (Own.keep h hb7)) SV1.out)
      have HB2 := Lib.hid (ud' (HB1.out.trans (hb7.mono HB1.out.size)))
      have HD3 := Lib.hid (Own.drew (HD1.out.keep hb7))
      clear R1 OV1 SV1 HB1 HD1 HD2 hb7 HDN
      have HDN := Lib.hid (show S.length ≤ 1000000 by omega)
      have R1 := R2
      have OV1 := OV2
      have SV1 := SV2
      have HB1 := HB2
      have HD1 := HD3
      clear R2 OV2 SV2 HB2 HD3
      refine Tin.reg_begin 0 11 (by rfl) (by kernel_rfl) ?_
      refine Tin.reg_quiets [0, 2, 3, 4, 5, 6, 7] _ 4 rfl (by simp only [Tin.pick, List.map_cons, List.map_nil, Array.getD_eq_getD_getElem?, List.getElem?_toArray, List.getElem?_cons_zero, List.getElem?_cons_succ, Option.getD_some]; rfl) (by kernel_rfl) (by kernel_rfl) ?_
      repeat (first | ((with_reducible refine Tin.wpq_cut (P := Try.prog) (e := 5) (s := 1) Try.underlying22 sz8 ?_ (.tmp 122) (.tmp 123) (.tmp 126) ?_ (some ⟨b, off, none⟩) l.length cap P (P + S.length) ((a : Int) + 2 + (N : Int)) ((a : Int) + 2 + (N : Int) + (S.length : Int)) ?_ ?_ ?_ ?_ ?_ ?_ ?_ ?_); rfl; rfl; rfl; rfl; rfl; exact EP.out; (have := EP.out; omega); omega; omega; simp only [Act.put, List.setIfInBounds_toArray, List.set_cons_succ, List.set_cons_zero]) | go_big_quiet_step (fail))
      refine wpQuiet_nil ?_

      refine Tin.reg_one 1 _ rfl (by kernel_rfl) ?_
      try simp only [List.getElem_toArray, List.getElem_cons_succ, List.getElem_cons_zero]
      have kq := row_cell (v := .slice none 0 0) R1.out 2 rfl
      go_wp2_with fail
      clear kq
      refine ⟨0, Below.refl _ _, Nat.le_refl _, ?_⟩
      rw [show P + S.length - P = S.length by omega]
      refine Tin.reg_one 8 _ rfl (by kernel_rfl) ?_
      try simp only [List.getElem_toArray, List.getElem_cons_succ, List.getElem_cons_zero]
      refine Tin.wpl_app bt5 _ rfl (.tmp 121) (.tmp 127) rfl w7.drew.heap.size (.slice none 0 0) [] rfl (Own.nil_ _ _ _ _) (cutA (some ⟨b, off, none⟩) cap P 1) S.length (cap - P) S rfl (HSS.out _ (HS0.out.keep HB1.out)) rfl (by simp; have := HDN.out; omega) (by simp; have := HDN.out; omega) (Nat.le_refl _) ?_
      intro x1 w8 ho1 hg1 hw1
      rw [List.nil_append] at ho1
      obtain ⟨A6, c6, rfl⟩ := own_form ho1
      have hb1 : Below w7.drew.heap.size w7.drew w8 := ⟨hg1.os, hg1.tape, hg1.output, hg1.size, fun i hi => hg1.block i hi nofun⟩
      go_wp2_with fail
      refine ⟨0, hb1.mono (Nat.zero_le _), Nat.le_refl _, ?_⟩
      replace R1 := Lib.hid ((hb1.block _ (row_lt R1.out)).trans R1.out)
      replace OV1 := Lib.hid (OV1.out.keep hb1)
      replace SV1 := Lib.hid (SgV.mono (fun _ _ h => h.keep hb1) SV1.out)
      replace HD1 := Lib.hid (HD1.out.keep hb1)
      have HBX := Lib.hid (ho1.mono HB1.out.size)
      replace HB1 := Lib.hid (HB1.out.trans (hb1.mono HB1.out.size))
      clear hb1 hg1 hw1 ho1
      refine Tin.reg_quiets [9] _ 1 rfl (by simp only [Tin.pick, List.map_cons, List.map_nil, Array.getD_eq_getD_getElem?, List.getElem?_toArray, List.getElem?_cons_zero, List.getElem?_cons_succ, Option.getD_some]; rfl) (by kernel_rfl) (by kernel_rfl) ?_
      repeat (first | go_big_quiet_step (fail))
      refine wpQuiet_nil ?_
      refine Tin.reg_one 10 _ rfl (by kernel_rfl) ?_
      try simp only [List.getElem_toArray, List.getElem_cons_succ, List.getElem_cons_zero]
      have kq := row_cell (v := .slice none 0 0) R1.out 2 rfl
      have yq := frozen_of_row _ (wr.heap.size) 2 _ _ R1.out
      go_wp2_with fail
      clear kq yq
      have hg : w8.grownBy (w8.setCell ⟨wr.heap.size, 2, none⟩ (.slice A6 S.length c6)) (some wr.heap.size) := grown_setCells (wr.heap.size) [.slice A6 S.length c6] 2 _ _ (World.grownBy.refl _ _)
      refine ⟨0, bel_grown (Below.refl 0 _) (Nat.zero_le _) (Nat.zero_le _) hg, Nat.le_refl _, ?_⟩
      have hne := fun (v : Value) (d : List Int) (h : Own .u8 5 w8 w.heap.size v d) => own_cells_ne h R1.out (by decide)
      replace OV1 := Lib.hid (OV1.out.kept hg (ne_own fun q hq => by have := (HLO.out q hq).2; omega))
      replace SV1 := Lib.hid (SgV.mono (fun _ _ h => h.kept hg (hne _ _ h)) SV1.out)
      replace HD1 := Lib.hid (HD1.out.kept hg (hne _ _ HD1.out))
      have HD2 := Lib.hid (HBX.out.kept hg (hne _ _ HBX.out))
      replace R1 := Lib.hid (show (w8.setCell ⟨wr.heap.size, 2, none⟩ (.slice A6 S.length c6)).heap[wr.heap.size]? = some (.cells (srow 218 A5 D.length c5 A6 S.length c6) 36 (0, 0)) from row_set R1.out 2 _)
      replace HB1 := Lib.hid (bset HB1.out wr.heap.size 2 (.slice A6 S.length c6) HB0.out.size)
      clear hg hne HBX
      generalize (w8.setCell ⟨wr.heap.size, 2, none⟩ (.slice A6 S.length c6)) = w9 at *
      refine Tin.reg_done (by kernel_rfl) ?_

      have HB := HB1
      have OV := OV1
      have SV := SV1
      have R := R1
      go_wp2_with (first | ((with_reducible refine wpl_load_row rtS ?_ (.tmp 9) ?_ (wr.heap.size) ?_ 36 (srow 218 A5 D.length c5 A6 S.length c6) ?_ R.out ?_); rfl; rfl; rfl; rfl; simp only [Act.put, List.setIfInBounds_toArray, List.set_cons_succ, List.set_cons_zero]) | (at_builtin; refine Tin.wplv_push svG _ (srow 218 A5 D.length c5 A6 S.length c6) rfl (.tmp 133) (.tmp 135) rfl w.heap.size A1 acc.length c1 xs rfl OV.out HB.out.size rfl rfl (by simp [Value.oneCell']) (by have := HAC.out; omega) (by have := HAC.out; omega) ?_; intro A4 c4 w4 ho4 hg4 how4; have HO4 := Lib.hid ho4; have HG4 := Lib.hid hg4; clear ho4 hg4 how4))
      have hb4 := Lib.hid (HB.out.trans (ownv_below OV.out HB.out.size HG4.out))
      have SV4 := Lib.hid (SgV.app (SgV.mono (fun _ _ h => Own.kept h HG4.out (own_ownv_apart h OV.out (by decide))) SV.out) (SgV.one (m := 218) (HD1.out.kept HG4.out (own_ownv_apart HD1.out OV.out (by decide))) (HD2.out.kept HG4.out (own_ownv_apart HD2.out OV.out (by decide)))))
      have hln : (acc ++ [Sg.mk (218) (D) (S)]).length = acc.length + 1 := by simp
      exact ⟨⟨acc ++ [⟨218, D, S⟩], P + S.length, A4, c4, _, f - 1, ⟨by have := EP.out; omega, by rw [hln]; have := HAC.out; have := EP.out; omega⟩, by rw [hln], congrArg (Value.int .i64) (by have := EP.out; omega), by rw [hln]; exact HO4.out, SV4.out, hb4.out, HE.out, by have := EP.out; omega⟩, by simp only [intOf]; have := EP.out; omega⟩
end Go.Proofs.Ytfohajgljjffgaa
