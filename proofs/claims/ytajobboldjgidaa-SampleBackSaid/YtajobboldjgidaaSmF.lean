/- Planes in memory of their own; planes compared; blocks compared. -/
import Derived.Test.YtajobboldjgidaaSmE
namespace Go.Proofs.Ytajobboldjgidaa
open Go.RowKit
open Go.Tin
set_option linter.unusedVariables false
set_option linter.unusedSimpArgs false


set_option maxRecDepth 100000 in
set_option maxHeartbeats 8000000 in
theorem ownP_any (A : Option Addr) (c : Nat) (L : List Pn) (w : World) (hs : PlS w A L) (hn : L.length ≤ 1000000) :
    Calls Try.prog 9 #[.slice A L.length c] w fun e w' => ∃ A' c' xs, e = .returned (.slice A' L.length c') ∧ OwnV 24 3 w' w.heap.size (.slice A' L.length c') L.length xs ∧ PnV (fun v d => Own .i64 3 w' w.heap.size v d) xs L ∧ Below w.heap.size w w' := by
  have HS := Lib.hid hs
  clear hs
  go_enter Try.func9, Try.ntmps9
  go_wp2_with fail
  go_loopw [3, 4] (fun s3 s4 wr => ∃ (i : Nat) (A1 : Option Addr) (c1 : Nat) (xs : List Value), i ≤ L.length ∧ s4 = .int .i64 (i : Int) ∧ s3 = .slice A1 i c1 ∧ OwnV 24 3 wr w.heap.size (.slice A1 i c1) i xs ∧ PnV (fun v d => Own .i64 3 wr w.heap.size v d) xs (L.take i) ∧ Below w.heap.size w wr) (fun _ s4 _ => L.length - (intOf s4).toNat)
  case atStart => exact ⟨0, none, 0, [], by omega, rfl, rfl, OwnV.nil_ _ _ _ _, by simpa using PnV.nil, Below.refl _ _⟩
  case round =>
    obtain ⟨i, A1, c1, xs, hi, rfl, rfl, hov, hsv, hb⟩ := hrel
    have OV := Lib.hid hov.drew
    have SV := Lib.hid (PnV.mono (fun _ _ h => Own.drew h) hsv)
    have HB := Lib.hid (ud' hb)
    clear hsv
    by_cases hil : i < L.length
    case neg =>
      obtain rfl : i = L.length := by omega
      go_wp2_with fail
      go_ret
      exact ⟨A1, c1, xs, rfl, hov, by have := SV.out; rw [List.take_length] at this; exact this, hb⟩
    clear hov hb
    have i1 : (i : Int) < (L.length : Int) := by omega
    obtain ⟨b, off, rfl, hlt, hc⟩ := HS.out.at_ (by omega)
    obtain ⟨m1, m2, d1, B1, e1, hx, h0, h1, h2, _, hp1⟩ := hc i hil
    have HX := Lib.hid (take_nextP hx)
    obtain ⟨_, HD1, _, hd1⟩ := hp1.sl
    replace HD1 := Lib.hid HD1
    have k0 : ∀ p : Bel w.heap.size wr.drew, p.w'.cell? ⟨b, off + i * 3, none⟩ = some (.int .i64 m1) := fun p => ((HB.out.trans p.h).cell (p := ⟨b, off + i * 3, none⟩) hlt).trans h0
    have k1 : ∀ p : Bel w.heap.size wr.drew, p.w'.cell? ⟨b, off + i * 3 + 1, none⟩ = some (.int .i64 m2) := fun p => ((HB.out.trans p.h).cell (p := ⟨b, off + i * 3 + 1, none⟩) hlt).trans h1
    have k2 : ∀ p : Bel w.heap.size wr.drew, p.w'.cell? ⟨b, off + i * 3 + 2, none⟩ = some (.slice B1 d1.length e1) := fun p => ((HB.out.trans p.h).cell (p := ⟨b, off + i * 3 + 2, none⟩) hlt).trans h2
    clear hx h0 h1 h2 hc hp1
    go_wp2_with fail
    refine Tin.reg_begin w.heap.size 22 (by rfl) (by kernel_rfl) ?_
    generalize wr.drew = v0 at *
    have HBR := Lib.hid (Below.refl v0.heap.size v0)
    have HSZ : w.heap.size ≤ v0.heap.size := HB.out.size
    have hwz : w.heap.size ≤ v0.heap.size := HB.out.size
    refine Tin.reg_quiets [0, 1, 2, 3, 4, 5, 6, 7, 8, 9, 10, 12, 13, 14, 15, 16] _ 6 rfl (by simp only [Tin.pick, List.map_cons, List.map_nil, Array.getD_eq_getD_getElem?, List.getElem?_toArray, List.getElem?_cons_zero, List.getElem?_cons_succ, Option.getD_some]; rfl) (by kernel_rfl) (by kernel_rfl) ?_
    repeat (first | go_big_quiet_step (fail))
    refine wpQuiet_nil ?_
    clear k0 k1 k2
    refine Tin.reg_one 11 _ rfl (by kernel_rfl) ?_
    try simp only [List.getElem_toArray, List.getElem_cons_succ, List.getElem_cons_zero]
    go_wp2_with fail
    have hb := ba (brefl v0) (.cells #[] 3)
    have szv1 := Lib.hid (show (v0.alloc (.cells #[] 3)).heap.size = v0.heap.size + 1 by simp)
    refine ⟨w.heap.size, hb.mono HSZ, Nat.le_refl _, ?_⟩
    have E1 := Lib.hid (show Own .i64 3 (v0.alloc (.cells #[] 3)) v0.heap.size (.slice (some ⟨v0.heap.size, 0, none⟩) 0 0) [] from Own.new0 v0)
    replace HBR := Lib.hid (HBR.out.trans (hb.mono HBR.out.size))
    replace HSZ := Nat.le_trans HSZ hb.size
    clear hb
    generalize (v0.alloc (.cells #[] 3)) = v1 at *
    refine Tin.reg_one 17 _ rfl (by kernel_rfl) ?_
    try simp only [List.getElem_toArray, List.getElem_cons_succ, List.getElem_cons_zero]
    refine Tin.wpl_app btI _ rfl (.tmp 22) (.tmp 27) rfl v0.heap.size (.slice (some ⟨v0.heap.size, 0, none⟩) 0 0) [] rfl E1.out B1 d1.length e1 d1 rfl (HD1.out.keep (show Below w.heap.size w v1 from HB.out.trans (HBR.out.mono HB.out.size))) rfl (by simp; omega) (by simp; omega) (by have := szv1.out; omega) ?_
    intro x1 v2 ho hg hw
    rw [List.nil_append] at ho
    obtain ⟨A21, c21, rfl⟩ := own_form ho
    go_wp2_with fail
    have hb := E1.out.grown (Below.refl v0.heap.size v1) (by have := szv1.out; omega) hg
    have szv2 := Lib.hid (show v1.heap.size ≤ v2.heap.size from hg.size)
    refine ⟨w.heap.size, hb.mono (by have := szv1.out; omega), Nat.le_refl _, ?_⟩
    have O1 := Lib.hid ho
    replace HBR := Lib.hid (HBR.out.trans (hb.mono (by have := szv1.out; omega)))
    replace HSZ := Nat.le_trans HSZ hg.size
    clear hb hg hw ho
    refine Tin.reg_quiets [18] _ 3 rfl (by simp only [Tin.pick, List.map_cons, List.map_nil, Array.getD_eq_getD_getElem?, List.getElem?_toArray, List.getElem?_cons_zero, List.getElem?_cons_succ, Option.getD_some]; rfl) (by kernel_rfl) (by kernel_rfl) ?_
    repeat (first | go_big_quiet_step (fail))
    refine wpQuiet_nil ?_
    refine Tin.reg_one 19 _ rfl (by kernel_rfl) ?_
    try simp only [List.getElem_toArray, List.getElem_cons_succ, List.getElem_cons_zero]
    go_wp2_with fail
    have hb := ba (brefl v2) (.cells #[.int .i64 m1, .int .i64 m2, .slice A21 d1.length c21] 24)
    have HN := Lib.hid (SlV.new_ v2 24 #[.int .i64 m1, .int .i64 m2, .slice A21 d1.length c21])
    refine ⟨w.heap.size, hb.mono HSZ, Nat.le_refl _, ?_⟩
    replace O1 := Lib.hid (O1.out.keep hb)
    replace HBR := Lib.hid (HBR.out.trans (hb.mono HBR.out.size))
    replace HSZ := Nat.le_trans HSZ hb.size
    clear hb
    replace OV := Lib.hid (OV.out.keep HBR.out)
    replace SV := Lib.hid (PnV.mono (fun _ _ h => h.keep HBR.out) SV.out)
    generalize (v2.alloc (.cells #[.int .i64 m1, .int .i64 m2, .slice A21 d1.length c21] 24)) = v9 at *
    refine Tin.reg_one 20 _ rfl (by kernel_rfl) ?_
    try simp only [List.getElem_toArray, List.getElem_cons_succ, List.getElem_cons_zero]
    refine Tin.wplv_app svP _ rfl (.tmp 11) (.tmp 30) rfl w.heap.size (.slice A1 i c1) i xs rfl OV.out (some ⟨v2.heap.size, 0, none⟩) 1 1 [.int .i64 m1, .int .i64 m2, .slice A21 d1.length c21] rfl rfl HN.out (by simp [Value.oneCell']) (by omega) (by omega) HSZ ?_
    intro A4 c4 w4 ho4 hg4 how4
    go_wp2_with fail
    have hb4 := ownv_belowP OV.out HSZ hg4
    refine ⟨w.heap.size, hb4, Nat.le_refl _, ?_⟩
    have SV4 := Lib.hid (PnV.app (PnV.mono (fun _ _ h => Own.kept h hg4 (ownI_ownv_apart h OV.out (by decide))) SV.out) (PnV.one (W := m1) (H := m2) ((O1.out.kept hg4 (ownI_ownv_apart O1.out OV.out (by decide))).mono (by have := szv1.out; have := szv2.out; omega))))
    refine Tin.reg_quiets [21] _ 0 rfl (by simp only [Tin.pick, List.map_cons, List.map_nil, Array.getD_eq_getD_getElem?, List.getElem?_toArray, List.getElem?_cons_zero, List.getElem?_cons_succ, Option.getD_some]; rfl) (by kernel_rfl) (by kernel_rfl) ?_
    repeat (first | go_big_quiet_step (fail))
    refine wpQuiet_nil ?_
    refine Tin.reg_done (by kernel_rfl) ?_
    go_wp2_with fail
    exact ⟨⟨i + 1, A4, c4, _, by omega, rfl, rfl, ho4, by rw [HX.out]; exact SV4.out, HB.out.trans ((HBR.out.mono HB.out.size).trans hb4)⟩, by simp only [intOf]; omega⟩
def sameP (W H : Int) (v : List Int) (W' H' : Int) (v' : List Int) : Bool := decide (W = W') && (decide (H = H') && decide (v = v'))
set_option maxRecDepth 100000 in
set_option maxHeartbeats 8000000 in
theorem sameP_any (W H W' H' : Int) (A A' : Option Addr) (c d : Nat) (v v' : List Int) (w : World) (hs : Sl .i64 w A v) (ht : Sl .i64 w A' v') (hn : v.length ≤ 1000000000) (hm : v'.length ≤ 1000000000) :
    Calls Try.prog 16 #[plA W H A v.length c, plA W' H' A' v'.length d] w fun e w' => e = .returned (.bool (sameP W H v W' H' v')) ∧ Below w.heap.size w w' := by
  obtain ⟨N, hN⟩ : ∃ N, v.length = N := ⟨_, rfl⟩
  obtain ⟨M, hN2⟩ : ∃ M, v'.length = M := ⟨_, rfl⟩
  rw [hN] at hn ⊢
  rw [hN2] at hm ⊢
  have HN := Lib.hid hN
  have HN2 := Lib.hid hN2
  clear hN hN2
  obtain ⟨r0, r1, hb, hz⟩ := alloc2 w (.cells (plrow W H A N c) 24) (.cells (plrow W' H' A' M d) 24)
  have HS := Lib.hid (hs.keep hb)
  have HT := Lib.hid (ht.keep hb)
  have k0 := row_cell (v := .int .i64 W) r0 0 rfl
  have k1 := row_cell (v := .int .i64 H) r0 1 rfl
  have k2 := row_cell (v := .slice A N c) r0 2 rfl
  have m0 := row_cell (v := .int .i64 W') r1 0 rfl
  have m1 := row_cell (v := .int .i64 H') r1 1 rfl
  have m2 := row_cell (v := .slice A' M d) r1 2 rfl
  have HB := Lib.hid hb
  have HR := Lib.hid (show sameP W H v W' H' v' = (decide (W = W') && (decide (H = H') && decide (v = v'))) from rfl)
  have R0 := Lib.hid r0
  have R1 := Lib.hid r1
  have HZ := Lib.hid hz
  clear hs ht hb r0 r1 hz
  by_cases hW : W = W'
  case neg =>
    have n1 : (W != W') = true := by rw [bne_iff_ne]; exact hW
    have HE := Lib.hid (show sameP W H v W' H' v' = false by rw [HR.out, decide_eq_false hW]; rfl)
    clear hW
    go_enter Try.func16, Try.ntmps16
    go_wp2_with fail
    go_ret
    exact ⟨ret_bool HE.out.symm, HB.out⟩
  subst hW
  by_cases hH : H = H'
  case neg =>
    have n1 : (H != H') = true := by rw [bne_iff_ne]; exact hH
    have HE := Lib.hid (show sameP W H v W H' v' = false by rw [HR.out, decide_eq_false hH]; simp)
    clear hH
    go_enter Try.func16, Try.ntmps16
    go_wp2_with fail
    go_ret
    exact ⟨ret_bool HE.out.symm, HB.out⟩
  subst hH
  have HR2 := Lib.hid (show sameP W H v W H v' = decide (v = v') by rw [HR.out]; simp)
  clear HR
  by_cases hL : N = M
  case neg =>
    have n1 : ((N : Int) != (M : Int)) = true := by rw [bne_iff_ne]; omega
    have HE := Lib.hid (show sameP W H v W H v' = false by rw [HR2.out, decide_eq_false (fun e => hL (by have h1 := HN.out; have h2 := HN2.out; rw [e] at h1; omega))])
    clear hL
    go_enter Try.func16, Try.ntmps16
    go_wp2_with fail
    go_ret
    exact ⟨ret_bool HE.out.symm, HB.out⟩
  subst hL
  clear hm
  go_enter Try.func16, Try.ntmps16
  go_wp2_with fail
  generalize (w.alloc (.cells (plrow W H A N c) 24)).alloc (.cells (plrow W H A' N d) 24) = W0 at *
  clear k0 k1 k2 m0 m1 m2
  go_loopw [5] (fun s5 wr => ∃ i : Nat, i ≤ N ∧ s5 = .int .i64 (i : Int) ∧ v.take i = v'.take i ∧ Below W0.heap.size W0 wr) (fun s5 _ => N - (intOf s5).toNat)
  case atStart => exact ⟨0, by omega, rfl, by simp, Below.refl _ _⟩
  case round =>
    obtain ⟨i, hi, rfl, htk, hb⟩ := hrel
    have HTK := Lib.hid htk
    have HBR := Lib.hid hb
    clear htk hb
    have S0 := Lib.hid ((HBR.out.block _ (row_lt R0.out)).trans R0.out)
    have S1 := Lib.hid ((HBR.out.block _ (row_lt R1.out)).trans R1.out)
    have k2 := row_cell (v := .slice A N c) S0.out 2 rfl
    by_cases hil : i < N
    case neg =>
      obtain rfl : i = N := by omega
      have HE := Lib.hid (show sameP W H v W H v' = true by rw [HR2.out]; have := HTK.out; rw [List.take_of_length_le (Nat.le_of_eq HN.out), List.take_of_length_le (Nat.le_of_eq HN2.out)] at this; exact decide_eq_true this)
      go_wp2_with fail
      go_ret
      exact ⟨ret_bool HE.out.symm, HB.out.trans (HBR.out.mono (by have := HZ.out; omega))⟩
    have i1 : (i : Int) < (N : Int) := by omega
    obtain ⟨b, off, rfl, hlt, hc⟩ := HS.out.at_ (by rw [HN.out]; omega)
    obtain ⟨b', off', rfl, hlt', hc'⟩ := HT.out.at_ (by rw [HN2.out]; omega)
    have c1 : ∀ p : Bel W0.heap.size wr.drew, p.w'.cell? ⟨b, off + i, none⟩ = some (.int .i64 (nth v i)) := fun p => (((ud' HBR.out).trans p.h).cell (p := ⟨b, off + i, none⟩) hlt).trans (hc i (by rw [HN.out]; exact hil))
    have c2 : ∀ p : Bel W0.heap.size wr.drew, p.w'.cell? ⟨b', off' + i, none⟩ = some (.int .i64 (nth v' i)) := fun p => (((ud' HBR.out).trans p.h).cell (p := ⟨b', off' + i, none⟩) hlt').trans (hc' i (by rw [HN2.out]; exact hil))
    have HYES := Lib.hid (fun h => take_eq_step HTK.out (show i < v.length by rw [HN.out]; exact hil) (show i < v'.length by rw [HN2.out]; exact hil) h)
    have HNO := Lib.hid (fun h => nth_ne (l := v) (m := v') (i := i) h)
    clear hc hc'
    generalize nth v i = x at *
    generalize nth v' i = y at *
    go_wp2_with fail
    have q0 : ∀ p : Bel W0.heap.size wr.drew, p.w'.cell? ⟨w.heap.size, 2, none⟩ = some (.slice (some ⟨b, off, none⟩) N c) := fun p => row_cell ((p.h.block _ (row_lt R0.out)).trans S0.out) 2 rfl
    have q1 : ∀ p : Bel W0.heap.size wr.drew, p.w'.cell? ⟨w.heap.size + 1, 2, none⟩ = some (.slice (some ⟨b', off', none⟩) N d) := fun p => row_cell ((p.h.block _ (row_lt R1.out)).trans S1.out) 2 rfl
    refine Tin.reg_begin W0.heap.size 11 (by rfl) (by kernel_rfl) ?_
    refine Tin.reg_quiets [0, 1, 2, 3, 4, 5, 6, 7, 8, 9, 10] _ 0 rfl (by simp only [Tin.pick, List.map_cons, List.map_nil, Array.getD_eq_getD_getElem?, List.getElem?_toArray, List.getElem?_cons_zero, List.getElem?_cons_succ, Option.getD_some]; rfl) (by kernel_rfl) (by kernel_rfl) ?_
    repeat (first | go_big_quiet_step (fail))
    refine wpQuiet_nil ?_
    clear c1 c2 q0 q1
    refine Tin.reg_done (by kernel_rfl) ?_
    by_cases hxy : x = y
    · have HE := Lib.hid (HYES.out hxy)
      subst hxy
      clear HYES HNO
      go_wp2_with fail
      exact ⟨⟨i + 1, by omega, rfl, HE.out, ud' HBR.out⟩, by simp only [intOf]; omega⟩
    · have HE := Lib.hid (show sameP W H v W H v' = false by rw [HR2.out, decide_eq_false (HNO.out hxy)])
      have n1 : (x != y) = true := by rw [bne_iff_ne]; exact hxy
      clear HYES HNO hxy
      go_wp2_with fail
      go_ret
      exact ⟨ret_bool HE.out.symm, HB.out.trans ((ud' HBR.out).mono (by have := HZ.out; omega))⟩
end Go.Proofs.Ytajobboldjgidaa
