/- Segments in memory of their own. -/
import Derived.Test.YtfohajgljjffgaaMkJ
namespace Go.Proofs.Ytfohajgljjffgaa
open Go.RowKit
open Go.Tin
set_option linter.unusedVariables false
set_option linter.unusedSimpArgs false


theorem own_ne {k : IntKind} {e : TypeId} {w : World} {B : Nat} {v : Value} {l : List Int} (h : Own k e w B v l) (g : Nat) (hg : ∀ q, v.ownBlock = some q → q < w.heap.size → q ≠ g) : v.ownBlock = none ∨ v.ownBlock ≠ some g := by
  cases hq : v.ownBlock with
  | none => exact .inl rfl
  | some q => exact .inr fun e => hg q hq (World.ownsRow.lt h q hq).2 (Option.some.inj e)
set_option maxRecDepth 100000 in
set_option maxHeartbeats 8000000 in
theorem own_any (A : Option Addr) (c : Nat) (L : List Sg) (w : World) (hs : SegS w A L) (hn : L.length ≤ 1000000) :
    Calls Try.prog 19 #[.slice A L.length c] w fun e w' => ∃ A' c' xs, e = .returned (.slice A' L.length c') ∧ OwnV 36 3 w' w.heap.size (.slice A' L.length c') L.length xs ∧ SgV (fun v d => Own .u8 5 w' w.heap.size v d) xs L ∧ Below w.heap.size w w' := by
  have HS := Lib.hid hs
  clear hs
  go_enter Try.func19, Try.ntmps19
  go_wp2_with fail
  go_loopw [3, 4] (fun s3 s4 wr => ∃ (i : Nat) (A1 : Option Addr) (c1 : Nat) (xs : List Value), i ≤ L.length ∧ s4 = .int .i64 (i : Int) ∧ s3 = .slice A1 i c1 ∧ OwnV 36 3 wr w.heap.size (.slice A1 i c1) i xs ∧ SgV (fun v d => Own .u8 5 wr w.heap.size v d) xs (L.take i) ∧ Below w.heap.size w wr) (fun _ s4 _ => L.length - (intOf s4).toNat)
  case atStart => exact ⟨0, none, 0, [], by omega, rfl, rfl, OwnV.nil_ _ _ _ _, by simpa using SgV.nil, Below.refl _ _⟩
  case round =>
    obtain ⟨i, A1, c1, xs, hi, rfl, rfl, hov, hsv, hb⟩ := hrel
    have OV := Lib.hid hov.drew
    have SV := Lib.hid (SgV.mono (fun _ _ h => Own.drew h) hsv)
    have HB := Lib.hid (ud' hb)
    clear hsv
    by_cases hil : i < L.length
    case neg =>
      obtain rfl : i = L.length := by omega
      go_wp2_with fail
      go_ret
      exact ⟨A1, c1, xs, rfl, hov, by have := SV.out; rw [List.take_length] at this; exact this, hb⟩
    clear hov hb
    have i1 : (i : Int) < (L.length : Int) := by omega
    obtain ⟨b, off, rfl, hlt, hc⟩ := HS.out.at_ (by omega)
    obtain ⟨m1, d1, s1, B1, e1, B2, e2, hx, h0, h1, h2, _, hp1, hp2⟩ := hc i hil
    have HX := Lib.hid (take_nextG hx)
    obtain ⟨_, HD1, _, _, hd1⟩ := hp1.sl
    obtain ⟨_, HD2, _, _, hd2⟩ := hp2.sl
    replace HD1 := Lib.hid HD1
    replace HD2 := Lib.hid HD2
    have k0 : ∀ p : Bel w.heap.size wr.drew, p.w'.cell? ⟨b, off + i * 3, none⟩ = some (.int .i64 m1) := fun p => ((HB.out.trans p.h).cell (p := ⟨b, off + i * 3, none⟩) hlt).trans h0
    have k1 : ∀ p : Bel w.heap.size wr.drew, p.w'.cell? ⟨b, off + i * 3 + 1, none⟩ = some (.slice B1 d1.length e1) := fun p => ((HB.out.trans p.h).cell (p := ⟨b, off + i * 3 + 1, none⟩) hlt).trans h1
    have k2 : ∀ p : Bel w.heap.size wr.drew, p.w'.cell? ⟨b, off + i * 3 + 2, none⟩ = some (.slice B2 s1.length e2) := fun p => ((HB.out.trans p.h).cell (p := ⟨b, off + i * 3 + 2, none⟩) hlt).trans h2
    clear hx h0 h1 h2 hc hp1 hp2
    go_wp2_with fail
    refine Tin.reg_begin w.heap.size 24 (by rfl) (by kernel_rfl) ?_
    generalize wr.drew = v0 at *
    have HBR := Lib.hid (Below.refl v0.heap.size v0)
    have HSZ : w.heap.size ≤ v0.heap.size := HB.out.size
    have hwz : w.heap.size ≤ v0.heap.size := HB.out.size
    refine Tin.reg_quiets [0, 1, 2, 3, 4, 5, 7, 8, 9, 10, 11, 14, 15, 16, 17, 18] _ 8 rfl (by simp only [Tin.pick, List.map_cons, List.map_nil, Array.getD_eq_getD_getElem?, List.getElem?_toArray, List.getElem?_cons_zero, List.getElem?_cons_succ, Option.getD_some]; rfl) (by kernel_rfl) (by kernel_rfl) ?_
    repeat (first | go_big_quiet_step (fail))
    refine wpQuiet_nil ?_
    clear k0 k1 k2
    refine Tin.reg_two 6 13 _ _ rfl rfl (by kernel_rfl) ?_ ?_
    · try simp only [List.getElem_toArray, List.getElem_cons_succ, List.getElem_cons_zero]
      go_wp2_with fail
      have hb := ba (brefl v0) (.cells #[] 5)
      have szv1 := Lib.hid (show (v0.alloc (.cells #[] 5)).heap.size = v0.heap.size + 1 by simp)
      have zzv1 : v0.heap.size ≤ v0.heap.size := HBR.out.size
      refine ⟨w.heap.size, hb.mono HSZ, Nat.le_refl _, ?_⟩
      have E1 := Lib.hid (show Own .u8 5 (v0.alloc (.cells #[] 5)) v0.heap.size (.slice (some ⟨v0.heap.size, 0, none⟩) 0 0) [] from Own.new0 v0)
      replace HBR := Lib.hid (HBR.out.trans (hb.mono HBR.out.size))
      replace HSZ := Nat.le_trans HSZ hb.size
      clear hb
      generalize (v0.alloc (.cells #[] 5)) = v1 at *
      refine Tin.reg_two 12 13 _ _ rfl rfl (by kernel_rfl) ?_ ?_
      · try simp only [List.getElem_toArray, List.getElem_cons_succ, List.getElem_cons_zero]
        refine Tin.wpl_app bt5 _ rfl (.tmp 17) (.tmp 22) rfl v0.heap.size (.slice (some ⟨v0.heap.size, 0, none⟩) 0 0) [] rfl E1.out B1 d1.length e1 d1 rfl (HD1.out.keep (show Below w.heap.size w v1 from HB.out.trans (HBR.out.mono HB.out.size))) rfl (by simp; omega) (by simp; omega) (by have := szv1.out; omega) ?_
        intro x1 v2 ho hg hw
        rw [List.nil_append] at ho
        obtain ⟨A21, c21, rfl⟩ := own_form ho
        go_wp2_with fail
        have hb := E1.out.grown (Below.refl v0.heap.size v1) (by have := szv1.out; omega) hg
        have szv2 := Lib.hid (show v1.heap.size ≤ v2.heap.size from hg.size)
        refine ⟨w.heap.size, hb.mono (by have := szv1.out; omega), Nat.le_refl _, ?_⟩
        have U1 : ∀ q, (Value.slice A21 d1.length c21).ownBlock = some q → (q = v0.heap.size ∨ q = v1.heap.size) ∧ q < v2.heap.size := fun q hq => by
          refine ⟨?_, (World.ownsRow.lt ho q hq).2⟩
          rcases hw with e | e
          · exact .inl (Option.some.inj (hq.symm.trans e))
          · exact .inr (Option.some.inj (hq.symm.trans e))
        have O1 := Lib.hid ho
        replace HBR := Lib.hid (HBR.out.trans (hb.mono (by have := szv1.out; omega)))
        replace HSZ := Nat.le_trans HSZ hg.size
        clear hb hg hw ho
        refine Tin.reg_one 13 _ rfl (by kernel_rfl) ?_
        try simp only [List.getElem_toArray, List.getElem_cons_succ, List.getElem_cons_zero]
        go_wp2_with fail
        have hb := ba (brefl v2) (.cells #[] 5)
        have szv3 := Lib.hid (show (v2.alloc (.cells #[] 5)).heap.size = v2.heap.size + 1 by simp)
        have zzv3 : v0.heap.size ≤ v2.heap.size := HBR.out.size
        refine ⟨w.heap.size, hb.mono HSZ, Nat.le_refl _, ?_⟩
        have E2 := Lib.hid (show Own .u8 5 (v2.alloc (.cells #[] 5)) v2.heap.size (.slice (some ⟨v2.heap.size, 0, none⟩) 0 0) [] from Own.new0 v2)
        replace O1 := Lib.hid (O1.out.keep hb)
        replace HBR := Lib.hid (HBR.out.trans (hb.mono HBR.out.size))
        replace HSZ := Nat.le_trans HSZ hb.size
        clear hb
        generalize (v2.alloc (.cells #[] 5)) = v3 at *
        refine Tin.reg_one 19 _ rfl (by kernel_rfl) ?_
        try simp only [List.getElem_toArray, List.getElem_cons_succ, List.getElem_cons_zero]
        refine Tin.wpl_app bt5 _ rfl (.tmp 24) (.tmp 29) rfl v2.heap.size (.slice (some ⟨v2.heap.size, 0, none⟩) 0 0) [] rfl E2.out B2 s1.length e2 s1 rfl (HD2.out.keep (show Below w.heap.size w v3 from HB.out.trans (HBR.out.mono HB.out.size))) rfl (by simp; omega) (by simp; omega) (by have := szv1.out; have := szv2.out; have := szv3.out; omega) ?_
        intro x2 v4 ho hg hw
        rw [List.nil_append] at ho
        obtain ⟨A22, c22, rfl⟩ := own_form ho
        go_wp2_with fail
        have hb := E2.out.grown (Below.refl v2.heap.size v3) (by have := szv1.out; have := szv2.out; have := szv3.out; omega) hg
        have szv4 := Lib.hid (show v3.heap.size ≤ v4.heap.size from hg.size)
        refine ⟨w.heap.size, hb.mono (by have := szv1.out; have := szv2.out; have := szv3.out; omega), Nat.le_refl _, ?_⟩
        have U2 : ∀ q, (Value.slice A22 s1.length c22).ownBlock = some q → (q = v2.heap.size ∨ q = v3.heap.size) ∧ q < v4.heap.size := fun q hq => by
          refine ⟨?_, (World.ownsRow.lt ho q hq).2⟩
          rcases hw with e | e
          · exact .inl (Option.some.inj (hq.symm.trans e))
          · exact .inr (Option.some.inj (hq.symm.trans e))
        have O2 := Lib.hid ho
        replace O1 := Lib.hid (O1.out.kept hg (own_ne O1.out (v2.heap.size) (fun q hq hl => by have := U1 q hq; have := szv1.out; have := szv2.out; have := szv3.out; omega)))
        replace HBR := Lib.hid (HBR.out.trans (hb.mono (by have := szv1.out; have := szv2.out; have := szv3.out; omega)))
        replace HSZ := Nat.le_trans HSZ hg.size
        clear hb hg hw ho
        refine Tin.reg_quiets [20] _ 3 rfl (by simp only [Tin.pick, List.map_cons, List.map_nil, Array.getD_eq_getD_getElem?, List.getElem?_toArray, List.getElem?_cons_zero, List.getElem?_cons_succ, Option.getD_some]; rfl) (by kernel_rfl) (by kernel_rfl) ?_
        repeat (first | go_big_quiet_step (fail))
        refine wpQuiet_nil ?_
        refine Tin.reg_one 21 _ rfl (by kernel_rfl) ?_
        try simp only [List.getElem_toArray, List.getElem_cons_succ, List.getElem_cons_zero]
        go_wp2_with fail
        have hb := ba (brefl v4) (.cells #[.int .i64 m1, .slice A21 d1.length c21, .slice A22 s1.length c22] 36)
        have HN := Lib.hid (SlV.new_ v4 36 #[.int .i64 m1, .slice A21 d1.length c21, .slice A22 s1.length c22])
        refine ⟨w.heap.size, hb.mono HSZ, Nat.le_refl _, ?_⟩
        replace O1 := Lib.hid (O1.out.keep hb)
        replace O2 := Lib.hid (O2.out.keep hb)
        replace HBR := Lib.hid (HBR.out.trans (hb.mono HBR.out.size))
        replace HSZ := Nat.le_trans HSZ hb.size
        clear hb
        replace OV := Lib.hid (OV.out.keep HBR.out)
        replace SV := Lib.hid (SgV.mono (fun _ _ h => h.keep HBR.out) SV.out)
        generalize (v4.alloc (.cells #[.int .i64 m1, .slice A21 d1.length c21, .slice A22 s1.length c22] 36)) = v9 at *
        refine Tin.reg_one 22 _ rfl (by kernel_rfl) ?_
        try simp only [List.getElem_toArray, List.getElem_cons_succ, List.getElem_cons_zero]
        refine Tin.wplv_app svG _ rfl (.tmp 11) (.tmp 32) rfl w.heap.size (.slice A1 i c1) i xs rfl OV.out (some ⟨v4.heap.size, 0, none⟩) 1 1 [.int .i64 m1, .slice A21 d1.length c21, .slice A22 s1.length c22] rfl rfl HN.out (by simp [Value.oneCell']) (by omega) (by omega) HSZ ?_
        intro A4 c4 w4 ho4 hg4 how4
        go_wp2_with fail
        have hb4 := ownv_below OV.out HSZ hg4
        refine ⟨w.heap.size, hb4, Nat.le_refl _, ?_⟩
        have SV4 := Lib.hid (SgV.app (SgV.mono (fun _ _ h => Own.kept h hg4 (own_ownv_apart h OV.out (by decide))) SV.out) (SgV.one (m := m1) ((O1.out.kept hg4 (own_ownv_apart O1.out OV.out (by decide))).mono (by have := szv1.out; have := szv2.out; have := szv3.out; have := szv4.out; omega)) ((O2.out.kept hg4 (own_ownv_apart O2.out OV.out (by decide))).mono (by have := szv1.out; have := szv2.out; have := szv3.out; have := szv4.out; omega))))
        refine Tin.reg_quiets [23] _ 0 rfl (by simp only [Tin.pick, List.map_cons, List.map_nil, Array.getD_eq_getD_getElem?, List.getElem?_toArray, List.getElem?_cons_zero, List.getElem?_cons_succ, Option.getD_some]; rfl) (by kernel_rfl) (by kernel_rfl) ?_
        repeat (first | go_big_quiet_step (fail))
        refine wpQuiet_nil ?_
        refine Tin.reg_done (by kernel_rfl) ?_
        go_wp2_with fail
        exact ⟨⟨i + 1, A4, c4, _, by omega, rfl, rfl, ho4, by rw [HX.out]; exact SV4.out, HB.out.trans ((HBR.out.mono HB.out.size).trans hb4)⟩, by simp only [intOf]; omega⟩
      · try simp only [List.getElem_toArray, List.getElem_cons_succ, List.getElem_cons_zero]
        go_wp2_with fail
        have hb := ba (brefl v1) (.cells #[] 5)
        have szv2 := Lib.hid (show (v1.alloc (.cells #[] 5)).heap.size = v1.heap.size + 1 by simp)
        have zzv2 : v0.heap.size ≤ v1.heap.size := HBR.out.size
        refine ⟨w.heap.size, hb.mono HSZ, Nat.le_refl _, ?_⟩
        have E2 := Lib.hid (show Own .u8 5 (v1.alloc (.cells #[] 5)) v1.heap.size (.slice (some ⟨v1.heap.size, 0, none⟩) 0 0) [] from Own.new0 v1)
        replace E1 := Lib.hid (E1.out.keep hb)
        replace HBR := Lib.hid (HBR.out.trans (hb.mono HBR.out.size))
        replace HSZ := Nat.le_trans HSZ hb.size
        clear hb
        generalize (v1.alloc (.cells #[] 5)) = v2 at *
        refine Tin.reg_one 12 _ rfl (by kernel_rfl) ?_
        try simp only [List.getElem_toArray, List.getElem_cons_succ, List.getElem_cons_zero]
        refine Tin.wpl_app bt5 _ rfl (.tmp 17) (.tmp 22) rfl v0.heap.size (.slice (some ⟨v0.heap.size, 0, none⟩) 0 0) [] rfl E1.out B1 d1.length e1 d1 rfl (HD1.out.keep (show Below w.heap.size w v2 from HB.out.trans (HBR.out.mono HB.out.size))) rfl (by simp; omega) (by simp; omega) (by have := szv1.out; have := szv2.out; omega) ?_
        intro x1 v3 ho hg hw
        rw [List.nil_append] at ho
        obtain ⟨A21, c21, rfl⟩ := own_form ho
        go_wp2_with fail
        have hb := E1.out.grown (Below.refl v0.heap.size v2) (by have := szv1.out; have := szv2.out; omega) hg
        have szv3 := Lib.hid (show v2.heap.size ≤ v3.heap.size from hg.size)
        refine ⟨w.heap.size, hb.mono (by have := szv1.out; have := szv2.out; omega), Nat.le_refl _, ?_⟩
        have U1 : ∀ q, (Value.slice A21 d1.length c21).ownBlock = some q → (q = v0.heap.size ∨ q = v2.heap.size) ∧ q < v3.heap.size := fun q hq => by
          refine ⟨?_, (World.ownsRow.lt ho q hq).2⟩
          rcases hw with e | e
          · exact .inl (Option.some.inj (hq.symm.trans e))
          · exact .inr (Option.some.inj (hq.symm.trans e))
        have O1 := Lib.hid ho
        replace E2 := Lib.hid (E2.out.kept hg (.inr (fun e => by have e2 : v1.heap.size = v0.heap.size := Option.some.inj e; have := szv1.out; have := szv2.out; omega)))
        replace HBR := Lib.hid (HBR.out.trans (hb.mono (by have := szv1.out; have := szv2.out; omega)))
        replace HSZ := Nat.le_trans HSZ hg.size
        clear hb hg hw ho
        refine Tin.reg_one 19 _ rfl (by kernel_rfl) ?_
        try simp only [List.getElem_toArray, List.getElem_cons_succ, List.getElem_cons_zero]
        refine Tin.wpl_app bt5 _ rfl (.tmp 24) (.tmp 29) rfl v1.heap.size (.slice (some ⟨v1.heap.size, 0, none⟩) 0 0) [] rfl E2.out B2 s1.length e2 s1 rfl (HD2.out.keep (show Below w.heap.size w v3 from HB.out.trans (HBR.out.mono HB.out.size))) rfl (by simp; omega) (by simp; omega) (by have := szv1.out; have := szv2.out; have := szv3.out; omega) ?_
        intro x2 v4 ho hg hw
        rw [List.nil_append] at ho
        obtain ⟨A22, c22, rfl⟩ := own_form ho
        go_wp2_with fail
        have hb := E2.out.grown (Below.refl v1.heap.size v3) (by have := szv1.out; have := szv2.out; have := szv3.out; omega) hg
        have szv4 := Lib.hid (show v3.heap.size ≤ v4.heap.size from hg.size)
        refine ⟨w.heap.size, hb.mono (by have := szv1.out; have := szv2.out; have := szv3.out; omega), Nat.le_refl _, ?_⟩
        have U2 : ∀ q, (Value.slice A22 s1.length c22).ownBlock = some q → (q = v1.heap.size ∨ q = v3.heap.size) ∧ q < v4.heap.size := fun q hq => by
          refine ⟨?_, (World.ownsRow.lt ho q hq).2⟩
          rcases hw with e | e
          · exact .inl (Option.some.inj (hq.symm.trans e))
          · exact .inr (Option.some.inj (hq.symm.trans e))
        have O2 := Lib.hid ho
        replace O1 := Lib.hid (O1.out.kept hg (own_ne O1.out (v1.heap.size) (fun q hq hl => by have := U1 q hq; have := szv1.out; have := szv2.out; have := szv3.out; omega)))
        replace HBR := Lib.hid (HBR.out.trans (hb.mono (by have := szv1.out; have := szv2.out; have := szv3.out; omega)))
        replace HSZ := Nat.le_trans HSZ hg.size
        clear hb hg hw ho
        refine Tin.reg_quiets [20] _ 3 rfl (by simp only [Tin.pick, List.map_cons, List.map_nil, Array.getD_eq_getD_getElem?, List.getElem?_toArray, List.getElem?_cons_zero, List.getElem?_cons_succ, Option.getD_some]; rfl) (by kernel_rfl) (by kernel_rfl) ?_
        repeat (first | go_big_quiet_step (fail))
        refine wpQuiet_nil ?_
        refine Tin.reg_one 21 _ rfl (by kernel_rfl) ?_
        try simp only [List.getElem_toArray, List.getElem_cons_succ, List.getElem_cons_zero]
        go_wp2_with fail
        have hb := ba (brefl v4) (.cells #[.int .i64 m1, .slice A21 d1.length c21, .slice A22 s1.length c22] 36)
        have HN := Lib.hid (SlV.new_ v4 36 #[.int .i64 m1, .slice A21 d1.length c21, .slice A22 s1.length c22])
        refine ⟨w.heap.size, hb.mono HSZ, Nat.le_refl _, ?_⟩
        replace O1 := Lib.hid (O1.out.keep hb)
        replace O2 := Lib.hid (O2.out.keep hb)
        replace HBR := Lib.hid (HBR.out.trans (hb.mono HBR.out.size))
        replace HSZ := Nat.le_trans HSZ hb.size
        clear hb
        replace OV := Lib.hid (OV.out.keep HBR.out)
        replace SV := Lib.hid (SgV.mono (fun _ _ h => h.keep HBR.out) SV.out)
        generalize (v4.alloc (.cells #[.int .i64 m1, .slice A21 d1.length c21, .slice A22 s1.length c22] 36)) = v9 at *
        refine Tin.reg_one 22 _ rfl (by kernel_rfl) ?_
        try simp only [List.getElem_toArray, List.getElem_cons_succ, List.getElem_cons_zero]
        refine Tin.wplv_app svG _ rfl (.tmp 11) (.tmp 32) rfl w.heap.size (.slice A1 i c1) i xs rfl OV.out (some ⟨v4.heap.size, 0, none⟩) 1 1 [.int .i64 m1, .slice A21 d1.length c21, .slice A22 s1.length c22] rfl rfl HN.out (by simp [Value.oneCell']) (by omega) (by omega) HSZ ?_
        intro A4 c4 w4 ho4 hg4 how4
        go_wp2_with fail
        have hb4 := ownv_below OV.out HSZ hg4
        refine ⟨w.heap.size, hb4, Nat.le_refl _, ?_⟩
        have SV4 := Lib.hid (SgV.app (SgV.mono (fun _ _ h => Own.kept h hg4 (own_ownv_apart h OV.out (by decide))) SV.out) (SgV.one (m := m1) ((O1.out.kept hg4 (own_ownv_apart O1.out OV.out (by decide))).mono (by have := szv1.out; have := szv2.out; have := szv3.out; have := szv4.out; omega)) ((O2.out.kept hg4 (own_ownv_apart O2.out OV.out (by decide))).mono (by have := szv1.out; have := szv2.out; have := szv3.out; have := szv4.out; omega))))
        refine Tin.reg_quiets [23] _ 0 rfl (by simp only [Tin.pick, List.map_cons, List.map_nil, Array.getD_eq_getD_getElem?, List.getElem?_toArray, List.getElem?_cons_zero, List.getElem?_cons_succ, Option.getD_some]; rfl) (by kernel_rfl) (by kernel_rfl) ?_
        repeat (first | go_big_quiet_step (fail))
        refine wpQuiet_nil ?_
        refine Tin.reg_done (by kernel_rfl) ?_
        go_wp2_with fail
        exact ⟨⟨i + 1, A4, c4, _, by omega, rfl, rfl, ho4, by rw [HX.out]; exact SV4.out, HB.out.trans ((HBR.out.mono HB.out.size).trans hb4)⟩, by simp only [intOf]; omega⟩
    · try simp only [List.getElem_toArray, List.getElem_cons_succ, List.getElem_cons_zero]
      go_wp2_with fail
      have hb := ba (brefl v0) (.cells #[] 5)
      have szv1 := Lib.hid (show (v0.alloc (.cells #[] 5)).heap.size = v0.heap.size + 1 by simp)
      have zzv1 : v0.heap.size ≤ v0.heap.size := HBR.out.size
      refine ⟨w.heap.size, hb.mono HSZ, Nat.le_refl _, ?_⟩
      have E2 := Lib.hid (show Own .u8 5 (v0.alloc (.cells #[] 5)) v0.heap.size (.slice (some ⟨v0.heap.size, 0, none⟩) 0 0) [] from Own.new0 v0)
      replace HBR := Lib.hid (HBR.out.trans (hb.mono HBR.out.size))
      replace HSZ := Nat.le_trans HSZ hb.size
      clear hb
      generalize (v0.alloc (.cells #[] 5)) = v1 at *
      refine Tin.reg_one 6 _ rfl (by kernel_rfl) ?_
      try simp only [List.getElem_toArray, List.getElem_cons_succ, List.getElem_cons_zero]
      go_wp2_with fail
      have hb := ba (brefl v1) (.cells #[] 5)
      have szv2 := Lib.hid (show (v1.alloc (.cells #[] 5)).heap.size = v1.heap.size + 1 by simp)
      have zzv2 : v0.heap.size ≤ v1.heap.size := HBR.out.size
      refine ⟨w.heap.size, hb.mono HSZ, Nat.le_refl _, ?_⟩
      have E1 := Lib.hid (show Own .u8 5 (v1.alloc (.cells #[] 5)) v1.heap.size (.slice (some ⟨v1.heap.size, 0, none⟩) 0 0) [] from Own.new0 v1)
      replace E2 := Lib.hid (E2.out.keep hb)
      replace HBR := Lib.hid (HBR.out.trans (hb.mono HBR.out.size))
      replace HSZ := Nat.le_trans HSZ hb.size
      clear hb
      generalize (v1.alloc (.cells #[] 5)) = v2 at *
      refine Tin.reg_one 12 _ rfl (by kernel_rfl) ?_
      try simp only [List.getElem_toArray, List.getElem_cons_succ, List.getElem_cons_zero]
      refine Tin.wpl_app bt5 _ rfl (.tmp 17) (.tmp 22) rfl v1.heap.size (.slice (some ⟨v1.heap.size, 0, none⟩) 0 0) [] rfl E1.out B1 d1.length e1 d1 rfl (HD1.out.keep (show Below w.heap.size w v2 from HB.out.trans (HBR.out.mono HB.out.size))) rfl (by simp; omega) (by simp; omega) (by have := szv1.out; have := szv2.out; omega) ?_
      intro x1 v3 ho hg hw
      rw [List.nil_append] at ho
      obtain ⟨A21, c21, rfl⟩ := own_form ho
      go_wp2_with fail
      have hb := E1.out.grown (Below.refl v1.heap.size v2) (by have := szv1.out; have := szv2.out; omega) hg
      have szv3 := Lib.hid (show v2.heap.size ≤ v3.heap.size from hg.size)
      refine ⟨w.heap.size, hb.mono (by have := szv1.out; have := szv2.out; omega), Nat.le_refl _, ?_⟩
      have U1 : ∀ q, (Value.slice A21 d1.length c21).ownBlock = some q → (q = v1.heap.size ∨ q = v2.heap.size) ∧ q < v3.heap.size := fun q hq => by
        refine ⟨?_, (World.ownsRow.lt ho q hq).2⟩
        rcases hw with e | e
        · exact .inl (Option.some.inj (hq.symm.trans e))
        · exact .inr (Option.some.inj (hq.symm.trans e))
      have O1 := Lib.hid ho
      replace E2 := Lib.hid (E2.out.kept hg (.inr (fun e => by have e2 : v0.heap.size = v1.heap.size := Option.some.inj e; have := szv1.out; have := szv2.out; omega)))
      replace HBR := Lib.hid (HBR.out.trans (hb.mono (by have := szv1.out; have := szv2.out; omega)))
      replace HSZ := Nat.le_trans HSZ hg.size
      clear hb hg hw ho
      refine Tin.reg_one 19 _ rfl (by kernel_rfl) ?_
      try simp only [List.getElem_toArray, List.getElem_cons_succ, List.getElem_cons_zero]
      refine Tin.wpl_app bt5 _ rfl (.tmp 24) (.tmp 29) rfl v0.heap.size (.slice (some ⟨v0.heap.size, 0, none⟩) 0 0) [] rfl E2.out B2 s1.length e2 s1 rfl (HD2.out.keep (show Below w.heap.size w v3 from HB.out.trans (HBR.out.mono HB.out.size))) rfl (by simp; omega) (by simp; omega) (by have := szv1.out; have := szv2.out; have := szv3.out; omega) ?_
      intro x2 v4 ho hg hw
      rw [List.nil_append] at ho
      obtain ⟨A22, c22, rfl⟩ := own_form ho
      go_wp2_with fail
      have hb := E2.out.grown (Below.refl v0.heap.size v3) (by have := szv1.out; have := szv2.out; have := szv3.out; omega) hg
      have szv4 := Lib.hid (show v3.heap.size ≤ v4.heap.size from hg.size)
      refine ⟨w.heap.size, hb.mono (by have := szv1.out; have := szv2.out; have := szv3.out; omega), Nat.le_refl _, ?_⟩
      have U2 : ∀ q, (Value.slice A22 s1.length c22).ownBlock = some q → (q = v0.heap.size ∨ q = v3.heap.size) ∧ q < v4.heap.size := fun q hq => by
        refine ⟨?_, (World.ownsRow.lt ho q hq).2⟩
        rcases hw with e | e
        · exact .inl (Option.some.inj (hq.symm.trans e))
        · exact .inr (Option.some.inj (hq.symm.trans e))
      have O2 := Lib.hid ho
      replace O1 := Lib.hid (O1.out.kept hg (own_ne O1.out (v0.heap.size) (fun q hq hl => by have := U1 q hq; have := szv1.out; have := szv2.out; have := szv3.out; omega)))
      replace HBR := Lib.hid (HBR.out.trans (hb.mono (by have := szv1.out; have := szv2.out; have := szv3.out; omega)))
      replace HSZ := Nat.le_trans HSZ hg.size
      clear hb hg hw ho
      refine Tin.reg_quiets [20] _ 3 rfl (by simp only [Tin.pick, List.map_cons, List.map_nil, Array.getD_eq_getD_getElem?, List.getElem?_toArray, List.getElem?_cons_zero, List.getElem?_cons_succ, Option.getD_some]; rfl) (by kernel_rfl) (by kernel_rfl) ?_
      repeat (first | go_big_quiet_step (fail))
      refine wpQuiet_nil ?_
      refine Tin.reg_one 21 _ rfl (by kernel_rfl) ?_
      try simp only [List.getElem_toArray, List.getElem_cons_succ, List.getElem_cons_zero]
      go_wp2_with fail
      have hb := ba (brefl v4) (.cells #[.int .i64 m1, .slice A21 d1.length c21, .slice A22 s1.length c22] 36)
      have HN := Lib.hid (SlV.new_ v4 36 #[.int .i64 m1, .slice A21 d1.length c21, .slice A22 s1.length c22])
      refine ⟨w.heap.size, hb.mono HSZ, Nat.le_refl _, ?_⟩
      replace O1 := Lib.hid (O1.out.keep hb)
      replace O2 := Lib.hid (O2.out.keep hb)
      replace HBR := Lib.hid (HBR.out.trans (hb.mono HBR.out.size))
      replace HSZ := Nat.le_trans HSZ hb.size
      clear hb
      replace OV := Lib.hid (OV.out.keep HBR.out)
      replace SV := Lib.hid (SgV.mono (fun _ _ h => h.keep HBR.out) SV.out)
      generalize (v4.alloc (.cells #[.int .i64 m1, .slice A21 d1.length c21, .slice A22 s1.length c22] 36)) = v9 at *
      refine Tin.reg_one 22 _ rfl (by kernel_rfl) ?_
      try simp only [List.getElem_toArray, List.getElem_cons_succ, List.getElem_cons_zero]
      refine Tin.wplv_app svG _ rfl (.tmp 11) (.tmp 32) rfl w.heap.size (.slice A1 i c1) i xs rfl OV.out (some ⟨v4.heap.size, 0, none⟩) 1 1 [.int .i64 m1, .slice A21 d1.length c21, .slice A22 s1.length c22] rfl rfl HN.out (by simp [Value.oneCell']) (by omega) (by omega) HSZ ?_
      intro A4 c4 w4 ho4 hg4 how4
      go_wp2_with fail
      have hb4 := ownv_below OV.out HSZ hg4
      refine ⟨w.heap.size, hb4, Nat.le_refl _, ?_⟩
      have SV4 := Lib.hid (SgV.app (SgV.mono (fun _ _ h => Own.kept h hg4 (own_ownv_apart h OV.out (by decide))) SV.out) (SgV.one (m := m1) ((O1.out.kept hg4 (own_ownv_apart O1.out OV.out (by decide))).mono (by have := szv1.out; have := szv2.out; have := szv3.out; have := szv4.out; omega)) ((O2.out.kept hg4 (own_ownv_apart O2.out OV.out (by decide))).mono (by have := szv1.out; have := szv2.out; have := szv3.out; have := szv4.out; omega))))
      refine Tin.reg_quiets [23] _ 0 rfl (by simp only [Tin.pick, List.map_cons, List.map_nil, Array.getD_eq_getD_getElem?, List.getElem?_toArray, List.getElem?_cons_zero, List.getElem?_cons_succ, Option.getD_some]; rfl) (by kernel_rfl) (by kernel_rfl) ?_
      repeat (first | go_big_quiet_step (fail))
      refine wpQuiet_nil ?_
      refine Tin.reg_done (by kernel_rfl) ?_
      go_wp2_with fail
      exact ⟨⟨i + 1, A4, c4, _, by omega, rfl, rfl, ho4, by rw [HX.out]; exact SV4.out, HB.out.trans ((HBR.out.mono HB.out.size).trans hb4)⟩, by simp only [intOf]; omega⟩
end Go.Proofs.Ytfohajgljjffgaa
