/- The stream of segments. -/
import Derived.Test.YtfohajgljjffgaaMkN
namespace Go.Proofs.Ytfohajgljjffgaa
open Go.RowKit
open Go.Tin
set_option linter.unusedVariables false
set_option linter.unusedSimpArgs false


def lenHi (d : List Int) : Int := ((d.length : Int) + 2) / 256 % 256
def lenLo (d : List Int) : Int := ((d.length : Int) + 2) % 256
def segB (s : Sg) : List Int := [255, s.m] ++ (if aloB s.m = true then [] else [lenHi s.d, lenLo s.d] ++ (s.d ++ s.s))
def wrL : List Sg → List Int
  | [] => []
  | s :: L => segB s ++ wrL L
theorem wrL_app (L M : List Sg) : wrL (L ++ M) = wrL L ++ wrL M := by
  induction L with
  | nil => rfl
  | cons a L ih => simp only [List.cons_append, wrL, ih, List.append_assoc]
theorem wrL_next {L : List Sg} {i : Nat} {x : Sg} (h : L[i]? = some x) : wrL (L.take (i + 1)) = wrL (L.take i) ++ segB x := by
  rw [take_nextG h, wrL_app]; simp [wrL]
theorem wrL_le (L : List Sg) (i : Nat) : (wrL (L.take i)).length ≤ (wrL L).length := by
  conv => rhs; rw [← List.take_append_drop i L]
  rw [wrL_app, List.length_append]; omega
theorem ok_m {N i : Nat} {x : Sg} (h : okAt N i x = true) : 0 ≤ x.m ∧ x.m < 256 := by
  unfold okAt at h
  split at h
  · unfold bareB at h
    simp at h
    omega
  · split at h
    · unfold bareB at h
      simp at h
      omega
    · unfold rightB hdB at h
      simp at h
      omega
theorem ok_end {N i : Nat} {x : Sg} (h : okAt N i x = true) : aloB x.m = (decide (i = 0) || decide (i + 1 = N)) := by
  unfold okAt at h
  split at h
  · rename_i h0
    unfold bareB at h
    simp at h
    unfold aloB
    rw [h.1, decide_eq_true h0]; rfl
  · rename_i h0
    rw [decide_eq_false h0, Bool.false_or]
    split at h
    · rename_i h1
      unfold bareB at h
      simp at h
      unfold aloB
      rw [h.1, decide_eq_true h1]; rfl
    · rename_i h1
      rw [decide_eq_false h1]
      unfold rightB hdB at h
      simp at h
      cases ha : aloB x.m with
      | false => rfl
      | true => have := h.1.2.2.1; rw [ha] at this; cases this
theorem ok_d {N i : Nat} {x : Sg} (h : okAt N i x = true) : x.d.length ≤ 65533 := by
  unfold okAt at h
  split at h
  · unfold bareB at h
    simp at h
    rw [h.2.1]; simp
  · split at h
    · unfold bareB at h
      simp at h
      rw [h.2.1]; simp
    · unfold rightB at h
      simp at h
      exact h.2.1
theorem put2 (d : List Int) (h : d.length ≤ 65533) : putL ((d.length : Int) + 2) 2 2 = [lenHi d, lenLo d] ∧ putB ((d.length : Int) + 2) 2 2 = true := by
  have hb : putB ((d.length : Int) + 2) 2 2 = true := by
    unfold putB
    rw [show mayO 2 2 = true from rfl, Bool.true_and, Bool.and_eq_true]
    exact ⟨decide_eq_true (by omega), decide_eq_true (by show (d.length : Int) + 2 < 65536; omega)⟩
  refine ⟨?_, hb⟩
  unfold putL
  rw [if_pos hb]
  rfl
theorem hi_byte (d : List Int) : 0 ≤ lenHi d ∧ lenHi d < 256 := by unfold lenHi; omega
theorem lo_byte (d : List Int) : 0 ≤ lenLo d ∧ lenLo d < 256 := by unfold lenLo; omega
theorem Byts.app {l m : List Int} (h : Byts l) (h' : Byts m) : Byts (l ++ m) := fun x hx => by
  rcases List.mem_append.1 hx with h1 | h1
  · exact h x h1
  · exact h' x h1
theorem byts2 {a b : Int} (ha : 0 ≤ a ∧ a < 256) (hb : 0 ≤ b ∧ b < 256) : Byts [a, b] := fun x hx => by
  simp only [List.mem_cons, List.not_mem_nil, or_false] at hx
  rcases hx with rfl | rfl
  · exact ha
  · exact hb
theorem wrap8 {m : Int} (h0 : 0 ≤ m) (h1 : m < 256) : IntKind.u8.wrap m = m := by
  have h2 : (2 : Int) ^ IntKind.u8.bits = 256 := rfl
  have h3 : IntKind.u8.signed = false := rfl
  simp [IntKind.wrap, h2, h3]
  omega
theorem own_row_keep {k : IntKind} {e t : TypeId} {w w' : World} {B g : Nat} {v : Value} {l : List Int} {cs : Array Value} {z : Nat × Nat} (h : Own k e w B v l) (hr : w.heap[g]? = some (.cells cs t z)) (hne : e ≠ t) (hg : w.grownBy w' v.ownBlock) : w'.heap[g]? = some (.cells cs t z) := by
  refine (hg.block g (row_lt hr) fun e2 => ?_).trans hr
  rcases own_cells_ne h hr hne with h1 | h1
  · rw [h1] at e2; cases e2
  · exact h1 e2.symm
set_option maxRecDepth 100000 in
set_option maxHeartbeats 16000000 in
theorem write_any (A : Option Addr) (c : Nat) (L : List Sg) (w : World) (hs : SegS w A L) (hn : L.length ≤ 1000000) (hc : L.length ≤ c) (hwl : mayB L = true → (wrL L).length ≤ 900000) :
    Calls Try.prog 24 #[.slice A L.length c] w fun e w' => (mayB L = false ∧ e = .returned (.tuple #[.slice none 0 0, .int .i64 1]) ∧ Below w.heap.size w w') ∨
      (mayB L = true ∧ ∃ A' c', e = .returned (.tuple #[.slice A' (wrL L).length c', .int .i64 0]) ∧ Own .u8 5 w' w.heap.size (.slice A' (wrL L).length c') (wrL L) ∧ Byts (wrL L) ∧ Below w.heap.size w w') := by
  have HS := Lib.hid hs
  have HMA := Lib.hid (gmay_any A c L w hs hn hc)
  have HWL := Lib.hid hwl
  clear hs hwl
  go_enter Try.func24, Try.ntmps24
  go_wp2_with fail
  refine HMA.out.mono ?_
  rintro e w0 ⟨rfl, hb⟩
  have HB0 := Lib.hid hb
  clear hb HMA
  cases hm : mayB L with
  | false =>
    have HM := Lib.hid hm
    clear hm
    go_wp2_with fail
    go_ret2
    exact .inl ⟨HM.out, rfl, HB0.out⟩
  | true =>
  have HWL2 := Lib.hid (HWL.out hm)
  have HMT := Lib.hid hm
  have HML := Lib.hid (show mayF L.length 0 L = true by unfold mayB at hm; simp only [Bool.and_eq_true] at hm; exact hm.2)
  have h2L : 2 ≤ L.length := by unfold mayB at hm; simp only [Bool.and_eq_true] at hm; exact of_decide_eq_true hm.1
  clear hm HWL
  obtain ⟨N, hN⟩ : ∃ N, L.length = N := ⟨_, rfl⟩
  rw [hN] at hn hc HML h2L ⊢
  have HN := Lib.hid hN
  clear hN
  go_wp2_with fail
  go_loopw [4, 14] (fun s4 s14 wr => ∃ (i : Nat) (A1 : Option Addr) (c1 : Nat), i ≤ N ∧ s14 = .int .i64 (i : Int) ∧ s4 = .slice A1 (wrL (L.take i)).length c1 ∧ mayF N i (L.drop i) = true ∧ Own .u8 5 wr w.heap.size (.slice A1 (wrL (L.take i)).length c1) (wrL (L.take i)) ∧ Byts (wrL (L.take i)) ∧ Below w.heap.size w wr) (fun _ s14 _ => N - (intOf s14).toNat)
  case atStart => exact ⟨0, none, 0, by omega, rfl, rfl, HML.out, Own.nil_ _ _ _ _, fun x hx => by simp [wrL] at hx, HB0.out⟩
  case round =>
    obtain ⟨i, A1, c1, hi, rfl, rfl, hmf, ho, hby, hb⟩ := hrel
    have HO := Lib.hid ho
    have HBY := Lib.hid hby
    have HB := Lib.hid hb
    have HMF := Lib.hid hmf
    clear ho hby hb hmf
    by_cases hil : i < N
    case neg =>
      obtain rfl : i = N := by omega
      have hT : L.take i = L := List.take_of_length_le (Nat.le_of_eq HN.out)
      rw [hT] at HO HBY ⊢
      clear hT
      go_wp2_with fail
      go_ret2
      exact .inr ⟨HMT.out, A1, c1, rfl, HO.out, HBY.out, HB.out⟩
    have i1 : (i : Int) < (N : Int) := by omega
    obtain ⟨b, off, rfl, hlt, hat⟩ := HS.out.at_ (by rw [HN.out]; omega)
    obtain ⟨m1, d1, s1, B1, e1, B2, e2, hx, _, _, _, hrg, hp1, hp2⟩ := hat i (by rw [HN.out]; omega)
    have hok : okAt N i ⟨m1, d1, s1⟩ = true := by have := HMF.out; rw [mayF_drop N hx, Bool.and_eq_true] at this; exact this.1
    have HNX := Lib.hid (show mayF N (i + 1) (L.drop (i + 1)) = true by have := HMF.out; rw [mayF_drop N hx, Bool.and_eq_true] at this; exact this.2)
    have HWN := Lib.hid (wrL_next hx)
    have hle := wrL_le L (i + 1)
    rw [HWN.out, List.length_append] at hle
    have hle2 : (wrL (L.take i)).length + (segB ⟨m1, d1, s1⟩).length ≤ 900000 := Nat.le_trans hle HWL2.out
    have HSB := Lib.hid (show segB ⟨m1, d1, s1⟩ = [255, m1] ++ (if aloB m1 = true then [] else [lenHi d1, lenLo d1] ++ (d1 ++ s1)) from rfl)
    have m0 := (ok_m hok).1
    have m2 := (ok_m hok).2
    have hd : d1.length ≤ 65533 := ok_d hok
    have HAL := Lib.hid (ok_end hok)
    have HLE := Lib.hid hle2
    have hw8 := wrap8 m0 m2
    have RG := Lib.hid (show wr.rangeAt b (off + i * 3) _ from fun j v hj => (HB.out.cell (p := ⟨b, off + i * 3 + j, none⟩) hlt).trans (hrg j v hj))
    have HP1 := Lib.hid hp1
    have HP2 := Lib.hid hp2
    have hs1 := hp2.sl.2.2.2.2
    have hl2 : (segB ⟨m1, d1, s1⟩).length ≥ 2 := by rw [HSB.out]; simp
    have hM2 : (wrL (L.take i)).length + 2 ≤ 900000 := by omega
    obtain ⟨M, hM⟩ : ∃ M, wrL (L.take i) = M := ⟨_, rfl⟩
    rw [hM] at HO HBY HWN HLE hM2 ⊢
    clear hx hat hrg hp1 hp2 hok hle hle2 hl2 hM
    obtain ⟨R0, hvb, hvz⟩ := alloc1 wr (.cells (srow m1 B1 d1.length e1 B2 s1.length e2) 36)
    have R := Lib.hid R0
    have HB2 := Lib.hid (HB.out.trans (hvb.mono HB.out.size))
    have HO2 := Lib.hid (HO.out.keep hvb)
    have HZ := Lib.hid hvz
    have HZB := Lib.hid (show w.heap.size ≤ wr.heap.size from HB.out.size)
    have k0 := row_cell (v := .int .i64 m1) R0 0 rfl
    obtain ⟨W, hW⟩ : ∃ W, W = wr.alloc (.cells (srow m1 B1 d1.length e1 B2 s1.length e2) 36) := ⟨_, rfl⟩
    have hWA := ba (brefl W) (.cells #[.int .u8 255, .int .u8 m1] 5)
    rw [← hW] at hvb hvz R R0 HB2 HO2 HZ k0
    have HO3 := Lib.hid (HO2.out.keep hWA)
    have HSN := Lib.hid (Sl.new_ (k := .u8) W 5 #[.int .u8 255, .int .u8 m1] [255, m1] rfl)
    have HZ3 := Lib.hid (Nat.le_trans HB2.out.size hWA.size)
    have HB3 := Lib.hid (HB2.out.trans (hWA.mono HB2.out.size))
    have R3 := Lib.hid ((hWA.block _ (row_lt R.out)).trans R.out)
    rw [hW] at k0 HO3 HSN HZ3 HB3 R3 HB2 R HZ
    clear hvb hvz hWA R0
    clear hW W HO2
    go_wp2_with (first | ((with_reducible refine wpl_loadv rtS ?_ (.tmp 16) ?_ b (off + i * 3) ?_ [.int .i64 m1, .slice B1 d1.length e1, .slice B2 s1.length e2] ?_ RG.out ?_); rfl; rfl; rfl; rfl; simp only [Act.put, List.setIfInBounds_toArray, List.set_cons_succ, List.set_cons_zero]) | (at_builtin; refine Tin.wpl_app bt5 _ rfl (.tmp 18) (.tmp 22) rfl w.heap.size (.slice A1 M.length c1) M rfl HO3.out (some ⟨(wr.alloc (.cells (srow m1 B1 d1.length e1 B2 s1.length e2) 36)).heap.size, 0, none⟩) 2 2 [255, m1] (by rw [HZ.out]; rfl) HSN.out rfl (by simp; omega) (by simp; omega) HZ3.out ?_; intro x1 v1 ho1 hg1 hw1; obtain ⟨A2, c2, rfl⟩ := own_form ho1; have HO1 := Lib.hid ho1; have HB4 := Lib.hid (HO3.out.grown HB3.out HZ3.out hg1); have R4 := Lib.hid (own_row_keep HO3.out R3.out (by decide) hg1); have q0 := row_cell (v := .int .i64 m1) R4.out 0 rfl; have q1 := row_cell (v := .slice B1 d1.length e1) R4.out 1 rfl; clear ho1 hg1 hw1))
    refine (alo_any m1 _).mono ?_
    rintro e w2 ⟨rfl, rfl⟩
    cases hal : aloB m1 with
    | true =>
      have HSE := Lib.hid (show segB ⟨m1, d1, s1⟩ = [255, m1] by rw [HSB.out, if_pos hal]; rfl)
      clear hal
      go_wp2_with fail
      exact ⟨⟨i + 1, A2, c2, by omega, rfl, by rw [HWN.out, HSE.out, List.length_append]; rfl, HNX.out, by rw [HWN.out, HSE.out]; exact HO1.out, by rw [HWN.out, HSE.out]; exact HBY.out.app (byts2 ⟨by decide, by decide⟩ ⟨m0, m2⟩), HB4.out⟩, by simp only [intOf]; omega⟩
    | false =>
      have HSE := Lib.hid (show segB ⟨m1, d1, s1⟩ = [255, m1] ++ ([lenHi d1, lenLo d1] ++ (d1 ++ s1)) by rw [HSB.out, hal, if_neg (by decide)])
      have HBYS := Lib.hid (show Byts (M ++ segB ⟨m1, d1, s1⟩) by rw [HSE.out]; exact HBY.out.app ((byts2 ⟨by decide, by decide⟩ ⟨m0, m2⟩).app ((byts2 (hi_byte d1) (lo_byte d1)).app (HP1.out.sl.2.2.2.1.app HP2.out.sl.2.2.2.1))))
      clear hal
      go_wp2_with fail
      refine (put_any ((d1.length : Int) + 2) 2 2 _).mono ?_
      rintro e v2 ⟨A3, c3, rfl, hop, hb2⟩
      have HP := put2 d1 hd
      rw [HP.1] at hop ⊢
      have HOP := Lib.hid hop
      have HB5 := Lib.hid (HB4.out.trans (hb2.mono HB4.out.size))
      have R5 := Lib.hid ((hb2.block _ (row_lt R4.out)).trans R4.out)
      have HO5 := Lib.hid (HO1.out.keep hb2)
      have p1 := row_cell (v := .slice B1 d1.length e1) R5.out 1 rfl
      have p2 := row_cell (v := .slice B2 s1.length e2) R5.out 2 rfl
      clear hop hb2 HP q0 q1 k0
      have HAB := Lib.hid (ba (brefl v2) (.cells #[.slice A2 (M ++ [255, m1]).length c2, .slice A3 [lenHi d1, lenLo d1].length c3, .slice B1 d1.length e1, .slice B2 s1.length e2] 22))
      have HROW := Lib.hid (SlV.new_ v2 22 #[.slice A2 (M ++ [255, m1]).length c2, .slice A3 [lenHi d1, lenLo d1].length c3, .slice B1 d1.length e1, .slice B2 s1.length e2])
      have hl3 : (M ++ [255, m1]).length ≤ 1000000 := by simp; omega
      have hBL := fun (W : World) (h : Below wr.heap.size wr W) => h
      have HPL := Lib.hid (show PtL (v2.alloc (.cells #[.slice A2 (M ++ [255, m1]).length c2, .slice A3 [lenHi d1, lenLo d1].length c3, .slice B1 d1.length e1, .slice B2 s1.length e2] 22)) [.slice A2 (M ++ [255, m1]).length c2, .slice A3 [lenHi d1, lenLo d1].length c3, .slice B1 d1.length e1, .slice B2 s1.length e2] [M ++ [255, m1], [lenHi d1, lenLo d1], d1, s1] from
        .cons ((PtS.own HO5.out (HBY.out.app (byts2 ⟨by decide, by decide⟩ ⟨m0, m2⟩)) hl3).keep HAB.out) (.cons ((PtS.own HOP.out (byts2 (hi_byte d1) (lo_byte d1)) (by simp)).keep HAB.out) (.cons (HP1.out.keep (HB5.out.trans (HAB.out.mono HB5.out.size))) (.cons (HP2.out.keep (HB5.out.trans (HAB.out.mono HB5.out.size))) .nil))))
      have hfl : [M ++ [255, m1], [lenHi d1, lenLo d1], d1, s1].flatten = M ++ segB ⟨m1, d1, s1⟩ := by rw [HSE.out]; simp
      have hcc := concat_any v2.heap.size 4 _ _ _ HROW.out HPL.out (by simp) (by rw [hfl, List.length_append]; have := HLE.out; omega)
      rw [hfl, show (M ++ [255, m1]).length = M.length + 2 by simp] at hcc
      have HCC := Lib.hid hcc
      have hab := HAB.out
      rw [show (M ++ [255, m1]).length = M.length + 2 by simp] at hab
      replace HAB := Lib.hid hab
      clear hfl hcc hab
      go_wp2_with fail
      refine HCC.out.mono ?_
      rintro e v3 ⟨A5, c5, rfl, ho5, hb5⟩
      go_wp2_with fail
      have HB6 := Lib.hid (HB5.out.trans (HAB.out.mono HB5.out.size))
      exact ⟨⟨i + 1, A5, c5, by omega, rfl, by (rw [HWN.out]; first | rfl | rw [List.length_append]), HNX.out, by rw [HWN.out]; exact ho5.mono HB6.out.size, by rw [HWN.out]; exact HBYS.out, HB6.out.trans (hb5.mono HB6.out.size)⟩, by simp only [intOf]; omega⟩
set_option maxRecDepth 100000 in
set_option maxHeartbeats 16000000 in
theorem rwrite_any (A : Option Addr) (c : Nat) (L : List Sg) (w : World) (hs : SegS w A L) (hn : L.length ≤ 1000000) (hm : mayB L = true) (hwl : (wrL L).length ≤ 900000) :
    Calls Try.prog 15 #[.slice A L.length c] w fun e w' => ∃ A' c', e = .returned (.slice A' (wrL L).length c') ∧ Own .u8 5 w' w.heap.size (.slice A' (wrL L).length c') (wrL L) ∧ Byts (wrL L) ∧ Below w.heap.size w w' := by
  have HS := Lib.hid hs
  have HWL2 := Lib.hid hwl
  have HML := Lib.hid (show mayF L.length 0 L = true by unfold mayB at hm; simp only [Bool.and_eq_true] at hm; exact hm.2)
  clear hs hwl hm
  obtain ⟨N, hN⟩ : ∃ N, L.length = N := ⟨_, rfl⟩
  rw [hN] at hn HML ⊢
  have HN := Lib.hid hN
  clear hN
  go_enter Try.func15, Try.ntmps15
  go_wp2_with fail
  go_loopw [3, 4] (fun s4 s14 wr => ∃ (i : Nat) (A1 : Option Addr) (c1 : Nat), i ≤ N ∧ s14 = .int .i64 (i : Int) ∧ s4 = .slice A1 (wrL (L.take i)).length c1 ∧ mayF N i (L.drop i) = true ∧ Own .u8 5 wr w.heap.size (.slice A1 (wrL (L.take i)).length c1) (wrL (L.take i)) ∧ Byts (wrL (L.take i)) ∧ Below w.heap.size w wr) (fun _ s14 _ => N - (intOf s14).toNat)
  case atStart => exact ⟨0, none, 0, by omega, rfl, rfl, HML.out, Own.nil_ _ _ _ _, fun x hx => by simp [wrL] at hx, Below.refl _ _⟩
  case round =>
    obtain ⟨i, A1, c1, hi, rfl, rfl, hmf, ho, hby, hb⟩ := hrel
    have HO := Lib.hid ho
    have HBY := Lib.hid hby
    have HB := Lib.hid hb
    have HMF := Lib.hid hmf
    clear ho hby hb hmf
    by_cases hil : i < N
    case neg =>
      obtain rfl : i = N := by omega
      have hT : L.take i = L := List.take_of_length_le (Nat.le_of_eq HN.out)
      rw [hT] at HO HBY ⊢
      clear hT
      go_wp2_with fail
      go_ret
      exact ⟨A1, c1, rfl, HO.out, HBY.out, HB.out⟩
    have i1 : (i : Int) < (N : Int) := by omega
    obtain ⟨b, off, rfl, hlt, hat⟩ := HS.out.at_ (by rw [HN.out]; omega)
    obtain ⟨m1, d1, s1, B1, e1, B2, e2, hx, _, _, _, hrg, hp1, hp2⟩ := hat i (by rw [HN.out]; omega)
    have hok : okAt N i ⟨m1, d1, s1⟩ = true := by have := HMF.out; rw [mayF_drop N hx, Bool.and_eq_true] at this; exact this.1
    have HNX := Lib.hid (show mayF N (i + 1) (L.drop (i + 1)) = true by have := HMF.out; rw [mayF_drop N hx, Bool.and_eq_true] at this; exact this.2)
    have HWN := Lib.hid (wrL_next hx)
    have hle := wrL_le L (i + 1)
    rw [HWN.out, List.length_append] at hle
    have hle2 : (wrL (L.take i)).length + (segB ⟨m1, d1, s1⟩).length ≤ 900000 := Nat.le_trans hle HWL2.out
    have HSB := Lib.hid (show segB ⟨m1, d1, s1⟩ = [255, m1] ++ (if aloB m1 = true then [] else [lenHi d1, lenLo d1] ++ (d1 ++ s1)) from rfl)
    have m0 := (ok_m hok).1
    have m2 := (ok_m hok).2
    have hd : d1.length ≤ 65533 := ok_d hok
    have HAL := Lib.hid (ok_end hok)
    have HLE := Lib.hid hle2
    have hw8 := wrap8 m0 m2
    have RG := Lib.hid (show wr.rangeAt b (off + i * 3) _ from fun j v hj => (HB.out.cell (p := ⟨b, off + i * 3 + j, none⟩) hlt).trans (hrg j v hj))
    have HP1 := Lib.hid hp1
    have HP2 := Lib.hid hp2
    have hs1 := hp2.sl.2.2.2.2
    have hl2 : (segB ⟨m1, d1, s1⟩).length ≥ 2 := by rw [HSB.out]; simp
    have hM2 : (wrL (L.take i)).length + 2 ≤ 900000 := by omega
    obtain ⟨M, hM⟩ : ∃ M, wrL (L.take i) = M := ⟨_, rfl⟩
    rw [hM] at HO HBY HWN HLE hM2 ⊢
    clear hx hat hrg hp1 hp2 hok hle hle2 hl2 hM
    obtain ⟨R0, hvb, hvz⟩ := alloc1 wr (.cells (srow m1 B1 d1.length e1 B2 s1.length e2) 36)
    have R := Lib.hid R0
    have HB2 := Lib.hid (HB.out.trans (hvb.mono HB.out.size))
    have HO2 := Lib.hid (HO.out.keep hvb)
    have HZ := Lib.hid hvz
    have HZB := Lib.hid (show w.heap.size ≤ wr.heap.size from HB.out.size)
    have k0 := row_cell (v := .int .i64 m1) R0 0 rfl
    obtain ⟨W, hW⟩ : ∃ W, W = wr.alloc (.cells (srow m1 B1 d1.length e1 B2 s1.length e2) 36) := ⟨_, rfl⟩
    have hWA := ba (brefl W) (.cells #[.int .u8 255, .int .u8 m1] 5)
    rw [← hW] at hvb hvz R R0 HB2 HO2 HZ k0
    have HO3 := Lib.hid (HO2.out.keep hWA)
    have HSN := Lib.hid (Sl.new_ (k := .u8) W 5 #[.int .u8 255, .int .u8 m1] [255, m1] rfl)
    have HZ3 := Lib.hid (Nat.le_trans HB2.out.size hWA.size)
    have HB3 := Lib.hid (HB2.out.trans (hWA.mono HB2.out.size))
    have R3 := Lib.hid ((hWA.block _ (row_lt R.out)).trans R.out)
    rw [hW] at k0 HO3 HSN HZ3 HB3 R3 HB2 R HZ
    clear hvb hvz hWA R0
    clear hW W HO2
    by_cases h0 : i = 0
    · have e0 : ((i : Int) == 0) = true := by rw [h0]; rfl
      have HSE := Lib.hid (show segB ⟨m1, d1, s1⟩ = [255, m1] by rw [HSB.out, if_pos (by rw [HAL.out, decide_eq_true h0]; try rfl)]; rfl)
      clear h0
      go_wp2_with (first | ((with_reducible refine wpl_loadv rtS ?_ (.tmp 15) ?_ b (off + i * 3) ?_ [.int .i64 m1, .slice B1 d1.length e1, .slice B2 s1.length e2] ?_ RG.out ?_); rfl; rfl; rfl; rfl; simp only [Act.put, List.setIfInBounds_toArray, List.set_cons_succ, List.set_cons_zero]) | (at_builtin; refine Tin.wpl_app bt5 _ rfl (.tmp 17) (.tmp 21) rfl w.heap.size (.slice A1 M.length c1) M rfl HO3.out (some ⟨(wr.alloc (.cells (srow m1 B1 d1.length e1 B2 s1.length e2) 36)).heap.size, 0, none⟩) 2 2 [255, m1] (by rw [HZ.out]; rfl) HSN.out rfl (by simp; omega) (by simp; omega) HZ3.out ?_; intro x1 v1 ho1 hg1 hw1; obtain ⟨A2, c2, rfl⟩ := own_form ho1; have HO1 := Lib.hid ho1; have HB4 := Lib.hid (HO3.out.grown HB3.out HZ3.out hg1); have R4 := Lib.hid (own_row_keep HO3.out R3.out (by decide) hg1); have q0 := row_cell (v := .int .i64 m1) R4.out 0 rfl; have q1 := row_cell (v := .slice B1 d1.length e1) R4.out 1 rfl; have q2 := row_cell (v := .slice B2 s1.length e2) R4.out 2 rfl; clear ho1 hg1 hw1))
      exact ⟨⟨i + 1, A2, c2, by omega, rfl, by rw [HWN.out, HSE.out, List.length_append]; rfl, HNX.out, by rw [HWN.out, HSE.out]; exact HO1.out, by rw [HWN.out, HSE.out]; exact HBY.out.app (byts2 ⟨by decide, by decide⟩ ⟨m0, m2⟩), HB4.out⟩, by simp only [intOf]; omega⟩
    have e0 : ((i : Int) == 0) = false := by rw [beq_eq_false_iff_ne]; omega
    by_cases hl : i + 1 = N
    · have e2' : ((i : Int) == (N : Int) - 1) = true := by rw [beq_iff_eq]; omega
      have HSE := Lib.hid (show segB ⟨m1, d1, s1⟩ = [255, m1] by rw [HSB.out, if_pos (by rw [HAL.out, decide_eq_true hl, Bool.or_true]; try rfl)]; rfl)
      clear hl h0
      go_wp2_with (first | ((with_reducible refine wpl_loadv rtS ?_ (.tmp 15) ?_ b (off + i * 3) ?_ [.int .i64 m1, .slice B1 d1.length e1, .slice B2 s1.length e2] ?_ RG.out ?_); rfl; rfl; rfl; rfl; simp only [Act.put, List.setIfInBounds_toArray, List.set_cons_succ, List.set_cons_zero]) | (at_builtin; refine Tin.wpl_app bt5 _ rfl (.tmp 17) (.tmp 21) rfl w.heap.size (.slice A1 M.length c1) M rfl HO3.out (some ⟨(wr.alloc (.cells (srow m1 B1 d1.length e1 B2 s1.length e2) 36)).heap.size, 0, none⟩) 2 2 [255, m1] (by rw [HZ.out]; rfl) HSN.out rfl (by simp; omega) (by simp; omega) HZ3.out ?_; intro x1 v1 ho1 hg1 hw1; obtain ⟨A2, c2, rfl⟩ := own_form ho1; have HO1 := Lib.hid ho1; have HB4 := Lib.hid (HO3.out.grown HB3.out HZ3.out hg1); have R4 := Lib.hid (own_row_keep HO3.out R3.out (by decide) hg1); have q0 := row_cell (v := .int .i64 m1) R4.out 0 rfl; have q1 := row_cell (v := .slice B1 d1.length e1) R4.out 1 rfl; have q2 := row_cell (v := .slice B2 s1.length e2) R4.out 2 rfl; clear ho1 hg1 hw1))
      exact ⟨⟨i + 1, A2, c2, by omega, rfl, by rw [HWN.out, HSE.out, List.length_append]; rfl, HNX.out, by rw [HWN.out, HSE.out]; exact HO1.out, by rw [HWN.out, HSE.out]; exact HBY.out.app (byts2 ⟨by decide, by decide⟩ ⟨m0, m2⟩), HB4.out⟩, by simp only [intOf]; omega⟩
    have e2' : ((i : Int) == (N : Int) - 1) = false := by rw [beq_eq_false_iff_ne]; omega
    have HSE := Lib.hid (show segB ⟨m1, d1, s1⟩ = [255, m1] ++ ([lenHi d1, lenLo d1] ++ (d1 ++ s1)) by rw [HSB.out, if_neg (by rw [HAL.out, decide_eq_false h0, decide_eq_false hl]; decide)])
    have HBYS := Lib.hid (show Byts (M ++ segB ⟨m1, d1, s1⟩) by rw [HSE.out]; exact HBY.out.app ((byts2 ⟨by decide, by decide⟩ ⟨m0, m2⟩).app ((byts2 (hi_byte d1) (lo_byte d1)).app (HP1.out.sl.2.2.2.1.app HP2.out.sl.2.2.2.1))))
    clear h0 hl
    have hM3 : M.length + 4 + (d1.length + s1.length) ≤ 900000 := by have := HLE.out; rw [HSE.out] at this; simp at this; omega
    go_wp2_with (first | (first | ((with_reducible refine wpl_loadv rtS ?_ (.tmp 15) ?_ b (off + i * 3) ?_ [.int .i64 m1, .slice B1 d1.length e1, .slice B2 s1.length e2] ?_ RG.out ?_); rfl; rfl; rfl; rfl; simp only [Act.put, List.setIfInBounds_toArray, List.set_cons_succ, List.set_cons_zero]) | (at_builtin; refine Tin.wpl_app bt5 _ rfl (.tmp 17) (.tmp 21) rfl w.heap.size (.slice A1 M.length c1) M rfl HO3.out (some ⟨(wr.alloc (.cells (srow m1 B1 d1.length e1 B2 s1.length e2) 36)).heap.size, 0, none⟩) 2 2 [255, m1] (by rw [HZ.out]; rfl) HSN.out rfl (by simp; omega) (by simp; omega) HZ3.out ?_; intro x1 v1 ho1 hg1 hw1; obtain ⟨A2, c2, rfl⟩ := own_form ho1; have HO1 := Lib.hid ho1; have HB4 := Lib.hid (HO3.out.grown HB3.out HZ3.out hg1); have R4 := Lib.hid (own_row_keep HO3.out R3.out (by decide) hg1); have q0 := row_cell (v := .int .i64 m1) R4.out 0 rfl; have q1 := row_cell (v := .slice B1 d1.length e1) R4.out 1 rfl; have q2 := row_cell (v := .slice B2 s1.length e2) R4.out 2 rfl; clear ho1 hg1 hw1)) | (at_builtin; refine Tin.wpl_app bt5 _ rfl (.tmp 36) (.tmp 43) rfl w.heap.size (.slice A2 (M.length + 2) c2) (M ++ [255, m1]) rfl (by have := HO1.out.keep (ba (brefl v1) (.cells #[.int .u8 (((d1.length : Int) + 2) / 256), .int .u8 (((d1.length : Int) + 2) % 256)] 5)); rw [show (M ++ [255, m1]).length = M.length + 2 by simp] at this; exact this) (some ⟨v1.heap.size, 0, none⟩) 2 2 [((d1.length : Int) + 2) / 256, ((d1.length : Int) + 2) % 256] rfl (Sl.new_ (k := .u8) v1 5 #[.int .u8 (((d1.length : Int) + 2) / 256), .int .u8 (((d1.length : Int) + 2) % 256)] [((d1.length : Int) + 2) / 256, ((d1.length : Int) + 2) % 256] rfl) rfl (by simp; omega) (by simp; omega) (Nat.le_trans HB4.out.size (by simp)) ?_; intro x2 v2 ho2 hg2 hw2; obtain ⟨A3, c3, rfl⟩ := own_form ho2; have hba := ba (brefl v1) (.cells #[.int .u8 (((d1.length : Int) + 2) / 256), .int .u8 (((d1.length : Int) + 2) % 256)] 5); have HO5 := Lib.hid ho2; have HB5 := Lib.hid ((HO1.out.keep hba).grown (HB4.out.trans (hba.mono HB4.out.size)) (Nat.le_trans HB4.out.size hba.size) (by have h9 := hg2; rw [show M.length + 2 = (M ++ [255, m1]).length by simp] at h9; exact h9)); have R5 := Lib.hid (own_row_keep (HO1.out.keep hba) ((hba.block _ (row_lt R4.out)).trans R4.out) (by decide) (by have h9 := hg2; rw [show M.length + 2 = (M ++ [255, m1]).length by simp] at h9; exact h9)); clear ho2 hg2 hw2 hba q0 q1 q2))
    have hhi : ((d1.length : Int) + 2) / 256 = lenHi d1 := by unfold lenHi; omega
    have hlo : ((d1.length : Int) + 2) % 256 = lenLo d1 := rfl
    rw [hhi, hlo] at HO5
    clear hhi hlo
    have hM4 : (M ++ [255, m1] ++ [lenHi d1, lenLo d1]).length = M.length + 4 := by simp
    rw [hM4] at HO5
    clear hM4
    obtain ⟨M4, hM4⟩ : ∃ M4, M ++ [255, m1] ++ [lenHi d1, lenLo d1] = M4 := ⟨_, rfl⟩
    have HM4 := Lib.hid (show M4 ++ d1 ++ s1 = M ++ segB ⟨m1, d1, s1⟩ by rw [HSE.out, ← hM4]; simp)
    have hl4 : M.length + 4 = M4.length := by rw [← hM4]; simp
    rw [hM4] at HO5
    clear hM4
    rw [hl4] at HO5 hM3 ⊢
    have HL4 := Lib.hid hl4
    clear hl4 hM2
    have HO6 := Lib.hid (Own.drew HO5.out)
    have HB6 := Lib.hid (ud' HB5.out)
    have R6 := Lib.hid (show v2.drew.heap[wr.heap.size]? = _ from R5.out)
    clear HO5 HB5 R5
    refine Tin.keg_begin (fun i => i = wr.heap.size) 8 (by rfl) (by kernel_rfl) ?_
    generalize v2.drew = v3 at *
    have q1 : ∀ q : Kel (fun i => i = wr.heap.size) v3, q.w'.cell? ⟨wr.heap.size, 1, none⟩ = some (.slice B1 d1.length e1) := fun q => (q.h.cell (show wr.heap.size < v3.heap.size from row_lt R6.out) rfl).trans (row_cell R6.out 1 rfl)
    have q2 : ∀ q : Kel (fun i => i = wr.heap.size) v3, q.w'.cell? ⟨wr.heap.size, 2, none⟩ = some (.slice B2 s1.length e2) := fun q => (q.h.cell (show wr.heap.size < v3.heap.size from row_lt R6.out) rfl).trans (row_cell R6.out 2 rfl)
    refine Tin.keg_quiets [0, 1, 2, 4, 5] _ 3 rfl (by simp only [Tin.pick, List.map_cons, List.map_nil, Array.getD_eq_getD_getElem?, List.getElem?_toArray, List.getElem?_cons_zero, List.getElem?_cons_succ, Option.getD_some]; rfl) (by kernel_rfl) (by kernel_rfl) ?_
    repeat (first | go_big_quiet_step (fail))
    refine wpQuiet_nil ?_
    clear q1 q2
    refine Tin.keg_one 3 _ rfl (by kernel_rfl) ?_
    try simp only [List.getElem_toArray, List.getElem_cons_succ, List.getElem_cons_zero]
    refine Tin.wpl_app bt5 _ rfl (.tmp 45) (.tmp 47) rfl w.heap.size (.slice A3 M4.length c3) M4 rfl HO6.out B1 d1.length e1 d1 rfl (HP1.out.keep HB6.out).sl.2.1 rfl (by omega) (by omega) HB6.out.size ?_
    intro x1 v4 ho hg hw
    obtain ⟨A4, c4, rfl⟩ := own_form ho
    go_wp2_with fail
    have R7 := Lib.hid (own_row_keep HO6.out R6.out (by decide) hg)
    have hne := own_cells_ne HO6.out R6.out (by decide)
    refine ⟨fun i => i = wr.heap.size, Kept.of_grown hg (fun i h e => by subst h; rcases hne with h9 | h9; (rw [h9] at e; cases e); exact h9 e.symm), fun _ _ h => h, ?_⟩
    have HO7 := Lib.hid ho
    have HB7 := Lib.hid (HO6.out.grown HB6.out HB6.out.size hg)
    clear ho hg hw hne
    obtain ⟨M5, hM5⟩ : ∃ M5, M4 ++ d1 = M5 := ⟨_, rfl⟩
    have hl5 : M4.length + d1.length = M5.length := by rw [← hM5]; simp
    rw [hM5] at HO7 HM4
    clear hM5
    try rw [hl5]
    have HL5 := Lib.hid hl5
    clear hl5
    refine Tin.keg_one 6 _ rfl (by kernel_rfl) ?_
    try simp only [List.getElem_toArray, List.getElem_cons_succ, List.getElem_cons_zero]
    refine Tin.wpl_app bt5 _ rfl (.tmp 48) (.tmp 50) rfl w.heap.size (.slice A4 M5.length c4) M5 rfl HO7.out B2 s1.length e2 s1 rfl (HP2.out.keep HB7.out).sl.2.1 rfl (by have := HL5.out; omega) (by have := HL5.out; omega) HB7.out.size ?_
    intro x1 v5 ho hg hw
    obtain ⟨A5, c5, rfl⟩ := own_form ho
    go_wp2_with fail
    have hne := own_cells_ne HO7.out R7.out (by decide)
    refine ⟨fun i => i = wr.heap.size, Kept.of_grown hg (fun i h e => by subst h; rcases hne with h9 | h9; (rw [h9] at e; cases e); exact h9 e.symm), fun _ _ h => h, ?_⟩
    have HO8 := Lib.hid ho
    have HB8 := Lib.hid (HO7.out.grown HB7.out HB7.out.size hg)
    clear ho hg hw hne
    rw [HM4.out] at HO8
    have hl8 : M5.length + s1.length = (M ++ segB ⟨m1, d1, s1⟩).length := by rw [← HM4.out]; simp
    refine Tin.keg_quiets [7] _ 0 rfl (by simp only [Tin.pick, List.map_cons, List.map_nil, Array.getD_eq_getD_getElem?, List.getElem?_toArray, List.getElem?_cons_zero, List.getElem?_cons_succ, Option.getD_some]; rfl) (by kernel_rfl) (by kernel_rfl) ?_
    repeat (first | go_big_quiet_step (fail))
    refine wpQuiet_nil ?_
    refine Tin.reg_done (by kernel_rfl) ?_
    go_wp2_with fail
    exact ⟨⟨i + 1, A5, c5, by omega, rfl, by (rw [HWN.out]; first | rfl | rw [← hl8] | (rw [List.length_append]; rfl)), HNX.out, by rw [HWN.out]; exact HO8.out, by rw [HWN.out]; exact HBYS.out, HB8.out⟩, by simp only [intOf]; omega⟩
end Go.Proofs.Ytfohajgljjffgaa
