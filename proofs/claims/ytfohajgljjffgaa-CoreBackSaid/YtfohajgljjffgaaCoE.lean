/- The reference's Image, Some, Is. -/
import Derived.Test.YtfohajgljjffgaaCoD
namespace Go.Proofs.Ytfohajgljjffgaa
open Go.RowKit
open Go.Tin
set_option linter.unusedVariables false
set_option linter.unusedSimpArgs false


def cntS (L : List Sg) : Nat := (L.filter sosB).length
theorem cnt_next {L : List Sg} {i : Nat} {x : Sg} (h : L[i]? = some x) : cntS (L.take (i + 1)) = cntS (L.take i) + (if sosB x = true then 1 else 0) := by
  unfold cntS
  rw [take_nextG h, List.filter_append, List.length_append]
  cases hx : sosB x <;> simp [hx]
theorem cnt_le (L : List Sg) (i : Nat) : cntS (L.take i) ≤ i := by
  unfold cntS
  have h1 := List.length_filter_le sosB (L.take i)
  rw [List.length_take] at h1
  omega
theorem cnt_any (L : List Sg) : (cntS L = 0 ∧ L.any sosB = false) ∨ (0 < cntS L ∧ L.any sosB = true) := by
  cases h : L.any sosB with
  | false =>
    left
    refine ⟨?_, rfl⟩
    unfold cntS
    rw [List.length_eq_zero_iff, List.filter_eq_nil_iff]
    intro x hx hs
    have : L.any sosB = true := List.any_eq_true.2 ⟨x, hx, hs⟩
    rw [h] at this; cases this
  | true =>
    right
    obtain ⟨x, hx, hs⟩ := List.any_eq_true.1 h
    exact ⟨List.length_pos_of_mem (List.mem_filter.2 ⟨hx, hs⟩), rfl⟩
set_option maxRecDepth 100000 in
set_option maxHeartbeats 4000000 in
theorem rimage_any (A : Option Addr) (l : List Int) (cap : Nat) (w : World) (hs : Sl .u8 w A l) (hcap : l.length ≤ cap) (hl : l.length ≤ 1000000) (hby : Byts l) :
    Calls Try.prog 10 #[.slice A l.length cap] w fun e w' => ImgP w l e w' := by
  have HBY := Lib.hid hby
  have HOF := Lib.hid (rof_any A l cap w hs hcap hl hby)
  clear hs hby
  go_enter Try.func10, Try.ntmps10
  go_wp2_with fail
  refine HOF.out.mono ?_
  intro e w1 hp
  obtain ⟨r, hr⟩ : ∃ r, ofR l = r := ⟨_, rfl⟩
  rw [hr] at hp
  cases r with
  | err p q =>
    obtain ⟨rfl, hb⟩ := hp
    have hq := ofR_err hr
    have nq : (q != 0) = true := by rw [bne_iff_ne]; omega
    have HL := Lib.hid (show imgL l = [] ∧ imgE l = q by unfold imgL imgE; rw [hr]; exact ⟨rfl, rfl⟩)
    clear hr hq
    go_wp2_with fail
    go_ret2
    exact ImgP.no HL.out.1 HL.out.2 hb
  | ok L a =>
    obtain ⟨A1, c1, xs, rfl, ho, hsv, hb⟩ := hp
    have hBy := ofR_by HBY.out hl hr
    have HS := Lib.hid (SegS.own ho hsv hBy.1)
    have HO := Lib.hid ho
    have HSV := Lib.hid hsv
    have HB := Lib.hid hb
    have hL : L.length ≤ 1000000 := Nat.le_trans hBy.2.1 hl
    have HR := Lib.hid hr
    have hal := hBy.2.2
    clear ho hsv hb hBy hr
    obtain ⟨N, hN⟩ : ∃ N, L.length = N := ⟨_, rfl⟩
    rw [hN] at hL ⊢
    have HN := Lib.hid hN
    clear hN
    go_wp2_with fail
    go_loopw [8, 9] (fun s8 s9 wr => ∃ i : Nat, i ≤ N ∧ s9 = .int .i64 (i : Int) ∧ s8 = .int .i64 (cntS (L.take i) : Int) ∧ w1 = wr) (fun _ s9 _ => N - (intOf s9).toNat)
    case atStart => exact ⟨0, by omega, rfl, rfl, rfl⟩
    case round =>
      obtain ⟨i, hi, rfl, rfl, rfl⟩ := hrel
      by_cases hil : i < N
      case neg =>
        obtain rfl : i = N := by omega
        rw [List.take_of_length_le (Nat.le_of_eq HN.out)]
        have hcle := cnt_le L i
        rw [List.take_of_length_le (Nat.le_of_eq HN.out)] at hcle
        by_cases h1 : a < l.length
        · have i1 : (a : Int) < (l.length : Int) := by omega
          have HL := Lib.hid (show imgL l = [] ∧ imgE l = 2 by unfold imgL imgE; rw [HR.out]; simp only []; rw [if_pos (.inl i1), if_pos (.inl i1)]; exact ⟨rfl, rfl⟩)
          go_wp2_with fail
          go_ret2
          exact ImgP.no HL.out.1 HL.out.2 HB.out
        have i1 : (l.length : Int) ≤ (a : Int) := by omega
        rcases cnt_any L with ⟨h0, hany⟩ | ⟨h0, hany⟩
        · have HL := Lib.hid (show imgL l = [] ∧ imgE l = 2 by unfold imgL imgE; rw [HR.out]; simp only []; rw [if_pos (.inr hany), if_pos (.inr hany)]; exact ⟨rfl, rfl⟩)
          rw [h0]
          clear h0 hany
          go_wp2_with fail
          go_ret2
          exact ImgP.no HL.out.1 HL.out.2 HB.out
        · have HL := Lib.hid (show imgL l = L ∧ imgE l = 0 by unfold imgL imgE; rw [HR.out]; simp only []; rw [if_neg (by rw [hany]; simp; omega), if_neg (by rw [hany]; simp; omega)]; exact ⟨rfl, rfl⟩)
          have n0 : ((cntS L : Int) == 0) = false := by rw [beq_eq_false_iff_ne]; omega
          generalize cntS L = C at *
          clear hany
          go_wp2_with fail
          go_ret2
          have := ImgP.yes HL.out.1 HL.out.2 (c := c1) (A := A1) (xs := xs) (w := w) (w' := w1) HO.out HSV.out HB.out
          rw [HN.out] at this
          exact this
      have i1 : (i : Int) < (N : Int) := by omega
      obtain ⟨b, off, rfl, hlt, hc⟩ := HS.out.at_ (by rw [HN.out]; omega)
      obtain ⟨m1, d1, s1, B1, e1, B2, e2, hx, k0, _, _, _, _, _⟩ := hc i (by rw [HN.out]; exact hil)
      have HX := Lib.hid (cnt_next hx)
      have hcl := cnt_le L i
      clear hx hc
      obtain ⟨C, hC⟩ : ∃ C, cntS (L.take i) = C := ⟨_, rfl⟩
      rw [hC] at hcl HX ⊢
      clear hC
      have HSO := Lib.hid (show sosB ⟨m1, d1, s1⟩ = (m1 == 218) from rfl)
      cases hm : m1 == 218 with
      | true =>
        have HM := Lib.hid hm
        go_wp2_with fail
        exact ⟨⟨i + 1, by omega, rfl, congrArg (Value.int .i64) (by rw [HX.out, HSO.out, HM.out, if_pos rfl]; omega), by first | rfl | trivial⟩, by simp only [intOf]; omega⟩
      | false =>
        have HM := Lib.hid hm
        go_wp2_with fail
        exact ⟨⟨i + 1, by omega, rfl, congrArg (Value.int .i64) (by rw [HX.out, HSO.out, HM.out, if_neg (by decide)]; omega), by first | rfl | trivial⟩, by simp only [intOf]; omega⟩
def someF (b : Bool) (s : Sg) : Bool := appB s.m == b
theorem some_next {b : Bool} {L : List Sg} {j : Nat} {x : Sg} (h : L[j]? = some x) : (L.take (j + 1)).filter (someF b) = (L.take j).filter (someF b) ++ (if someF b x = true then [x] else []) := by
  rw [take_nextG h, List.filter_append]
  cases hq : someF b x <;> simp [hq]
set_option maxRecDepth 100000 in
set_option maxHeartbeats 4000000 in
theorem some_any (A : Option Addr) (c : Nat) (L : List Sg) (b : Bool) (w : World) (hs : SegS w A L) (hn : L.length ≤ 1000000) :
    Calls Try.prog 16 #[.slice A L.length c, .bool b] w fun e w' => ∃ A' c' xs, e = .returned (.slice A' (L.filter (someF b)).length c') ∧ OwnV 36 3 w' w.heap.size (.slice A' (L.filter (someF b)).length c') (L.filter (someF b)).length xs ∧ SgV (PtS w') xs (L.filter (someF b)) ∧ Below w.heap.size w w' := by
  have HS := Lib.hid hs
  clear hs
  obtain ⟨N, hN⟩ : ∃ N, L.length = N := ⟨_, rfl⟩
  rw [hN] at hn ⊢
  have HN := Lib.hid hN
  clear hN
  go_enter Try.func16, Try.ntmps16
  go_wp2_with fail
  go_loopw [5, 6] (fun s5 s6 wr => ∃ (i : Nat) (A1 : Option Addr) (c1 : Nat) (xs : List Value), i ≤ N ∧ s6 = .int .i64 (i : Int) ∧ s5 = .slice A1 ((L.take i).filter (someF b)).length c1 ∧ OwnV 36 3 wr w.heap.size (.slice A1 ((L.take i).filter (someF b)).length c1) ((L.take i).filter (someF b)).length xs ∧ SgV (PtS w) xs ((L.take i).filter (someF b)) ∧ Below w.heap.size w wr) (fun _ s6 _ => N - (intOf s6).toNat)
  case atStart => exact ⟨0, none, 0, [], by omega, rfl, rfl, OwnV.nil_ _ _ _ _, .nil, Below.refl _ _⟩
  case round =>
    obtain ⟨i, A1, c1, xs, hi, rfl, rfl, ho, hsv, hb⟩ := hrel
    have HO := Lib.hid ho
    have HSV := Lib.hid hsv
    have HB := Lib.hid hb
    clear ho hsv hb
    by_cases hil : i < N
    case neg =>
      obtain rfl : i = N := by omega
      rw [List.take_of_length_le (Nat.le_of_eq HN.out)] at HO HSV ⊢
      go_wp2_with fail
      go_ret
      exact ⟨A1, c1, xs, rfl, HO.out, SgV.mono (fun _ _ h => h.keep HB.out) HSV.out, HB.out⟩
    have i1 : (i : Int) < (N : Int) := by omega
    obtain ⟨b0, off, rfl, hlt, hc⟩ := HS.out.at_ (by rw [HN.out]; omega)
    obtain ⟨m1, d1, s1, B1, e1, B2, e2, hx, h0, _, _, hrg, hp1, hp2⟩ := hc i (by rw [HN.out]; exact hil)
    have k0 : wr.cell? ⟨b0, off + i * 3, none⟩ = some (.int .i64 m1) := (HB.out.cell (p := ⟨b0, off + i * 3, none⟩) hlt).trans h0
    have RG := Lib.hid (show wr.rangeAt b0 (off + i * 3) [.int .i64 m1, .slice B1 d1.length e1, .slice B2 s1.length e2] from fun j v hj => (HB.out.cell (p := ⟨b0, off + i * 3 + j, none⟩) hlt).trans (hrg j v hj))
    have HX := Lib.hid (some_next (b := b) hx)
    have HP1 := Lib.hid hp1
    have HP2 := Lib.hid hp2
    have hlen : ((L.take i).filter (someF b)).length ≤ i := by
      have h1 := List.length_filter_le (someF b) (L.take i)
      rw [List.length_take] at h1
      omega
    clear hx hc h0 hrg hp1 hp2
    obtain ⟨K, hK⟩ : ∃ K, (L.take i).filter (someF b) = K := ⟨_, rfl⟩
    rw [hK] at HX HO HSV hlen ⊢
    clear hK
    have HSF := Lib.hid (show someF b ⟨m1, d1, s1⟩ = (appB m1 == b) from rfl)
    go_wp2_with fail
    refine (rapp_any m1 _).mono ?_
    rintro e w' ⟨rfl, rfl⟩
    cases hm : appB m1 == b with
    | true =>
      have HM := Lib.hid hm
      go_wp2_with (first | ((with_reducible refine wpl_loadv rtS ?_ (.tmp 24) ?_ b0 (off + i * 3) ?_ [.int .i64 m1, .slice B1 d1.length e1, .slice B2 s1.length e2] ?_ RG.out ?_); rfl; rfl; rfl; rfl; simp only [Act.put, List.setIfInBounds_toArray, List.set_cons_succ, List.set_cons_zero]) | (at_builtin; refine Tin.wplv_push svG wr #[.int .i64 m1, .slice B1 d1.length e1, .slice B2 s1.length e2] rfl (.tmp 21) (.tmp 26) rfl w.heap.size A1 K.length c1 xs rfl HO.out HB.out.size rfl rfl (by simp [Value.oneCell']) (by omega) (by omega) ?_; intro A4 c4 w4 ho4 hg4 how4; have HO4 := Lib.hid ho4; have HB4 := Lib.hid (HO.out.grown HB.out HB.out.size hg4); clear ho4 hg4 how4))
      have hft : (L.take (i + 1)).filter (someF b) = K ++ [⟨m1, d1, s1⟩] := by rw [HX.out, HSF.out, HM.out, if_pos rfl]
      exact ⟨⟨i + 1, A4, c4, _, by omega, rfl, by rw [hft, List.length_append]; rfl, by rw [hft, List.length_append]; exact HO4.out, by rw [hft]; exact HSV.out.app (.one HP1.out HP2.out), HB4.out⟩, by simp only [intOf]; omega⟩
    | false =>
      have HM := Lib.hid hm
      go_wp2_with fail
      have hft : (L.take (i + 1)).filter (someF b) = K := by rw [HX.out, HSF.out, HM.out, if_neg (by decide), List.append_nil]
      exact ⟨⟨i + 1, A1, c1, xs, by omega, rfl, by rw [hft], by rw [hft]; exact HO.out, by rw [hft]; exact HSV.out, HB.out⟩, by simp only [intOf]; omega⟩
end Go.Proofs.Ytfohajgljjffgaa
