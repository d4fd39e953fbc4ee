/- CoreStrips: the walk. -/
import Derived.Test.YtfohajgljjffgaaCoK
namespace Go.Proofs.Ytfohajgljjffgaa
open Go.RowKit
open Go.Tin
set_option linter.unusedVariables false
set_option linter.unusedSimpArgs false


theorem st_len {l : List Int} (hby : Byts l) : (stL l).length ≤ l.length := by
  unfold stL
  split
  · rename_i h0
    have := wrL_filter notApp (imgL l)
    rw [(img_ok hby h0).2.1] at this
    exact this
  · exact Nat.zero_le _
theorem ahead_le {T : List Sg} : ∀ (k : Nat), k ≤ T.length → (∀ x ∈ T.take k, isApp x = true) → k ≤ (T.takeWhile isApp).length := by
  induction T with
  | nil => intro k hk _; simpa using hk
  | cons x T ih =>
    intro k hk h
    cases k with
    | zero => exact Nat.zero_le _
    | succ k =>
      have hx := h x (by simp)
      rw [List.takeWhile_cons, if_pos hx, List.length_cons]
      have := ih k (by simpa using hk) fun y hy => h y (by rw [List.take_succ_cons]; exact List.mem_cons_of_mem _ hy)
      omega
set_option maxRecDepth 100000 in
set_option maxHeartbeats 16000000 in
theorem cstrips_any (A : Option Addr) (len cap : Nat) (l : List Int) (w : World) (hr : IsRow .u8 w A len cap l) :
    Calls Try.prog 6 #[.slice A len cap] w fun e w' => e = .returned (.bool true) ∧ Below w.heap.size w w' := by
  obtain ⟨hs, hlen, hlc, hcm, hwf⟩ := Sl.of_row hr
  have hby := byts_wf hwf
  generalize l.take len = l at *
  subst hlen
  clear hwf hr
  unfold maxLen at hcm
  have HBY := Lib.hid hby
  have HS := Lib.hid hs
  clear hby hs
  by_cases h3 : 3000 < l.length
  · have i3 : (3000 : Int) < (l.length : Int) := by omega
    go_enter Try.func6, Try.ntmps6
    go_wp2_with fail
    refine (awake_any _).mono ?_
    rintro e w9 ⟨rfl, hb9⟩
    go_wp2_with fail
    go_ret
    exact ⟨rfl, hb9⟩
  have hl : l.length ≤ 3000 := by omega
  have i3 : (l.length : Int) ≤ 3000 := by omega
  clear h3
  have HIB := Lib.hid (img_by HBY.out (show l.length ≤ 1000000 by omega))
  have HOK := Lib.hid (fun h => img_ok HBY.out h)
  have HST := Lib.hid (fun h => strips HBY.out h)
  have hsl := st_len HBY.out
  go_enter Try.func6, Try.ntmps6
  go_wp2_with fail
  refine (strip_any A l cap w HS.out hlc (by omega) HBY.out).mono ?_
  rintro e v1 ⟨A1, c1, rfl, ho1, hy1, hb1⟩
  have HO1 := Lib.hid ho1
  have HYS := Lib.hid hy1
  have HB1 := Lib.hid hb1
  clear ho1 hy1 hb1
  go_wp2_with fail
  refine (capps_any A l cap v1 (HS.out.keep HB1.out) hlc (by omega) HBY.out).mono ?_
  rintro e v2 ⟨A2, c2, xs, rfl, ho2, hs2, hb2⟩
  have HB2 := Lib.hid (HB1.out.trans (hb2.mono HB1.out.size))
  have HBP := Lib.hid (show BySg (apL l) from by_filter HIB.out.1 isApp)
  have HS2 := Lib.hid (SegS.own ho2 hs2 HBP.out)
  have hc2 : (apL l).length ≤ c2 := ho2.sl'.2.2.1
  replace HO1 := Lib.hid (HO1.out.keep hb2)
  have hP : (apL l).length ≤ 3000 := by have := HIB.out.2.1; unfold apL; exact Nat.le_trans (List.length_filter_le _ _) (by omega)
  clear ho2 hs2 hb2
  by_cases h0 : imgE l = 0
  case neg =>
    have n0 : (imgE l != 0) = true := by rw [bne_iff_ne]; exact h0
    have HI0 := Lib.hid (show isB l = false by unfold isB; rw [show (imgE l == 0) = false by simpa using h0]; rfl)
    clear h0 HOK HST
    generalize imgE l = E at *
    generalize (stL l).length = sn at *
    generalize (apL l).length = an at *
    go_wp2_with fail
    refine (is_any A l cap v2 (HS.out.keep HB2.out) hlc (by omega) HBY.out).mono ?_
    rintro e v3 ⟨rfl, hb3⟩
    rw [HI0.out]
    have HB3 := Lib.hid (HB2.out.trans (hb3.mono HB2.out.size))
    clear hb3
    go_wp2_with fail
    refine (awake_any _).mono ?_
    rintro e w9 ⟨rfl, hb9⟩
    go_wp2_with fail
    go_ret
    exact ⟨rfl, HB3.out.trans (hb9.mono HB3.out.size)⟩
  obtain ⟨q1, q2, q3, q4, q5, q6, q7⟩ := HST.out h0
  obtain ⟨r1, r2, r3, r4⟩ := HOK.out h0
  obtain ⟨S, hS⟩ : ∃ S, stL l = S := ⟨_, rfl⟩
  obtain ⟨P, hPP⟩ : ∃ P, apL l = P := ⟨_, rfl⟩
  obtain ⟨L, hL⟩ : ∃ L, imgL l = L := ⟨_, rfl⟩
  have h2L : 2 ≤ L.length := by
    rw [hL] at r1
    unfold mayB at r1
    rw [Bool.and_eq_true] at r1
    exact of_decide_eq_true r1.1
  have hLl : L.length ≤ 3000 := by have := HIB.out.2.1; rw [hL] at this; omega
  have HBL := Lib.hid (show BySg L by have := HIB.out.1; rwa [hL] at this)
  rw [hS, hPP] at q4 q5 q7
  rw [hS] at q1 q2 q3 HO1 HYS hsl ⊢
  rw [hPP] at q6 HS2 HBP hc2 hP ⊢
  rw [hL] at q7 r3
  rw [h0]
  have Q1 := Lib.hid q1
  have Q2 := Lib.hid q2
  have Q3 := Lib.hid q3
  have Q5 := Lib.hid q5
  have Q6 := Lib.hid q6
  have Q7 := Lib.hid q7
  have R3 := Lib.hid r3
  have HPB := Lib.hid (p_yes q4)
  have HWX := Lib.hid (show mayB (putG S P) = true → (wrL (putG S P)).length ≤ 900000 from fun _ => by rw [← (p_yes q4).1, q5]; omega)
  clear q1 q2 q3 q4 q5 q6 q7 r1 r2 r3 r4 hS hPP hL h0 HIB HOK HST
  have hcs : S.length ≤ c1 := by obtain ⟨_, _, he, _, h1, _⟩ := HO1.out.sl; injection he with _ _ h2; omega
  go_wp2_with fail
  refine (strip_any A1 S c1 v2 HO1.out.sl'.2 hcs (by omega) HYS.out).mono ?_
  rintro e v3 ⟨A3, c3, rfl, ho3, _, hb3⟩
  rw [Q2.out] at ho3 ⊢
  rw [Q1.out]
  have HO3 := Lib.hid ho3
  have HB3 := Lib.hid (HB2.out.trans (hb3.mono HB2.out.size))
  replace HO1 := Lib.hid (HO1.out.keep hb3)
  replace HS2 := Lib.hid (HS2.out.keep hb3)
  clear ho3 hb3
  go_wp2_with fail
  refine (cput_any A1 S c1 A2 c2 P v3 HO1.out.sl'.2 hcs (by omega) HYS.out HS2.out (by omega) hc2 HWX.out).mono ?_
  rintro e v4 ⟨A4, c4, rfl, ho4, hy4, hb4⟩
  rw [HPB.out.2]
  obtain ⟨X, hX⟩ : ∃ X, pB S P = X := ⟨_, rfl⟩
  rw [hX] at ho4 hy4 Q5 Q7 ⊢
  have HYX := Lib.hid hy4
  have HO4 := Lib.hid ho4
  have HB4 := Lib.hid (HB3.out.trans (hb4.mono HB3.out.size))
  replace HO1 := Lib.hid (HO1.out.keep hb4)
  replace HO3 := Lib.hid (HO3.out.keep hb4)
  have nx : ((X.length : Int) != (l.length : Int)) = false := by rw [Q5.out]; simp
  clear hX ho4 hy4 hb4 HPB HWX
  obtain ⟨xn, hxn⟩ : ∃ xn, X.length = xn := ⟨_, rfl⟩
  rw [hxn] at nx ⊢
  have HXN := Lib.hid hxn
  clear hxn
  go_wp2_with fail
  refine (is_any A1 S c1 v4 HO1.out.sl'.2 hcs (by omega) HYS.out).mono ?_
  rintro e v5 ⟨rfl, hb5⟩
  rw [Q3.out]
  have HB5 := Lib.hid (HB4.out.trans (hb5.mono HB4.out.size))
  replace HO1 := Lib.hid (HO1.out.keep hb5)
  replace HO3 := Lib.hid (HO3.out.keep hb5)
  replace HO4 := Lib.hid (HO4.out.keep hb5)
  clear hb5
  have k1 := Lib.hid (str_run Try.underlying22 Try.underlying5 Try.underlying9 HO3.out.sl'.2 S.length c3 rfl)
  have k2 := Lib.hid (str_run Try.underlying22 Try.underlying5 Try.underlying9 HO1.out.sl'.2 S.length c1 rfl)
  generalize strOf S = S1 at *
  go_wp2_with fail
  rw [k1.out]
  simp only [Result.andThen]
  rw [Oper.upon_value]
  go_wp2_with fail
  rw [k2.out]
  simp only [Result.andThen]
  rw [Oper.upon_value]
  clear k1 k2
  go_wp2_with fail
  refine (is_any A l cap v5 (HS.out.keep HB5.out) hlc (by omega) HBY.out).mono ?_
  rintro e v6 ⟨rfl, hb6⟩
  rw [Q6.out]
  have HB6 := Lib.hid (HB5.out.trans (hb6.mono HB5.out.size))
  replace HO4 := Lib.hid (HO4.out.keep hb6)
  clear hb6
  have HPN := Lib.hid (show ((P.length : Int) == 0) = decide (P.length = 0) by rw [Bool.eq_iff_iff, beq_iff_eq, decide_eq_true_eq]; omega)
  have tail : ∀ v7 : World, Below w.heap.size w v7 → Below v6.heap.size v6 v7 → True := fun _ _ _ => trivial
  clear tail
  obtain ⟨N, hN⟩ : ∃ N, L.length = N := ⟨_, rfl⟩
  have HN := Lib.hid hN
  rw [hN] at h2L hLl
  clear hN
  have HP0 := Lib.hid (show (P.length = 0 ∧ decide (P.length = 0) = true ∧ ((P.length : Int) == 0) = true) ∨ (P.length ≠ 0 ∧ decide (P.length = 0) = false ∧ ((P.length : Int) == 0) = false) by
    rcases Nat.eq_zero_or_pos P.length with h | h
    · exact .inl ⟨h, decide_eq_true h, by rw [h]; rfl⟩
    · exact .inr ⟨by omega, decide_eq_false (by omega), by rw [beq_eq_false_iff_ne]; omega⟩)
  obtain ⟨pn, hpn⟩ : ∃ pn, P.length = pn := ⟨_, rfl⟩
  rw [hpn] at HP0 hP Q7 ⊢
  clear hpn HPN
  rcases HP0.out with ⟨_, hd, he⟩ | ⟨_, hd, he⟩
  · rw [hd]
    clear hd HP0
    go_wp2_with fail
    refine (of_any A l cap v6 (HS.out.keep HB6.out) hlc (by omega) HBY.out).mono ?_
    intro e v7 hp
    rw [R3.out] at hp
    obtain ⟨A7, c7, ys, rfl, ho7, hs7, hb7⟩ := hp
    have HS7 := Lib.hid (SegS.own ho7 hs7 HBL.out)
    have HB7 := Lib.hid (HB6.out.trans (hb7.mono HB6.out.size))
    have HO7 := Lib.hid (HO4.out.keep hb7)
    clear ho7 hs7 hb7
    rw [HN.out]
    have j2 : (2 : Int) ≤ (N : Int) := by omega
    go_wp2_with fail
    go_loopw [15, 16] (fun s15 s16 wr => ∃ k : Nat, 1 ≤ k ∧ k ≤ N ∧ s16 = .int .i64 (k : Int) ∧ s15 = .int .i64 ((k : Int) - 1) ∧ (∀ x ∈ (L.drop 1).take (k - 1), isApp x = true) ∧ v7 = wr) (fun _ s16 _ => N - (intOf s16).toNat)
    case atStart => exact ⟨1, by omega, by omega, rfl, rfl, fun x hx => by simp at hx, rfl⟩
    case round =>
      obtain ⟨k, hk1, hk, rfl, rfl, hall, rfl⟩ := hrel
      have HALL := Lib.hid hall
      clear hall
      have HLE := Lib.hid (show k - 1 ≤ aheadN L from ahead_le (k - 1) (by rw [List.length_drop, HN.out]; omega) HALL.out)
      have fin : ∀ _ : Unit, True := fun _ => trivial
      clear fin
      have hend : (X = l) ∨ (X ≠ l ∧ ((k : Int) - 1 < (pn : Int))) := by
        by_cases hx : X = l
        · exact .inl hx
        · refine .inr ⟨hx, ?_⟩
          by_cases hlt : pn ≤ aheadN L
          · exact absurd (Q7.out hlt) hx
          · have := HLE.out; omega
      have HEND := Lib.hid hend
      clear hend
      have k1 := Lib.hid (str_run Try.underlying22 Try.underlying5 Try.underlying9 HO7.out.sl'.2 X.length c4 rfl)
      have k2 := Lib.hid (str_run Try.underlying22 Try.underlying5 Try.underlying9 (HS.out.keep HB7.out) l.length cap rfl)
      rw [HXN.out] at k1
      by_cases hkN : k < N
      case neg =>
        obtain rfl : k = N := by omega
        rcases HEND.out with hx | ⟨hx, hlt⟩
        · subst hx
          generalize strOf X = S3 at *
          go_wp2_with fail
          rw [k1.out]
          simp only [Result.andThen]
          rw [Oper.upon_value]
          go_wp2_with fail
          rw [k2.out]
          simp only [Result.andThen]
          rw [Oper.upon_value]
          go_wp2_with fail
          refine (awake_any _).mono ?_
          rintro e w9 ⟨rfl, hb9⟩
          go_wp2_with fail
          go_ret
          exact ⟨rfl, HB7.out.trans (hb9.mono HB7.out.size)⟩
        · have q1 := str_ne HYX.out HBY.out hx
          generalize strOf X = S3 at *
          generalize strOf l = S4 at *
          go_wp2_with fail
          rw [k1.out]
          simp only [Result.andThen]
          rw [Oper.upon_value]
          go_wp2_with fail
          rw [k2.out]
          simp only [Result.andThen]
          rw [Oper.upon_value]
          go_wp2_with fail
          all_goals
            refine (awake_any _).mono ?_
            rintro e w9 ⟨rfl, hb9⟩
            go_wp2_with fail
            go_ret
            exact ⟨rfl, HB7.out.trans (hb9.mono HB7.out.size)⟩
      have i1 : (k : Int) < (N : Int) := by omega
      obtain ⟨b, off, rfl, hlt, hc⟩ := HS7.out.at_ (by rw [HN.out]; omega)
      obtain ⟨m1, d1, s1, B1, e1, B2, e2, hx, kk0, _, _, _, _, _⟩ := hc k (by rw [HN.out]; exact hkN)
      have HX1 := Lib.hid (show (L.drop 1).take k = (L.drop 1).take (k - 1) ++ [⟨m1, d1, s1⟩] by
        have := take_nextG (L := L.drop 1) (i := k - 1) (x := ⟨m1, d1, s1⟩) (by rw [List.getElem?_drop, show 1 + (k - 1) = k by omega]; exact hx)
        rwa [show k - 1 + 1 = k by omega] at this)
      clear hx hc
      go_wp2_with fail
      refine (app_any m1 _).mono ?_
      rintro e w' ⟨rfl, rfl⟩
      cases ha : appB m1 with
      | true =>
        have HA := Lib.hid ha
        clear ha k1 k2
        go_wp2_with fail
        exact ⟨⟨k + 1, by omega, by omega, rfl, congrArg (Value.int .i64) (by omega), fun x hx => by
          rw [show k + 1 - 1 = k by omega, HX1.out] at hx
          rcases List.mem_append.1 hx with h | h
          · exact HALL.out x h
          · rw [List.mem_singleton.1 h]; exact HA.out, by first | rfl | trivial⟩, by simp only [intOf]; omega⟩
      | false =>
        clear ha
        rcases HEND.out with hx | ⟨hx, hlt⟩
        · subst hx
          generalize strOf X = S3 at *
          go_wp2_with fail
          rw [k1.out]
          simp only [Result.andThen]
          rw [Oper.upon_value]
          go_wp2_with fail
          rw [k2.out]
          simp only [Result.andThen]
          rw [Oper.upon_value]
          go_wp2_with fail
          refine (awake_any _).mono ?_
          rintro e w9 ⟨rfl, hb9⟩
          go_wp2_with fail
          go_ret
          exact ⟨rfl, HB7.out.trans (hb9.mono HB7.out.size)⟩
        · have q1 := str_ne HYX.out HBY.out hx
          generalize strOf X = S3 at *
          generalize strOf l = S4 at *
          go_wp2_with fail
          rw [k1.out]
          simp only [Result.andThen]
          rw [Oper.upon_value]
          go_wp2_with fail
          rw [k2.out]
          simp only [Result.andThen]
          rw [Oper.upon_value]
          go_wp2_with fail
          all_goals
            refine (awake_any _).mono ?_
            rintro e w9 ⟨rfl, hb9⟩
            go_wp2_with fail
            go_ret
            exact ⟨rfl, HB7.out.trans (hb9.mono HB7.out.size)⟩
  · rw [hd]
    clear hd HP0
    go_wp2_with fail
    refine (of_any A l cap v6 (HS.out.keep HB6.out) hlc (by omega) HBY.out).mono ?_
    intro e v7 hp
    rw [R3.out] at hp
    obtain ⟨A7, c7, ys, rfl, ho7, hs7, hb7⟩ := hp
    have HS7 := Lib.hid (SegS.own ho7 hs7 HBL.out)
    have HB7 := Lib.hid (HB6.out.trans (hb7.mono HB6.out.size))
    have HO7 := Lib.hid (HO4.out.keep hb7)
    clear ho7 hs7 hb7
    rw [HN.out]
    have j2 : (2 : Int) ≤ (N : Int) := by omega
    go_wp2_with fail
    go_loopw [15, 16] (fun s15 s16 wr => ∃ k : Nat, 1 ≤ k ∧ k ≤ N ∧ s16 = .int .i64 (k : Int) ∧ s15 = .int .i64 ((k : Int) - 1) ∧ (∀ x ∈ (L.drop 1).take (k - 1), isApp x = true) ∧ v7 = wr) (fun _ s16 _ => N - (intOf s16).toNat)
    case atStart => exact ⟨1, by omega, by omega, rfl, rfl, fun x hx => by simp at hx, rfl⟩
    case round =>
      obtain ⟨k, hk1, hk, rfl, rfl, hall, rfl⟩ := hrel
      have HALL := Lib.hid hall
      clear hall
      have HLE := Lib.hid (show k - 1 ≤ aheadN L from ahead_le (k - 1) (by rw [List.length_drop, HN.out]; omega) HALL.out)
      have fin : ∀ _ : Unit, True := fun _ => trivial
      clear fin
      have hend : (X = l) ∨ (X ≠ l ∧ ((k : Int) - 1 < (pn : Int))) := by
        by_cases hx : X = l
        · exact .inl hx
        · refine .inr ⟨hx, ?_⟩
          by_cases hlt : pn ≤ aheadN L
          · exact absurd (Q7.out hlt) hx
          · have := HLE.out; omega
      have HEND := Lib.hid hend
      clear hend
      have k1 := Lib.hid (str_run Try.underlying22 Try.underlying5 Try.underlying9 HO7.out.sl'.2 X.length c4 rfl)
      have k2 := Lib.hid (str_run Try.underlying22 Try.underlying5 Try.underlying9 (HS.out.keep HB7.out) l.length cap rfl)
      rw [HXN.out] at k1
      by_cases hkN : k < N
      case neg =>
        obtain rfl : k = N := by omega
        rcases HEND.out with hx | ⟨hx, hlt⟩
        · subst hx
          generalize strOf X = S3 at *
          go_wp2_with fail
          rw [k1.out]
          simp only [Result.andThen]
          rw [Oper.upon_value]
          go_wp2_with fail
          rw [k2.out]
          simp only [Result.andThen]
          rw [Oper.upon_value]
          go_wp2_with fail
          refine (awake_any _).mono ?_
          rintro e w9 ⟨rfl, hb9⟩
          go_wp2_with fail
          go_ret
          exact ⟨rfl, HB7.out.trans (hb9.mono HB7.out.size)⟩
        · have q1 := str_ne HYX.out HBY.out hx
          generalize strOf X = S3 at *
          generalize strOf l = S4 at *
          go_wp2_with fail
          rw [k1.out]
          simp only [Result.andThen]
          rw [Oper.upon_value]
          go_wp2_with fail
          rw [k2.out]
          simp only [Result.andThen]
          rw [Oper.upon_value]
          go_wp2_with fail
          all_goals
            refine (awake_any _).mono ?_
            rintro e w9 ⟨rfl, hb9⟩
            go_wp2_with fail
            go_ret
            exact ⟨rfl, HB7.out.trans (hb9.mono HB7.out.size)⟩
      have i1 : (k : Int) < (N : Int) := by omega
      obtain ⟨b, off, rfl, hlt, hc⟩ := HS7.out.at_ (by rw [HN.out]; omega)
      obtain ⟨m1, d1, s1, B1, e1, B2, e2, hx, kk0, _, _, _, _, _⟩ := hc k (by rw [HN.out]; exact hkN)
      have HX1 := Lib.hid (show (L.drop 1).take k = (L.drop 1).take (k - 1) ++ [⟨m1, d1, s1⟩] by
        have := take_nextG (L := L.drop 1) (i := k - 1) (x := ⟨m1, d1, s1⟩) (by rw [List.getElem?_drop, show 1 + (k - 1) = k by omega]; exact hx)
        rwa [show k - 1 + 1 = k by omega] at this)
      clear hx hc
      go_wp2_with fail
      refine (app_any m1 _).mono ?_
      rintro e w' ⟨rfl, rfl⟩
      cases ha : appB m1 with
      | true =>
        have HA := Lib.hid ha
        clear ha k1 k2
        go_wp2_with fail
        exact ⟨⟨k + 1, by omega, by omega, rfl, congrArg (Value.int .i64) (by omega), fun x hx => by
          rw [show k + 1 - 1 = k by omega, HX1.out] at hx
          rcases List.mem_append.1 hx with h | h
          · exact HALL.out x h
          · rw [List.mem_singleton.1 h]; exact HA.out, by first | rfl | trivial⟩, by simp only [intOf]; omega⟩
      | false =>
        clear ha
        rcases HEND.out with hx | ⟨hx, hlt⟩
        · subst hx
          generalize strOf X = S3 at *
          go_wp2_with fail
          rw [k1.out]
          simp only [Result.andThen]
          rw [Oper.upon_value]
          go_wp2_with fail
          rw [k2.out]
          simp only [Result.andThen]
          rw [Oper.upon_value]
          go_wp2_with fail
          refine (awake_any _).mono ?_
          rintro e w9 ⟨rfl, hb9⟩
          go_wp2_with fail
          go_ret
          exact ⟨rfl, HB7.out.trans (hb9.mono HB7.out.size)⟩
        · have q1 := str_ne HYX.out HBY.out hx
          generalize strOf X = S3 at *
          generalize strOf l = S4 at *
          go_wp2_with fail
          rw [k1.out]
          simp only [Result.andThen]
          rw [Oper.upon_value]
          go_wp2_with fail
          rw [k2.out]
          simp only [Result.andThen]
          rw [Oper.upon_value]
          go_wp2_with fail
          all_goals
            refine (awake_any _).mono ?_
            rintro e w9 ⟨rfl, hb9⟩
            go_wp2_with fail
            go_ret
            exact ⟨rfl, HB7.out.trans (hb9.mono HB7.out.size)⟩
end Go.Proofs.Ytfohajgljjffgaa
