/- The walk of OctetBack: a number that has bytes. -/
import Derived.Test.YtpjdhjkbfdmgpaaOcN
import Derived.Test.YtpjdhjkbfdmgpaaOcR
namespace Go.Proofs.Ytpjdhjkbfdmgpaa
open Go.RowKit
open Go.Tin
set_option linter.unusedVariables false
set_option linter.unusedSimpArgs false


theorem byts_bytesOf : ∀ (k : Nat) (n : Int), Byts (bytesOf k n)
  | 0, _ => by intro x hx; simp [bytesOf] at hx
  | k + 1, n => by
    intro x hx
    rw [bytesOf, List.mem_append] at hx
    rcases hx with h | h
    · exact byts_bytesOf k _ x h
    · obtain rfl : x = n % 256 := by simpa using h
      omega
theorem byts_put (n s o : Int) : Byts (putL n s o) := by
  unfold putL ordL
  split
  · split
    · intro x hx; exact byts_bytesOf _ _ x (List.mem_reverse.1 hx)
    · exact byts_bytesOf _ _
  · intro x hx; simp at hx

set_option maxRecDepth 100000 in
set_option maxHeartbeats 8000000 in
theorem back_yes1 (A A' : Option Addr) (l m : List Int) (c d : Nat) (n : Int) (s : Nat) (w : World) (hsl : Sl .u8 w A l) (hsm : Sl .u8 w A' m) (hbl : Byts l) (hbm : Byts m) (hl : l.length ≤ 200) (hm : m.length ≤ 200) (hy : putB n s 1 = true) :
    Calls Try.prog 5 #[.slice A l.length c, .slice A' m.length d, .int .i64 n, .int .i64 (s : Int), .int .i64 1] w fun e w' => e = .returned (.bool true) ∧ Below w.heap.size w w' := by
  have h1 : (l.length : Int) ≤ 200 := by omega
  have h2 : (m.length : Int) ≤ 200 := by omega
  obtain ⟨hs, _, n0, n1⟩ := putB_t hy
  have hs4 : s ≤ 4 := by omega
  have hs1 : 1 ≤ s := by omega
  have hsz : szB s = true := by unfold putB mayO at hy; simp only [Bool.and_eq_true] at hy; exact hy.1.1
  have hy2 : putB n s 2 = true := by unfold putB mayO at hy ⊢; simpa [orB] using hy
  have hsg : sgB n s = true := by unfold sgB; simp; omega
  have HS1 := Lib.hid (@sp1 n s)
  have HS2 := Lib.hid (@sp2 n s)
  have HP1 := Lib.hid (fun W => put_yes n s 1 W hy)
  have HP2 := Lib.hid (fun W => put_yes n s 2 W hy2)
  have HG := Lib.hid (get_put hy l m)
  have HT := Lib.hid (fun i hi => put_turn hy i hi)
  have hP : (putL n s 1).length = s := by unfold putL; rw [if_pos hy, ordL_len, bytesOf_len]; rfl
  have hR : (putL n s 2).length = s := by unfold putL; rw [if_pos hy2, ordL_len, bytesOf_len]; rfl
  have hbP : Byts (putL n s 1) := byts_put n s 1
  have hg1 : getB s 1 s 1 = false := by unfold getB; simp
  rw [show (3 : Int) - 1 = 2 by decide] at HT
  generalize putL n s 1 = P at *
  generalize putL n s 2 = R at *
  have HL := Lib.hid hP
  have HR := Lib.hid hR
  have HBP := Lib.hid hbP
  have HSL := Lib.hid hsl
  have HSM := Lib.hid hsm
  have HBA := Lib.hid (show Byts (l ++ P ++ m) by intro x hx; simp only [List.mem_append] at hx; rcases hx with (h | h) | h; exact hbl x h; exact hbP x h; exact hbm x h)
  have HSZ := Lib.hid hsz
  obtain ⟨Z, hZ⟩ : ∃ Z, Z = l ++ P ++ m := ⟨_, rfl⟩
  rw [← hZ] at HG HBA
  have HZ := Lib.hid hZ
  clear hZ
  clear hy hy2 hP hR hbP hsl hsm hbl hbm hs n0 n1 hsz
  cases hpl : plB n s
  ·
    go_enter Try.func5, Try.ntmps5
    go_wp2_with fail
    refine (HP1.out w).mono ?_
    rintro e w1 ⟨A1, c1, rfl, ho1, hB⟩
    have S1 := Lib.hid ho1.sl'.2
    have hC := brefl w1
    clear ho1
    go_wp2_with fail
    refine (HP2.out w1).mono ?_
    rintro e w2 ⟨A2, c2, rfl, ho2, hb⟩
    have S2 := Lib.hid ho2.sl'.2
    replace S1 := Lib.hid (S1.out.keep hb)
    replace hB := bt hB hb
    clear hb ho2 hC
    go_wp2_with fail
    have hC := brefl w2
    refine (signed_any n s w2).mono ?_
    rw [hsg]
    rintro e w3 ⟨rfl, hb⟩
    replace hC := bt hC hb
    clear hb
    go_wp2_with fail
    refine (plain_any (sgN n s) s _).mono ?_
    rw [(HS1.out hsg).1, (HS1.out hsg).2]
    rintro e w4 ⟨rfl, hb⟩
    replace hC := bt hC hb
    clear hb
    go_wp2_with fail
    refine (plain_any n s _).mono ?_
    rw [hpl]
    rintro e w5 ⟨rfl, hb⟩
    replace hC := bt hC hb
    clear hb
    go_wp2_with fail
    refine (own_any A l c w5 (HSL.out.keep (bt hB hC)) (by omega)).mono ?_
    rintro e w6 ⟨A6, c6, rfl, ho6, hb6⟩
    have HO6 := Lib.hid ho6
    clear ho6
    have S15 := Lib.hid (S1.out.keep hC)
    have S25 := Lib.hid (S2.out.keep hC)
    have HM5 := Lib.hid (HSM.out.keep (bt hB hC))
    have hB5 := bt hB hC
    clear S1 S2 HSM HSL hB hC
    go_wp2_with (first | (at_builtin; refine Tin.wpl_app bt5 _ rfl (.tmp 102) (.tmp 103) rfl w5.heap.size _ l rfl HO6.out A1 s c1 P rfl (S15.out.keep hb6) HL.out.symm (by rw [HL.out]; omega) (by rw [HL.out]; omega) hb6.size ?_; intro v7 w7 ho7 hg7 how7; have hb7 := HO6.out.grown hb6 hb6.size hg7; have HM7 := Lib.hid (HM5.out.keep hb7); have hz7 := hb7.size) | (at_builtin; refine Tin.wpl_app bt5 _ rfl (.tmp 104) (.tmp 105) rfl w5.heap.size v7 (l ++ P) rfl ho7 A' m.length d m rfl HM7.out rfl (by rw [List.length_append, HL.out]; omega) (by rw [List.length_append, HL.out]; omega) hz7 ?_; intro v8 w8 ho8 hg8 how8; have hb8 := Own.grown ho7 hb7 hz7 hg8; rw [← HZ.out] at ho8; obtain ⟨A8, c8, rfl⟩ := own_form ho8; clear ho7 hg7 how7 hg8 how8 HM7 HO6 hb7 hb6))
    have S8 := Lib.hid ho8.sl'.2
    clear ho8
    refine (get_any A8 Z c8 l.length s 1 w8 S8.out (by rw [HZ.out]; simp [HL.out]; omega) HBA.out).mono ?_
    rw [HG.out.1, HG.out.2]
    rintro e w9 ⟨rfl, hb9⟩
    replace hb8 := bt hb8 hb9
    clear hb9 S8
    go_wp2_with fail
    have S19 := Lib.hid (S15.out.keep hb8)
    have S29 := Lib.hid (S25.out.keep hb8)
    replace hB5 := bt hB5 hb8
    clear S15 S25 hb8 HM5
    go_loopw [26] (fun s26 wr => ∃ i : Nat, i ≤ s ∧ s26 = .int .i64 (i : Int) ∧ Below w9.heap.size w9 wr) (fun s26 _ => s - (intOf s26).toNat)
    case atStart => exact ⟨0, by omega, rfl, brefl w9⟩
    case round =>
      obtain ⟨i, hi, rfl, hb⟩ := hrel
      by_cases his : i < s
      · have i1 : (i : Int) < (s : Int) := by omega
        have e1 : (s : Int) - 1 - (i : Int) = ((s - 1 - i : Nat) : Int) := by omega
        obtain ⟨b, off, rfl, hlt, hcell⟩ := (S19.out.keep hb).at_ (by rw [HL.out]; omega)
        obtain ⟨b', off', rfl, hlt', hcell'⟩ := (S29.out.keep hb).at_ (by rw [HR.out]; omega)
        have k0 : wr.cell? ⟨b, off + i, none⟩ = some (.int .u8 (nth P i)) := hcell i (by rw [HL.out]; omega)
        have k1 : wr.cell? ⟨b', off' + (s - 1 - i), none⟩ = some (.int .u8 (nth R (s - 1 - i))) := hcell' (s - 1 - i) (by rw [HR.out]; omega)
        rw [← HT.out i his] at k1
        have q0 : ∀ p : Bel wr.heap.size wr.drew, p.w'.cell? ⟨b, off + i, none⟩ = some (.int .u8 (nth P i)) := fun p => (p.h.cell (p := ⟨b, off + i, none⟩) hlt).trans k0
        have q1 : ∀ p : Bel wr.heap.size wr.drew, p.w'.cell? ⟨b', off' + (s - 1 - i), none⟩ = some (.int .u8 (nth P i)) := fun p => (p.h.cell (p := ⟨b', off' + (s - 1 - i), none⟩) hlt').trans k1
        clear hcell hcell' k0 k1
        go_wp2_with fail
        refine Tin.reg_begin wr.heap.size 12 (by rfl) (by kernel_rfl) ?_
        refine Tin.reg_quiets [0, 1, 2, 3, 4, 5, 6, 7, 8, 9, 10, 11] _ 0 rfl (by simp only [Tin.pick, List.map_cons, List.map_nil, Array.getD_eq_getD_getElem?, List.getElem?_toArray, List.getElem?_cons_zero, List.getElem?_cons_succ, Option.getD_some]; rfl) (by kernel_rfl) (by kernel_rfl) ?_
        repeat (first | go_big_quiet_step (fail))
        refine wpQuiet_nil ?_
        refine Tin.reg_done (by kernel_rfl) ?_
        go_wp2_with fail
        go_roundw
        case rel => exact ⟨i + 1, by omega, by go_num, hb.drew⟩
        case measure => simp [intOf]; omega
      · have i1 : (s : Int) ≤ (i : Int) := by omega
        go_wp2_with fail
        have hg := get_any A1 P c1 1 s 1 wr (S19.out.keep hb) (by rw [HL.out]; omega) HBP.out
        rw [HL.out, hg1] at hg
        refine hg.mono ?_
        clear hg
        rintro e w10 ⟨rfl, hb10⟩
        go_wp2_with fail
        refine (awake_any _).mono ?_
        rintro e w11 ⟨rfl, hb11⟩
        go_wp2_with fail
        go_ret
        exact ⟨rfl, bt (bt (bt hB5 hb) hb10) hb11⟩

  ·
    go_enter Try.func5, Try.ntmps5
    go_wp2_with fail
    refine (HP1.out w).mono ?_
    rintro e w1 ⟨A1, c1, rfl, ho1, hB⟩
    have S1 := Lib.hid ho1.sl'.2
    have hC := brefl w1
    clear ho1
    go_wp2_with fail
    refine (HP2.out w1).mono ?_
    rintro e w2 ⟨A2, c2, rfl, ho2, hb⟩
    have S2 := Lib.hid ho2.sl'.2
    replace S1 := Lib.hid (S1.out.keep hb)
    replace hB := bt hB hb
    clear hb ho2 hC
    go_wp2_with fail
    have hC := brefl w2
    refine (signed_any n s w2).mono ?_
    rw [hsg]
    rintro e w3 ⟨rfl, hb⟩
    replace hC := bt hC hb
    clear hb
    go_wp2_with fail
    refine (plain_any (sgN n s) s _).mono ?_
    rw [(HS1.out hsg).1, (HS1.out hsg).2]
    rintro e w4 ⟨rfl, hb⟩
    replace hC := bt hC hb
    clear hb
    go_wp2_with fail
    refine (plain_any n s _).mono ?_
    rw [hpl]
    rintro e w5 ⟨rfl, hb⟩
    replace hC := bt hC hb
    clear hb
    go_wp2_with fail
    refine (signed_any (plN n s) s _).mono ?_
    rw [(HS2.out hpl).1, (HS2.out hpl).2]
    rintro e w5 ⟨rfl, hb⟩
    replace hC := bt hC hb
    clear hb
    go_wp2_with fail
    refine (own_any A l c w5 (HSL.out.keep (bt hB hC)) (by omega)).mono ?_
    rintro e w6 ⟨A6, c6, rfl, ho6, hb6⟩
    have HO6 := Lib.hid ho6
    clear ho6
    have S15 := Lib.hid (S1.out.keep hC)
    have S25 := Lib.hid (S2.out.keep hC)
    have HM5 := Lib.hid (HSM.out.keep (bt hB hC))
    have hB5 := bt hB hC
    clear S1 S2 HSM HSL hB hC
    go_wp2_with (first | (at_builtin; refine Tin.wpl_app bt5 _ rfl (.tmp 102) (.tmp 103) rfl w5.heap.size _ l rfl HO6.out A1 s c1 P rfl (S15.out.keep hb6) HL.out.symm (by rw [HL.out]; omega) (by rw [HL.out]; omega) hb6.size ?_; intro v7 w7 ho7 hg7 how7; have hb7 := HO6.out.grown hb6 hb6.size hg7; have HM7 := Lib.hid (HM5.out.keep hb7); have hz7 := hb7.size) | (at_builtin; refine Tin.wpl_app bt5 _ rfl (.tmp 104) (.tmp 105) rfl w5.heap.size v7 (l ++ P) rfl ho7 A' m.length d m rfl HM7.out rfl (by rw [List.length_append, HL.out]; omega) (by rw [List.length_append, HL.out]; omega) hz7 ?_; intro v8 w8 ho8 hg8 how8; have hb8 := Own.grown ho7 hb7 hz7 hg8; rw [← HZ.out] at ho8; obtain ⟨A8, c8, rfl⟩ := own_form ho8; clear ho7 hg7 how7 hg8 how8 HM7 HO6 hb7 hb6))
    have S8 := Lib.hid ho8.sl'.2
    clear ho8
    refine (get_any A8 Z c8 l.length s 1 w8 S8.out (by rw [HZ.out]; simp [HL.out]; omega) HBA.out).mono ?_
    rw [HG.out.1, HG.out.2]
    rintro e w9 ⟨rfl, hb9⟩
    replace hb8 := bt hb8 hb9
    clear hb9 S8
    go_wp2_with fail
    have S19 := Lib.hid (S15.out.keep hb8)
    have S29 := Lib.hid (S25.out.keep hb8)
    replace hB5 := bt hB5 hb8
    clear S15 S25 hb8 HM5
    go_loopw [26] (fun s26 wr => ∃ i : Nat, i ≤ s ∧ s26 = .int .i64 (i : Int) ∧ Below w9.heap.size w9 wr) (fun s26 _ => s - (intOf s26).toNat)
    case atStart => exact ⟨0, by omega, rfl, brefl w9⟩
    case round =>
      obtain ⟨i, hi, rfl, hb⟩ := hrel
      by_cases his : i < s
      · have i1 : (i : Int) < (s : Int) := by omega
        have e1 : (s : Int) - 1 - (i : Int) = ((s - 1 - i : Nat) : Int) := by omega
        obtain ⟨b, off, rfl, hlt, hcell⟩ := (S19.out.keep hb).at_ (by rw [HL.out]; omega)
        obtain ⟨b', off', rfl, hlt', hcell'⟩ := (S29.out.keep hb).at_ (by rw [HR.out]; omega)
        have k0 : wr.cell? ⟨b, off + i, none⟩ = some (.int .u8 (nth P i)) := hcell i (by rw [HL.out]; omega)
        have k1 : wr.cell? ⟨b', off' + (s - 1 - i), none⟩ = some (.int .u8 (nth R (s - 1 - i))) := hcell' (s - 1 - i) (by rw [HR.out]; omega)
        rw [← HT.out i his] at k1
        have q0 : ∀ p : Bel wr.heap.size wr.drew, p.w'.cell? ⟨b, off + i, none⟩ = some (.int .u8 (nth P i)) := fun p => (p.h.cell (p := ⟨b, off + i, none⟩) hlt).trans k0
        have q1 : ∀ p : Bel wr.heap.size wr.drew, p.w'.cell? ⟨b', off' + (s - 1 - i), none⟩ = some (.int .u8 (nth P i)) := fun p => (p.h.cell (p := ⟨b', off' + (s - 1 - i), none⟩) hlt').trans k1
        clear hcell hcell' k0 k1
        go_wp2_with fail
        refine Tin.reg_begin wr.heap.size 12 (by rfl) (by kernel_rfl) ?_
        refine Tin.reg_quiets [0, 1, 2, 3, 4, 5, 6, 7, 8, 9, 10, 11] _ 0 rfl (by simp only [Tin.pick, List.map_cons, List.map_nil, Array.getD_eq_getD_getElem?, List.getElem?_toArray, List.getElem?_cons_zero, List.getElem?_cons_succ, Option.getD_some]; rfl) (by kernel_rfl) (by kernel_rfl) ?_
        repeat (first | go_big_quiet_step (fail))
        refine wpQuiet_nil ?_
        refine Tin.reg_done (by kernel_rfl) ?_
        go_wp2_with fail
        go_roundw
        case rel => exact ⟨i + 1, by omega, by go_num, hb.drew⟩
        case measure => simp [intOf]; omega
      · have i1 : (s : Int) ≤ (i : Int) := by omega
        go_wp2_with fail
        have hg := get_any A1 P c1 1 s 1 wr (S19.out.keep hb) (by rw [HL.out]; omega) HBP.out
        rw [HL.out, hg1] at hg
        refine hg.mono ?_
        clear hg
        rintro e w10 ⟨rfl, hb10⟩
        go_wp2_with fail
        refine (awake_any _).mono ?_
        rintro e w11 ⟨rfl, hb11⟩
        go_wp2_with fail
        go_ret
        exact ⟨rfl, bt (bt (bt hB5 hb) hb10) hb11⟩



set_option maxRecDepth 100000 in
set_option maxHeartbeats 8000000 in
theorem back_yes2 (A A' : Option Addr) (l m : List Int) (c d : Nat) (n : Int) (s : Nat) (w : World) (hsl : Sl .u8 w A l) (hsm : Sl .u8 w A' m) (hbl : Byts l) (hbm : Byts m) (hl : l.length ≤ 200) (hm : m.length ≤ 200) (hy : putB n s 2 = true) :
    Calls Try.prog 5 #[.slice A l.length c, .slice A' m.length d, .int .i64 n, .int .i64 (s : Int), .int .i64 2] w fun e w' => e = .returned (.bool true) ∧ Below w.heap.size w w' := by
  have h1 : (l.length : Int) ≤ 200 := by omega
  have h2 : (m.length : Int) ≤ 200 := by omega
  obtain ⟨hs, _, n0, n1⟩ := putB_t hy
  have hs4 : s ≤ 4 := by omega
  have hs1 : 1 ≤ s := by omega
  have hsz : szB s = true := by unfold putB mayO at hy; simp only [Bool.and_eq_true] at hy; exact hy.1.1
  have hy2 : putB n s 1 = true := by unfold putB mayO at hy ⊢; simpa [orB] using hy
  have hsg : sgB n s = true := by unfold sgB; simp; omega
  have HS1 := Lib.hid (@sp1 n s)
  have HS2 := Lib.hid (@sp2 n s)
  have HP1 := Lib.hid (fun W => put_yes n s 2 W hy)
  have HP2 := Lib.hid (fun W => put_yes n s 1 W hy2)
  have HG := Lib.hid (get_put hy l m)
  have HT := Lib.hid (fun i hi => put_turn hy i hi)
  have hP : (putL n s 2).length = s := by unfold putL; rw [if_pos hy, ordL_len, bytesOf_len]; rfl
  have hR : (putL n s 1).length = s := by unfold putL; rw [if_pos hy2, ordL_len, bytesOf_len]; rfl
  have hbP : Byts (putL n s 2) := byts_put n s 2
  have hg1 : getB s 1 s 2 = false := by unfold getB; simp
  rw [show (3 : Int) - 2 = 1 by decide] at HT
  generalize putL n s 2 = P at *
  generalize putL n s 1 = R at *
  have HL := Lib.hid hP
  have HR := Lib.hid hR
  have HBP := Lib.hid hbP
  have HSL := Lib.hid hsl
  have HSM := Lib.hid hsm
  have HBA := Lib.hid (show Byts (l ++ P ++ m) by intro x hx; simp only [List.mem_append] at hx; rcases hx with (h | h) | h; exact hbl x h; exact hbP x h; exact hbm x h)
  have HSZ := Lib.hid hsz
  obtain ⟨Z, hZ⟩ : ∃ Z, Z = l ++ P ++ m := ⟨_, rfl⟩
  rw [← hZ] at HG HBA
  have HZ := Lib.hid hZ
  clear hZ
  clear hy hy2 hP hR hbP hsl hsm hbl hbm hs n0 n1 hsz
  cases hpl : plB n s
  ·
    go_enter Try.func5, Try.ntmps5
    go_wp2_with fail
    refine (HP1.out w).mono ?_
    rintro e w1 ⟨A1, c1, rfl, ho1, hB⟩
    have S1 := Lib.hid ho1.sl'.2
    have hC := brefl w1
    clear ho1
    go_wp2_with fail
    refine (HP2.out w1).mono ?_
    rintro e w2 ⟨A2, c2, rfl, ho2, hb⟩
    have S2 := Lib.hid ho2.sl'.2
    replace S1 := Lib.hid (S1.out.keep hb)
    replace hB := bt hB hb
    clear hb ho2 hC
    go_wp2_with fail
    have hC := brefl w2
    refine (signed_any n s w2).mono ?_
    rw [hsg]
    rintro e w3 ⟨rfl, hb⟩
    replace hC := bt hC hb
    clear hb
    go_wp2_with fail
    refine (plain_any (sgN n s) s _).mono ?_
    rw [(HS1.out hsg).1, (HS1.out hsg).2]
    rintro e w4 ⟨rfl, hb⟩
    replace hC := bt hC hb
    clear hb
    go_wp2_with fail
    refine (plain_any n s _).mono ?_
    rw [hpl]
    rintro e w5 ⟨rfl, hb⟩
    replace hC := bt hC hb
    clear hb
    go_wp2_with fail
    refine (own_any A l c w5 (HSL.out.keep (bt hB hC)) (by omega)).mono ?_
    rintro e w6 ⟨A6, c6, rfl, ho6, hb6⟩
    have HO6 := Lib.hid ho6
    clear ho6
    have S15 := Lib.hid (S1.out.keep hC)
    have S25 := Lib.hid (S2.out.keep hC)
    have HM5 := Lib.hid (HSM.out.keep (bt hB hC))
    have hB5 := bt hB hC
    clear S1 S2 HSM HSL hB hC
    go_wp2_with (first | (at_builtin; refine Tin.wpl_app bt5 _ rfl (.tmp 102) (.tmp 103) rfl w5.heap.size _ l rfl HO6.out A1 s c1 P rfl (S15.out.keep hb6) HL.out.symm (by rw [HL.out]; omega) (by rw [HL.out]; omega) hb6.size ?_; intro v7 w7 ho7 hg7 how7; have hb7 := HO6.out.grown hb6 hb6.size hg7; have HM7 := Lib.hid (HM5.out.keep hb7); have hz7 := hb7.size) | (at_builtin; refine Tin.wpl_app bt5 _ rfl (.tmp 104) (.tmp 105) rfl w5.heap.size v7 (l ++ P) rfl ho7 A' m.length d m rfl HM7.out rfl (by rw [List.length_append, HL.out]; omega) (by rw [List.length_append, HL.out]; omega) hz7 ?_; intro v8 w8 ho8 hg8 how8; have hb8 := Own.grown ho7 hb7 hz7 hg8; rw [← HZ.out] at ho8; obtain ⟨A8, c8, rfl⟩ := own_form ho8; clear ho7 hg7 how7 hg8 how8 HM7 HO6 hb7 hb6))
    have S8 := Lib.hid ho8.sl'.2
    clear ho8
    refine (get_any A8 Z c8 l.length s 2 w8 S8.out (by rw [HZ.out]; simp [HL.out]; omega) HBA.out).mono ?_
    rw [HG.out.1, HG.out.2]
    rintro e w9 ⟨rfl, hb9⟩
    replace hb8 := bt hb8 hb9
    clear hb9 S8
    go_wp2_with fail
    have S19 := Lib.hid (S15.out.keep hb8)
    have S29 := Lib.hid (S25.out.keep hb8)
    replace hB5 := bt hB5 hb8
    clear S15 S25 hb8 HM5
    go_loopw [26] (fun s26 wr => ∃ i : Nat, i ≤ s ∧ s26 = .int .i64 (i : Int) ∧ Below w9.heap.size w9 wr) (fun s26 _ => s - (intOf s26).toNat)
    case atStart => exact ⟨0, by omega, rfl, brefl w9⟩
    case round =>
      obtain ⟨i, hi, rfl, hb⟩ := hrel
      by_cases his : i < s
      · have i1 : (i : Int) < (s : Int) := by omega
        have e1 : (s : Int) - 1 - (i : Int) = ((s - 1 - i : Nat) : Int) := by omega
        obtain ⟨b, off, rfl, hlt, hcell⟩ := (S19.out.keep hb).at_ (by rw [HL.out]; omega)
        obtain ⟨b', off', rfl, hlt', hcell'⟩ := (S29.out.keep hb).at_ (by rw [HR.out]; omega)
        have k0 : wr.cell? ⟨b, off + i, none⟩ = some (.int .u8 (nth P i)) := hcell i (by rw [HL.out]; omega)
        have k1 : wr.cell? ⟨b', off' + (s - 1 - i), none⟩ = some (.int .u8 (nth R (s - 1 - i))) := hcell' (s - 1 - i) (by rw [HR.out]; omega)
        rw [← HT.out i his] at k1
        have q0 : ∀ p : Bel wr.heap.size wr.drew, p.w'.cell? ⟨b, off + i, none⟩ = some (.int .u8 (nth P i)) := fun p => (p.h.cell (p := ⟨b, off + i, none⟩) hlt).trans k0
        have q1 : ∀ p : Bel wr.heap.size wr.drew, p.w'.cell? ⟨b', off' + (s - 1 - i), none⟩ = some (.int .u8 (nth P i)) := fun p => (p.h.cell (p := ⟨b', off' + (s - 1 - i), none⟩) hlt').trans k1
        clear hcell hcell' k0 k1
        go_wp2_with fail
        refine Tin.reg_begin wr.heap.size 12 (by rfl) (by kernel_rfl) ?_
        refine Tin.reg_quiets [0, 1, 2, 3, 4, 5, 6, 7, 8, 9, 10, 11] _ 0 rfl (by simp only [Tin.pick, List.map_cons, List.map_nil, Array.getD_eq_getD_getElem?, List.getElem?_toArray, List.getElem?_cons_zero, List.getElem?_cons_succ, Option.getD_some]; rfl) (by kernel_rfl) (by kernel_rfl) ?_
        repeat (first | go_big_quiet_step (fail))
        refine wpQuiet_nil ?_
        refine Tin.reg_done (by kernel_rfl) ?_
        go_wp2_with fail
        go_roundw
        case rel => exact ⟨i + 1, by omega, by go_num, hb.drew⟩
        case measure => simp [intOf]; omega
      · have i1 : (s : Int) ≤ (i : Int) := by omega
        go_wp2_with fail
        have hg := get_any A1 P c1 1 s 2 wr (S19.out.keep hb) (by rw [HL.out]; omega) HBP.out
        rw [HL.out, hg1] at hg
        refine hg.mono ?_
        clear hg
        rintro e w10 ⟨rfl, hb10⟩
        go_wp2_with fail
        refine (awake_any _).mono ?_
        rintro e w11 ⟨rfl, hb11⟩
        go_wp2_with fail
        go_ret
        exact ⟨rfl, bt (bt (bt hB5 hb) hb10) hb11⟩

  ·
    go_enter Try.func5, Try.ntmps5
    go_wp2_with fail
    refine (HP1.out w).mono ?_
    rintro e w1 ⟨A1, c1, rfl, ho1, hB⟩
    have S1 := Lib.hid ho1.sl'.2
    have hC := brefl w1
    clear ho1
    go_wp2_with fail
    refine (HP2.out w1).mono ?_
    rintro e w2 ⟨A2, c2, rfl, ho2, hb⟩
    have S2 := Lib.hid ho2.sl'.2
    replace S1 := Lib.hid (S1.out.keep hb)
    replace hB := bt hB hb
    clear hb ho2 hC
    go_wp2_with fail
    have hC := brefl w2
    refine (signed_any n s w2).mono ?_
    rw [hsg]
    rintro e w3 ⟨rfl, hb⟩
    replace hC := bt hC hb
    clear hb
    go_wp2_with fail
    refine (plain_any (sgN n s) s _).mono ?_
    rw [(HS1.out hsg).1, (HS1.out hsg).2]
    rintro e w4 ⟨rfl, hb⟩
    replace hC := bt hC hb
    clear hb
    go_wp2_with fail
    refine (plain_any n s _).mono ?_
    rw [hpl]
    rintro e w5 ⟨rfl, hb⟩
    replace hC := bt hC hb
    clear hb
    go_wp2_with fail
    refine (signed_any (plN n s) s _).mono ?_
    rw [(HS2.out hpl).1, (HS2.out hpl).2]
    rintro e w5 ⟨rfl, hb⟩
    replace hC := bt hC hb
    clear hb
    go_wp2_with fail
    refine (own_any A l c w5 (HSL.out.keep (bt hB hC)) (by omega)).mono ?_
    rintro e w6 ⟨A6, c6, rfl, ho6, hb6⟩
    have HO6 := Lib.hid ho6
    clear ho6
    have S15 := Lib.hid (S1.out.keep hC)
    have S25 := Lib.hid (S2.out.keep hC)
    have HM5 := Lib.hid (HSM.out.keep (bt hB hC))
    have hB5 := bt hB hC
    clear S1 S2 HSM HSL hB hC
    go_wp2_with (first | (at_builtin; refine Tin.wpl_app bt5 _ rfl (.tmp 102) (.tmp 103) rfl w5.heap.size _ l rfl HO6.out A1 s c1 P rfl (S15.out.keep hb6) HL.out.symm (by rw [HL.out]; omega) (by rw [HL.out]; omega) hb6.size ?_; intro v7 w7 ho7 hg7 how7; have hb7 := HO6.out.grown hb6 hb6.size hg7; have HM7 := Lib.hid (HM5.out.keep hb7); have hz7 := hb7.size) | (at_builtin; refine Tin.wpl_app bt5 _ rfl (.tmp 104) (.tmp 105) rfl w5.heap.size v7 (l ++ P) rfl ho7 A' m.length d m rfl HM7.out rfl (by rw [List.length_append, HL.out]; omega) (by rw [List.length_append, HL.out]; omega) hz7 ?_; intro v8 w8 ho8 hg8 how8; have hb8 := Own.grown ho7 hb7 hz7 hg8; rw [← HZ.out] at ho8; obtain ⟨A8, c8, rfl⟩ := own_form ho8; clear ho7 hg7 how7 hg8 how8 HM7 HO6 hb7 hb6))
    have S8 := Lib.hid ho8.sl'.2
    clear ho8
    refine (get_any A8 Z c8 l.length s 2 w8 S8.out (by rw [HZ.out]; simp [HL.out]; omega) HBA.out).mono ?_
    rw [HG.out.1, HG.out.2]
    rintro e w9 ⟨rfl, hb9⟩
    replace hb8 := bt hb8 hb9
    clear hb9 S8
    go_wp2_with fail
    have S19 := Lib.hid (S15.out.keep hb8)
    have S29 := Lib.hid (S25.out.keep hb8)
    replace hB5 := bt hB5 hb8
    clear S15 S25 hb8 HM5
    go_loopw [26] (fun s26 wr => ∃ i : Nat, i ≤ s ∧ s26 = .int .i64 (i : Int) ∧ Below w9.heap.size w9 wr) (fun s26 _ => s - (intOf s26).toNat)
    case atStart => exact ⟨0, by omega, rfl, brefl w9⟩
    case round =>
      obtain ⟨i, hi, rfl, hb⟩ := hrel
      by_cases his : i < s
      · have i1 : (i : Int) < (s : Int) := by omega
        have e1 : (s : Int) - 1 - (i : Int) = ((s - 1 - i : Nat) : Int) := by omega
        obtain ⟨b, off, rfl, hlt, hcell⟩ := (S19.out.keep hb).at_ (by rw [HL.out]; omega)
        obtain ⟨b', off', rfl, hlt', hcell'⟩ := (S29.out.keep hb).at_ (by rw [HR.out]; omega)
        have k0 : wr.cell? ⟨b, off + i, none⟩ = some (.int .u8 (nth P i)) := hcell i (by rw [HL.out]; omega)
        have k1 : wr.cell? ⟨b', off' + (s - 1 - i), none⟩ = some (.int .u8 (nth R (s - 1 - i))) := hcell' (s - 1 - i) (by rw [HR.out]; omega)
        rw [← HT.out i his] at k1
        have q0 : ∀ p : Bel wr.heap.size wr.drew, p.w'.cell? ⟨b, off + i, none⟩ = some (.int .u8 (nth P i)) := fun p => (p.h.cell (p := ⟨b, off + i, none⟩) hlt).trans k0
        have q1 : ∀ p : Bel wr.heap.size wr.drew, p.w'.cell? ⟨b', off' + (s - 1 - i), none⟩ = some (.int .u8 (nth P i)) := fun p => (p.h.cell (p := ⟨b', off' + (s - 1 - i), none⟩) hlt').trans k1
        clear hcell hcell' k0 k1
        go_wp2_with fail
        refine Tin.reg_begin wr.heap.size 12 (by rfl) (by kernel_rfl) ?_
        refine Tin.reg_quiets [0, 1, 2, 3, 4, 5, 6, 7, 8, 9, 10, 11] _ 0 rfl (by simp only [Tin.pick, List.map_cons, List.map_nil, Array.getD_eq_getD_getElem?, List.getElem?_toArray, List.getElem?_cons_zero, List.getElem?_cons_succ, Option.getD_some]; rfl) (by kernel_rfl) (by kernel_rfl) ?_
        repeat (first | go_big_quiet_step (fail))
        refine wpQuiet_nil ?_
        refine Tin.reg_done (by kernel_rfl) ?_
        go_wp2_with fail
        go_roundw
        case rel => exact ⟨i + 1, by omega, by go_num, hb.drew⟩
        case measure => simp [intOf]; omega
      · have i1 : (s : Int) ≤ (i : Int) := by omega
        go_wp2_with fail
        have hg := get_any A1 P c1 1 s 2 wr (S19.out.keep hb) (by rw [HL.out]; omega) HBP.out
        rw [HL.out, hg1] at hg
        refine hg.mono ?_
        clear hg
        rintro e w10 ⟨rfl, hb10⟩
        go_wp2_with fail
        refine (awake_any _).mono ?_
        rintro e w11 ⟨rfl, hb11⟩
        go_wp2_with fail
        go_ret
        exact ⟨rfl, bt (bt (bt hB5 hb) hb10) hb11⟩



set_option maxRecDepth 100000 in
theorem back_any (A : Option Addr) (len cap : Nat) (zs : List Int) (A' : Option Addr) (len' cap' : Nat) (zs' : List Int) (n s o : Int) (w : World) (hr : IsRow .u8 w A len cap zs) (hr' : IsRow .u8 w A' len' cap' zs') (wn : (Lit.int .i64 n).wf = true) (wsz : (Lit.int .i64 s).wf = true) (wo : (Lit.int .i64 o).wf = true) :
    Calls Try.prog 5 #[.slice A len cap, .slice A' len' cap', .int .i64 n, .int .i64 s, .int .i64 o] w fun e w' => e = .returned (.bool true) ∧ Below w.heap.size w w' := by
  obtain ⟨hs, hlen, hlc, hcm, hwf⟩ := Sl.of_row hr
  have hby := byts_wf hwf
  generalize zs.take len = l at *
  subst hlen
  obtain ⟨hs', hlen', hlc', hcm', hwf'⟩ := Sl.of_row hr'
  have hby' := byts_wf hwf'
  generalize zs'.take len' = m at *
  subst hlen'
  clear hwf hr hlc wsz wo hwf' hr' hlc' wn
  unfold maxLen at hcm hcm'
  by_cases h1 : 200 < l.length
  · have h3 : (200 : Int) < (l.length : Int) := by omega
    clear hs hby hs' hby'
    go_enter Try.func5, Try.ntmps5
    go_wp2_with fail
    refine (awake_any w).mono ?_
    rintro e w1 ⟨rfl, hb⟩
    go_wp2_with fail
    go_ret
    exact ⟨rfl, hb⟩
  by_cases h2 : 200 < m.length
  · have h3 : (l.length : Int) ≤ 200 := by omega
    have h4 : (200 : Int) < (m.length : Int) := by omega
    clear hs hby hs' hby'
    go_enter Try.func5, Try.ntmps5
    go_wp2_with fail
    refine (awake_any w).mono ?_
    rintro e w1 ⟨rfl, hb⟩
    go_wp2_with fail
    go_ret
    exact ⟨rfl, hb⟩
  by_cases h : putB n s o = true
  · obtain ⟨hz, ho, _⟩ := putB_t h
    obtain ⟨s, rfl⟩ := Int.eq_ofNat_of_zero_le (show 0 ≤ s by omega)
    rcases ho with rfl | rfl
    · exact back_yes1 A A' l m cap cap' n s w hs hs' hby hby' (by omega) (by omega) h
    · exact back_yes2 A A' l m cap cap' n s w hs hs' hby hby' (by omega) (by omega) h
  · exact back_no A A' l m cap cap' n s o w (by omega) (by omega) (by simpa using h)
end Go.Proofs.Ytpjdhjkbfdmgpaa
