/- What an image is: App, image, Image. -/
import Derived.Test.YtfohajgljjffgaaMkV
import Derived.Lib.SlBytesConst
namespace Go.Proofs.Ytfohajgljjffgaa
open Go.RowKit
open Go.Tin
set_option linter.unusedVariables false
set_option linter.unusedSimpArgs false


def appB (m : Int) : Bool := decide (224 ≤ m) && decide (m < 240)
theorem app_any (m : Int) (w : World) : Calls Try.prog 11 #[.int .i64 m] w fun e w' => e = .returned (.bool (appB m)) ∧ w = w' := by
  by_cases h1 : 224 ≤ m
  · by_cases h2 : m < 240
    · have HE := Lib.hid (show appB m = true by unfold appB; rw [decide_eq_true h1, decide_eq_true h2]; rfl)
      go_enter Try.func11, Try.ntmps11
      go_wp2_with fail
      go_ret
      exact ⟨ret_bool (by rw [HE.out]), rfl⟩
    · have HE := Lib.hid (show appB m = false by unfold appB; rw [decide_eq_false h2, Bool.and_false])
      have i2 : 240 ≤ m := by omega
      clear h2
      go_enter Try.func11, Try.ntmps11
      go_wp2_with fail
      go_ret
      exact ⟨ret_bool (by rw [HE.out]; exact decide_eq_false (by omega)), rfl⟩
  · have HE := Lib.hid (show appB m = false by unfold appB; rw [decide_eq_false h1, Bool.false_and])
    have i2 : m < 224 := by omega
    clear h1
    go_enter Try.func11, Try.ntmps11
    go_wp2_with fail
    go_ret
    exact ⟨ret_bool (by rw [HE.out]), rfl⟩
theorem rapp_any (m : Int) (w : World) : Calls Try.prog 12 #[.int .i64 m] w fun e w' => e = .returned (.bool (appB m)) ∧ w = w' := by
  by_cases h1 : 224 ≤ m
  · by_cases h2 : m ≤ 239
    · have HE := Lib.hid (show appB m = true by unfold appB; rw [decide_eq_true h1, decide_eq_true (show m < 240 by omega)]; rfl)
      go_enter Try.func12, Try.ntmps12
      go_wp2_with fail
      go_ret
      exact ⟨ret_bool (by rw [HE.out]), rfl⟩
    · have HE := Lib.hid (show appB m = false by unfold appB; rw [decide_eq_false (show ¬ m < 240 by omega), Bool.and_false])
      have i2 : 239 < m := by omega
      clear h2
      go_enter Try.func12, Try.ntmps12
      go_wp2_with fail
      go_ret
      exact ⟨ret_bool (by rw [HE.out]; exact decide_eq_false (by omega)), rfl⟩
  · have HE := Lib.hid (show appB m = false by unfold appB; rw [decide_eq_false h1, Bool.false_and])
    have i2 : m < 224 := by omega
    clear h1
    go_enter Try.func12, Try.ntmps12
    go_wp2_with fail
    go_ret
    exact ⟨ret_bool (by rw [HE.out]), rfl⟩
theorem img1_any (m : Int) (A B : Option Addr) (n c p e : Nat) (w : World) : Calls Try.prog 36 #[sgA m A n c B p e] w fun en w' => en = .returned (.bool (m == 218)) ∧ Below w.heap.size w w' := by
  obtain ⟨R0, hvb, hvz⟩ := alloc1 w (.cells (srow m A n c B p e) 36)
  have k0 := row_cell (v := .int .i64 m) R0 0 rfl
  have HB := Lib.hid hvb
  clear R0 hvb hvz
  go_enter Try.func36, Try.ntmps36
  go_wp2_with fail
  go_ret
  exact ⟨rfl, HB.out⟩
theorem apps_any (m : Int) (A B : Option Addr) (n c p e : Nat) (w : World) : Calls Try.prog 26 #[sgA m A n c B p e] w fun en w' => en = .returned (.bool (appB m)) ∧ Below w.heap.size w w' := by
  obtain ⟨R0, hvb, hvz⟩ := alloc1 w (.cells (srow m A n c B p e) 36)
  have k0 := row_cell (v := .int .i64 m) R0 0 rfl
  have HB := Lib.hid hvb
  clear R0 hvb hvz
  go_enter Try.func26, Try.ntmps26
  go_wp2_with fail
  refine (app_any m _).mono ?_
  rintro en w' ⟨rfl, rfl⟩
  go_wp2_with fail
  go_ret
  exact ⟨rfl, HB.out⟩
theorem other_any (m : Int) (A B : Option Addr) (n c p e : Nat) (w : World) : Calls Try.prog 27 #[sgA m A n c B p e] w fun en w' => en = .returned (.bool (!appB m)) ∧ Below w.heap.size w w' := by
  obtain ⟨R0, hvb, hvz⟩ := alloc1 w (.cells (srow m A n c B p e) 36)
  have R := Lib.hid R0
  have HB := Lib.hid hvb
  clear R0 hvb hvz
  go_enter Try.func27, Try.ntmps27
  go_wp2_with ((with_reducible refine wpl_load_row rtS ?_ (.tmp 1) ?_ (w.heap.size) ?_ 36 (srow m A n c B p e) ?_ R.out ?_); rfl; rfl; rfl; rfl; simp only [Act.put, List.setIfInBounds_toArray, List.set_cons_succ, List.set_cons_zero])
  refine (apps_any m A B n c p e _).mono ?_
  rintro en w2 ⟨rfl, hb⟩
  go_wp2_with fail
  go_ret
  exact ⟨rfl, HB.out.trans (hb.mono HB.out.size)⟩
def sosB (s : Sg) : Bool := s.m == 218
def isApp (s : Sg) : Bool := appB s.m
def notApp (s : Sg) : Bool := !appB s.m
theorem img1q (m : Int) (A1 A2 : Option Addr) (d s : List Int) (c1 c2 : Nat) (W : World) (h1 : PtS W (.slice A1 d.length c1) d) (h2 : PtS W (.slice A2 s.length c2) s) : Calls Try.prog 36 #[sgA m A1 d.length c1 A2 s.length c2] W fun e w' => e = .returned (.bool (sosB ⟨m, d, s⟩)) ∧ Below W.heap.size W w' := img1_any m A1 A2 d.length c1 s.length c2 W
theorem appq (m : Int) (A1 A2 : Option Addr) (d s : List Int) (c1 c2 : Nat) (W : World) (h1 : PtS W (.slice A1 d.length c1) d) (h2 : PtS W (.slice A2 s.length c2) s) : Calls Try.prog 26 #[sgA m A1 d.length c1 A2 s.length c2] W fun e w' => e = .returned (.bool (isApp ⟨m, d, s⟩)) ∧ Below W.heap.size W w' := apps_any m A1 A2 d.length c1 s.length c2 W
theorem otherq (m : Int) (A1 A2 : Option Addr) (d s : List Int) (c1 c2 : Nat) (W : World) (h1 : PtS W (.slice A1 d.length c1) d) (h2 : PtS W (.slice A2 s.length c2) s) : Calls Try.prog 27 #[sgA m A1 d.length c1 A2 s.length c2] W fun e w' => e = .returned (.bool (notApp ⟨m, d, s⟩)) ∧ Below W.heap.size W w' := other_any m A1 A2 d.length c1 s.length c2 W
/-- The segments of bytes that are one image, or what is wrong. -/
def imgE (l : List Int) : Int := match ofR l with
  | .err _ q => q
  | .ok L a => if (a : Int) < l.length ∨ L.any sosB = false then 2 else 0
def imgL (l : List Int) : List Sg := match ofR l with
  | .err _ _ => []
  | .ok L a => if (a : Int) < l.length ∨ L.any sosB = false then [] else L
def ImgP (w : World) (l : List Int) (e : Ending) (w' : World) : Prop := ∃ A c xs, e = .returned (.tuple #[.slice A (imgL l).length c, .int .i64 (imgE l)]) ∧ OwnV 36 3 w' w.heap.size (.slice A (imgL l).length c) (imgL l).length xs ∧ SgV (fun v d => Own .u8 5 w' w.heap.size v d) xs (imgL l) ∧ Below w.heap.size w w'
theorem ImgP.no {w w' : World} {l : List Int} {q : Int} (hL : imgL l = []) (hE : imgE l = q) (hb : Below w.heap.size w w') : ImgP w l (.returned (.tuple #[.slice none 0 0, .int .i64 q])) w' := by
  refine ⟨none, 0, [], by rw [hL, hE]; rfl, ?_, ?_, hb⟩
  · rw [hL]; exact OwnV.nil_ _ _ _ _
  · rw [hL]; exact .nil
theorem ImgP.yes {w w' : World} {l : List Int} {L : List Sg} {A : Option Addr} {c : Nat} {xs : List Value} (hL : imgL l = L) (hE : imgE l = 0) (ho : OwnV 36 3 w' w.heap.size (.slice A L.length c) L.length xs) (hs : SgV (fun v d => Own .u8 5 w' w.heap.size v d) xs L) (hb : Below w.heap.size w w') : ImgP w l (.returned (.tuple #[.slice A L.length c, .int .i64 0])) w' := by
  subst hL
  exact ⟨A, c, xs, by rw [hE], ho, hs, hb⟩
theorem image_any (A : Option Addr) (l : List Int) (cap : Nat) (w : World) (hs : Sl .u8 w A l) (hcap : l.length ≤ cap) (hl : l.length ≤ 1000000) (hby : Byts l) :
    Calls Try.prog 23 #[.slice A l.length cap] w fun e w' => ImgP w l e w' := by
  have HBY := Lib.hid hby
  have HOF := Lib.hid (of_any A l cap w hs hcap hl hby)
  clear hs hby
  go_enter Try.func23, Try.ntmps23
  go_wp2_with fail
  refine HOF.out.mono ?_
  intro e w1 hp
  obtain ⟨r, hr⟩ : ∃ r, ofR l = r := ⟨_, rfl⟩
  rw [hr] at hp
  cases r with
  | err p q =>
    obtain ⟨rfl, hb⟩ := hp
    have hq := ofR_err hr
    have nq : (q != 0) = true := by rw [bne_iff_ne]; omega
    have HL := Lib.hid (show imgL l = [] ∧ imgE l = q by unfold imgL imgE; rw [hr]; exact ⟨rfl, rfl⟩)
    clear hr hq
    go_wp2_with fail
    go_ret2
    exact ImgP.no HL.out.1 HL.out.2 hb
  | ok L a =>
    obtain ⟨A1, c1, xs, rfl, ho, hsv, hb⟩ := hp
    have hBy := ofR_by HBY.out hl hr
    have HS := Lib.hid (SegS.own ho hsv hBy.1)
    have HO := Lib.hid ho
    have HSV := Lib.hid hsv
    have HB := Lib.hid hb
    have hL : L.length ≤ 1000000 := Nat.le_trans hBy.2.1 hl
    have HR := Lib.hid hr
    have hal := hBy.2.2
    clear ho hsv hb hBy hr
    by_cases h1 : a < l.length
    · have i1 : (a : Int) < (l.length : Int) := by omega
      have HL := Lib.hid (show imgL l = [] ∧ imgE l = 2 by unfold imgL imgE; rw [HR.out]; simp only []; rw [if_pos (.inl i1), if_pos (.inl i1)]; exact ⟨rfl, rfl⟩)
      go_wp2_with fail
      go_ret2
      exact ImgP.no HL.out.1 HL.out.2 HB.out
    have i1 : (l.length : Int) ≤ (a : Int) := by omega
    go_wp2_with fail
    refine (contains_any 36 (hcf 36 Try.f36 _ Try.func36 (by kernel_rfl) rfl) sosB _ _ L w1 HS.out hL img1q).mono ?_
    rintro e w2 ⟨rfl, hb2⟩
    have HB2 := Lib.hid (HB.out.trans (hb2.mono HB.out.size))
    cases hany : L.any sosB with
    | true =>
      have HL := Lib.hid (show imgL l = L ∧ imgE l = 0 by unfold imgL imgE; rw [HR.out]; simp only []; rw [if_neg (by rw [hany]; simp; omega), if_neg (by rw [hany]; simp; omega)]; exact ⟨rfl, rfl⟩)
      clear hany
      go_wp2_with fail
      go_ret2
      exact ImgP.yes HL.out.1 HL.out.2 (HO.out.keep hb2) (SgV.mono (fun _ _ h => h.keep hb2) HSV.out) HB2.out
    | false =>
      have HL := Lib.hid (show imgL l = [] ∧ imgE l = 2 by unfold imgL imgE; rw [HR.out]; simp only []; rw [if_pos (.inr hany), if_pos (.inr hany)]; exact ⟨rfl, rfl⟩)
      clear hany
      go_wp2_with fail
      go_ret2
      exact ImgP.no HL.out.1 HL.out.2 HB2.out
def isB (l : List Int) : Bool := imgE l == 0 && !((imgL l).any isApp)
theorem img_by {l : List Int} (hb : Byts l) (hl : l.length ≤ 1000000) : BySg (imgL l) ∧ (imgL l).length ≤ l.length ∧ (imgE l = 0 ∨ (imgE l ≠ 0 ∧ imgL l = [])) := by
  unfold imgL imgE
  cases hr : ofR l with
  | err p q =>
    have := ofR_err hr
    exact ⟨fun s hs => (by cases hs), Nat.zero_le _, .inr ⟨by show q ≠ 0; omega, rfl⟩⟩
  | ok L a =>
    have h := ofR_by hb hl hr
    simp only []
    split
    · exact ⟨fun s hs => (by cases hs), Nat.zero_le _, .inr ⟨by decide, rfl⟩⟩
    · exact ⟨h.1, h.2.1, .inl rfl⟩
theorem is_any (A : Option Addr) (l : List Int) (cap : Nat) (w : World) (hs : Sl .u8 w A l) (hcap : l.length ≤ cap) (hl : l.length ≤ 1000000) (hby : Byts l) :
    Calls Try.prog 13 #[.slice A l.length cap] w fun e w' => e = .returned (.bool (isB l)) ∧ Below w.heap.size w w' := by
  have HI := Lib.hid (image_any A l cap w hs hcap hl hby)
  have HBY := Lib.hid (img_by hby hl)
  have HE := Lib.hid (show isB l = (imgE l == 0 && !((imgL l).any isApp)) from rfl)
  clear hs hby
  go_enter Try.func13, Try.ntmps13
  go_wp2_with fail
  refine HI.out.mono ?_
  rintro e w1 ⟨A1, c1, xs, rfl, ho, hsv, hb⟩
  have HS := Lib.hid (SegS.own ho hsv HBY.out.1)
  have hL := Nat.le_trans HBY.out.2.1 hl
  clear ho hsv
  by_cases h0 : imgE l = 0
  · have e0 : (imgE l == 0) = true := by rw [h0]; rfl
    have HH := Lib.hid h0
    clear h0
    generalize imgL l = L at *
    generalize imgE l = E at *
    go_wp2_with fail
    refine (contains_any 26 (hcf 26 Try.f26 _ Try.func26 (by kernel_rfl) rfl) isApp _ _ L w1 HS.out hL appq).mono ?_
    rintro e w2 ⟨rfl, hb2⟩
    go_wp2_with fail
    go_ret
    exact ⟨ret_bool (by rw [HE.out, e0, Bool.true_and]), hb.trans (hb2.mono hb.size)⟩
  · have e0 : (imgE l == 0) = false := by simpa using h0
    clear h0
    generalize imgL l = L at *
    generalize imgE l = E at *
    go_wp2_with fail
    go_ret
    exact ⟨ret_bool (by rw [HE.out, e0]; rfl), hb⟩
end Go.Proofs.Ytfohajgljjffgaa
