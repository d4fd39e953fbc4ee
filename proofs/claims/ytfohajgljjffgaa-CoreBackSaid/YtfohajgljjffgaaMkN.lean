/- Whether segments may be. -/
import Derived.Test.YtfohajgljjffgaaMkL
namespace Go.Proofs.Ytfohajgljjffgaa
open Go.RowKit
open Go.Tin
set_option linter.unusedVariables false
set_option linter.unusedSimpArgs false


def okAt (n i : Nat) (s : Sg) : Bool := if i = 0 then bareB s 216 else if i + 1 = n then bareB s 217 else rightB s
def mayF (n : Nat) : Nat → List Sg → Bool
  | _, [] => true
  | i, s :: L => okAt n i s && mayF n (i + 1) L
def mayB (L : List Sg) : Bool := decide (2 ≤ L.length) && mayF L.length 0 L
theorem mayF_end (y : Sg) (n : Nat) : ∀ (M : List Sg) (i : Nat), 0 < i → i + M.length + 1 = n → mayF n i (M ++ [y]) = (bareB y 217 && !(M.any fun s => !rightB s))
  | [], i, h0, hn => by
    simp only [List.length_nil, Nat.add_zero] at hn
    simp [mayF, okAt, Nat.ne_of_gt h0, hn]
  | x :: M, i, h0, hn => by
    simp only [List.length_cons] at hn
    have ih := mayF_end y n M (i + 1) (by omega) (by omega)
    simp only [List.cons_append, mayF, okAt, if_neg (Nat.ne_of_gt h0), if_neg (show ¬ i + 1 = n by omega), ih, List.any_cons, Bool.not_or, Bool.not_not]
    cases rightB x <;> cases bareB y 217 <;> rfl
theorem may_split {L : List Sg} {n : Nat} (hn : L.length = n + 1) (h1 : 1 ≤ n) {x y : Sg} (hx : L[0]? = some x) (hy : L[n]? = some y) : mayB L = (bareB x 216 && (bareB y 217 && !(((L.drop 1).take (n - 1)).any fun s => !rightB s))) := by
  cases L with
  | nil => simp at hn
  | cons x' T =>
    obtain rfl : x' = x := by simpa using hx
    have hT : T.length = n := by simpa using hn
    have hyT : T[n - 1]? = some y := by
      obtain ⟨k, rfl⟩ : ∃ k, n = k + 1 := ⟨n - 1, by omega⟩
      simpa using hy
    have hsp : T = T.take (n - 1) ++ [y] := by
      have h2 := List.take_append_drop (n - 1) T
      have h3 : T.drop (n - 1) = [y] := by
        rw [List.drop_eq_getElem_cons (by omega), List.drop_eq_nil_of_le (by omega)]
        rw [List.getElem?_eq_getElem (by omega)] at hyT
        rw [Option.some.inj hyT]
      rw [h3] at h2
      exact h2.symm
    have h2 : decide (2 ≤ (x' :: T).length) = true := decide_eq_true (by simp; omega)
    unfold mayB
    rw [h2, Bool.true_and, hn]
    simp only [mayF, okAt, if_true, List.drop_succ_cons, List.drop_zero]
    conv => lhs; rw [hsp]
    rw [mayF_end y (n + 1) (T.take (n - 1)) (0 + 1) (by omega) (by rw [List.length_take]; omega)]
theorem mayF_drop {L : List Sg} (n : Nat) {i : Nat} {x : Sg} (h : L[i]? = some x) : mayF n i (L.drop i) = (okAt n i x && mayF n (i + 1) (L.drop (i + 1))) := by
  have hi := (List.getElem?_eq_some_iff.1 h).1
  rw [List.drop_eq_getElem_cons hi]
  rw [List.getElem?_eq_getElem hi] at h
  rw [Option.some.inj h]
  rfl
theorem sz3 (w : World) : (sizeOf 36).run Try.prog w = .ok 3 w := by kernel_rfl
theorem mayfq (m : Int) (A1 A2 : Option Addr) (d s : List Int) (c1 c2 : Nat) (W : World) (h1 : PtS W (.slice A1 d.length c1) d) (h2 : PtS W (.slice A2 s.length c2) s) : Calls Try.prog 51 #[sgA m A1 d.length c1 A2 s.length c2] W fun e w' => e = .returned (.bool ((fun s => !rightB s) ⟨m, d, s⟩)) ∧ Below W.heap.size W w' :=
  mayf_any m A1 A2 d s c1 c2 W h1.sl.2.2.2.2 h2.sl.2.1 h2.sl.2.2.2.2 h2.sl.2.2.2.1
set_option maxRecDepth 100000 in
set_option maxHeartbeats 8000000 in
theorem gmay_any (A : Option Addr) (c : Nat) (L : List Sg) (w : World) (hs : SegS w A L) (hn : L.length ≤ 1000000) (hc : L.length ≤ c) :
    Calls Try.prog 37 #[.slice A L.length c] w fun e w' => e = .returned (.bool (mayB L)) ∧ Below w.heap.size w w' := by
  by_cases h2 : L.length < 2
  · have HE := Lib.hid (show mayB L = false by unfold mayB; rw [decide_eq_false (by omega)]; rfl)
    have i1 : (L.length : Int) - 1 < 1 := by omega
    go_enter Try.func37, Try.ntmps37
    go_wp2_with fail
    go_ret
    exact ⟨ret_bool (by rw [HE.out]), Below.refl _ _⟩
  obtain ⟨n, hL⟩ : ∃ n, L.length = n + 1 := ⟨L.length - 1, by omega⟩
  have h1 : 1 ≤ n := by omega
  obtain ⟨b, off, rfl, hlt, hat⟩ := hs.at_ (by omega)
  obtain ⟨m1, d1, s1, B1, e1, B2, e2, hx, _, _, _, rg1, hp1, hp2⟩ := hat 0 (by omega)
  obtain ⟨m2, d2, s2, C1, f1, C2, f2, hy, _, _, _, rg2, hq1, hq2⟩ := hat n (by omega)
  have HM := Lib.hid (may_split hL h1 hx hy)
  have HS := Lib.hid hs
  have RG1 := Lib.hid rg1
  have RG2 := Lib.hid rg2
  have HL := Lib.hid hL
  have l1 := hp1.sl.2.2.2.2
  have l2 := hp2.sl.2.2.2.2
  have l3 := hq1.sl.2.2.2.2
  have l4 := hq2.sl.2.2.2.2
  have hbt : (decide (1 ≤ (n : Int))) = true := decide_eq_true (by omega)
  rw [hL] at hn hc ⊢
  clear hx hy rg1 rg2 hp1 hp2 hq1 hq2 hat hs hL h2
  have HX1 := Lib.hid (show bareB ⟨m1, d1, s1⟩ 216 = (m1 == 216 && decide (d1.length + s1.length = 0)) from rfl)
  have HX2 := Lib.hid (show bareB ⟨m2, d2, s2⟩ 217 = (m2 == 217 && decide (d2.length + s2.length = 0)) from rfl)
  have e9 : ((n + 1 : Nat) : Int) - 1 = (n : Int) := by omega
  go_enter Try.func37, Try.ntmps37
  go_wp2_with ((with_reducible refine wpl_loadv rtS ?_ (.tmp 11) ?_ b off ?_ [.int .i64 m1, .slice B1 d1.length e1, .slice B2 s1.length e2] ?_ (by have := RG1.out; simpa using this) ?_); rfl; rfl; rfl; rfl; simp only [Act.put, List.setIfInBounds_toArray, List.set_cons_succ, List.set_cons_zero])
  refine (bare_any m1 216 B1 B2 d1.length e1 s1.length e2 _ (by omega) (by omega)).mono ?_
  rintro e v1 ⟨rfl, hb1⟩
  rw [← HX1.out]
  cases hb : bareB ⟨m1, d1, s1⟩ 216 with
  | false =>
    have HE := Lib.hid (show mayB L = false by rw [HM.out, hb]; rfl)
    clear hb
    go_wp2_with fail
    go_ret
    exact ⟨ret_bool (by rw [HE.out]), hb1⟩
  | true =>
    have HB := Lib.hid hb1
    have HM2 := Lib.hid (show mayB L = _ by rw [HM.out, hb, Bool.true_and])
    replace RG2 := Lib.hid (show v1.rangeAt b (off + n * 3) _ from fun j v hj => (hb1.cell (p := ⟨b, off + n * 3 + j, none⟩) hlt).trans (RG2.out j v hj))
    replace HS := Lib.hid (HS.out.keep hb1)
    clear hb hb1 HM
    go_wp2_with ((with_reducible refine wpl_loadv rtS ?_ (.tmp 18) ?_ b (off + n * 3) ?_ [.int .i64 m2, .slice C1 d2.length f1, .slice C2 s2.length f2] ?_ RG2.out ?_); rfl; rfl; rfl; rfl; simp only [Act.put, List.setIfInBounds_toArray, List.set_cons_succ, List.set_cons_zero])
    refine (bare_any m2 217 C1 C2 d2.length f1 s2.length f2 _ (by omega) (by omega)).mono ?_
    rintro e v2 ⟨rfl, hb2⟩
    rw [← HX2.out]
    cases hb : bareB ⟨m2, d2, s2⟩ 217 with
    | false =>
      have HE := Lib.hid (show mayB L = false by rw [HM2.out, hb]; rfl)
      clear hb
      go_wp2_with fail
      go_ret
      exact ⟨ret_bool (by rw [HE.out]), HB.out.trans (hb2.mono HB.out.size)⟩
    | true =>
      have HM3 := Lib.hid (show mayB L = _ by rw [HM2.out, hb, Bool.true_and])
      replace HS := Lib.hid (HS.out.keep hb2)
      replace HB := Lib.hid (HB.out.trans (hb2.mono HB.out.size))
      clear hb hb2 HM2
      obtain ⟨M, hM⟩ : ∃ M, (L.drop 1).take (n - 1) = M := ⟨_, rfl⟩
      have HML := Lib.hid (show n - 1 = M.length by rw [← hM, List.length_take, List.length_drop, HL.out]; omega)
      have HSM := Lib.hid (show SegS v2 (cutA (some ⟨b, off, none⟩) c 1 3) M by rw [← hM]; exact (HS.out.cutA (by rw [HL.out]; exact hc) 1).take _)
      rw [hM] at HM3
      clear hM
      go_wp2_with ((with_reducible refine Tin.wpl_cut (P := Try.prog) (e := 36) (s := 3) Try.underlying27 sz3 ?_ (.tmp 23) (.const (.int .i64 1)) (.tmp 24) ?_ (some ⟨b, off, none⟩) (n + 1) c 1 n 1 (n : Int) ?_ ?_ ?_ ?_ ?_ ?_ ?_ ?_); rfl; rfl; rfl; rfl; rfl; rfl; rfl; omega; omega; simp only [Act.put, List.setIfInBounds_toArray, List.set_cons_succ, List.set_cons_zero])
      rw [HML.out]
      refine (contains_any 51 (hcf 51 Try.f51 _ Try.func51 (by kernel_rfl) rfl) (fun s => !rightB s) _ _ M _ HSM.out (by rw [← HML.out]; omega) mayfq).mono ?_
      rintro e v3 ⟨rfl, hb3⟩
      go_wp2_with fail
      go_ret
      exact ⟨ret_bool (by rw [HM3.out]), HB.out.trans (hb3.mono HB.out.size)⟩

set_option maxRecDepth 100000 in
set_option maxHeartbeats 16000000 in
theorem rgmay_any (A : Option Addr) (c : Nat) (L : List Sg) (w : World) (hs : SegS w A L) (hn : L.length ≤ 1000000) :
    Calls Try.prog 32 #[.slice A L.length c] w fun e w' => e = .returned (.bool (mayB L)) ∧ Below w.heap.size w w' := by
  by_cases h2 : L.length < 2
  · have HE := Lib.hid (show mayB L = false by unfold mayB; rw [decide_eq_false (by omega)]; rfl)
    have i1 : (L.length : Int) < 2 := by omega
    go_enter Try.func32, Try.ntmps32
    go_wp2_with fail
    go_ret
    exact ⟨ret_bool (by rw [HE.out]), Below.refl _ _⟩
  have i1 : 2 ≤ (L.length : Int) := by omega
  have HS := Lib.hid hs
  have HML := Lib.hid (show mayB L = mayF L.length 0 L by unfold mayB; rw [decide_eq_true (by omega)]; rfl)
  clear hs
  obtain ⟨N, hN⟩ : ∃ N, L.length = N := ⟨_, rfl⟩
  rw [hN] at hn h2 i1 HML ⊢
  have HN := Lib.hid hN
  clear hN
  go_enter Try.func32, Try.ntmps32
  go_wp2_with fail
  clear i1
  go_loopw [3] (fun s3 wr => ∃ i : Nat, i ≤ N ∧ s3 = .int .i64 (i : Int) ∧ mayB L = mayF N i (L.drop i) ∧ Below w.heap.size w wr) (fun s3 _ => N - (intOf s3).toNat)
  case atStart => exact ⟨0, by omega, rfl, by rw [HML.out]; rfl, Below.refl _ _⟩
  case round =>
    obtain ⟨i, hi, rfl, hmf, hb⟩ := hrel
    have HF := Lib.hid hmf
    have HB := Lib.hid hb
    clear hmf hb
    by_cases hil : i < N
    case neg =>
      obtain rfl : i = N := by omega
      have HE := Lib.hid (show mayB L = true by rw [HF.out, List.drop_eq_nil_of_le (Nat.le_of_eq HN.out)]; rfl)
      go_wp2_with fail
      go_ret
      exact ⟨ret_bool (by rw [HE.out]), HB.out⟩
    have i1 : (i : Int) < (N : Int) := by omega
    obtain ⟨b, off, rfl, hlt, hat⟩ := (HS.out.keep HB.out).at_ (by rw [HN.out]; omega)
    obtain ⟨m1, d1, s1, B1, e1, B2, e2, hx, _, _, _, hrg, hp1, hp2⟩ := hat i (by rw [HN.out]; omega)
    have RG := Lib.hid hrg
    have HFX := Lib.hid (mayF_drop N hx)
    have HNO := Lib.hid (show okAt N i ⟨m1, d1, s1⟩ = false → mayB L = false from fun h => by rw [HF.out, mayF_drop N hx, h]; rfl)
    have HYES := Lib.hid (show okAt N i ⟨m1, d1, s1⟩ = true → mayB L = mayF N (i + 1) (L.drop (i + 1)) from fun h => by rw [HF.out, mayF_drop N hx, h]; rfl)
    obtain ⟨R0, hvb, hvz⟩ := alloc1 wr (.cells (srow m1 B1 d1.length e1 B2 s1.length e2) 36)
    have l1 := hp1.sl.2.2.2.2
    have l2 := hp2.sl.2.2.2.2
    have HYS := Lib.hid hp2.sl.2.2.2.1
    have HB2 := Lib.hid (HB.out.trans (hvb.mono HB.out.size))
    by_cases h0 : i = 0
    · have HO9 := Lib.hid (show okAt N i ⟨m1, d1, s1⟩ = bareB ⟨m1, d1, s1⟩ 216 by unfold okAt; rw [if_pos h0])
      have e0 : ((i : Int) == 0) = true := by rw [h0]; rfl
      have e1' : (i : Int) ≤ 0 := by omega
      have k0 := row_cell (v := .int .i64 m1) R0 0 rfl
      have k1 := row_cell (v := .slice B1 d1.length e1) R0 1 rfl
      have k2 := row_cell (v := .slice B2 s1.length e2) R0 2 rfl
      clear R0 hvb hvz hp1 hp2 hat hx hrg h0
      by_cases hm : m1 = 216
      case neg =>
        have n1 : (m1 != 216) = true := by rw [bne_iff_ne]; exact hm
        have HOK := Lib.hid (show okAt N i ⟨m1, d1, s1⟩ = false by rw [HO9.out]; unfold bareB; rw [show (m1 == 216) = false by simpa using hm]; rfl)
        clear hm
        go_wp2_with ((with_reducible refine wpl_loadv rtS ?_ (.tmp 17) ?_ b (off + i * 3) ?_ [.int .i64 m1, .slice B1 d1.length e1, .slice B2 s1.length e2] ?_ RG.out ?_); rfl; rfl; rfl; rfl; simp only [Act.put, List.setIfInBounds_toArray, List.set_cons_succ, List.set_cons_zero])
        go_ret
        exact ⟨ret_bool (by rw [HNO.out (by rw [HOK.out])]), HB2.out⟩
      subst hm
      by_cases hd : 0 < d1.length
      · have j1 : decide ((0 : Int) < (d1.length : Int)) = true := decide_eq_true (by omega)
        have HOK := Lib.hid (show okAt N i ⟨216, d1, s1⟩ = false by rw [HO9.out]; unfold bareB; rw [decide_eq_false (show ¬ d1.length + s1.length = 0 by omega)]; rfl)
        go_wp2_with ((with_reducible refine wpl_loadv rtS ?_ (.tmp 17) ?_ b (off + i * 3) ?_ [.int .i64 m1, .slice B1 d1.length e1, .slice B2 s1.length e2] ?_ RG.out ?_); rfl; rfl; rfl; rfl; simp only [Act.put, List.setIfInBounds_toArray, List.set_cons_succ, List.set_cons_zero])
        go_ret
        exact ⟨ret_bool (by rw [HNO.out (by rw [HOK.out])]), HB2.out⟩
      obtain rfl : d1 = [] := List.eq_nil_of_length_eq_zero (by omega)
      clear hd
      by_cases hs1 : 0 < s1.length
      · have j2 : decide ((0 : Int) < (s1.length : Int)) = true := decide_eq_true (by omega)
        have HOK := Lib.hid (show okAt N i ⟨216, [], s1⟩ = false by rw [HO9.out]; unfold bareB; rw [decide_eq_false (show ¬ ([] : List Int).length + s1.length = 0 by rw [List.length_nil]; omega)]; rfl)
        go_wp2_with ((with_reducible refine wpl_loadv rtS ?_ (.tmp 17) ?_ b (off + i * 3) ?_ [.int .i64 m1, .slice B1 d1.length e1, .slice B2 s1.length e2] ?_ RG.out ?_); rfl; rfl; rfl; rfl; simp only [Act.put, List.setIfInBounds_toArray, List.set_cons_succ, List.set_cons_zero])
        go_ret
        exact ⟨ret_bool (by rw [HNO.out (by rw [HOK.out])]), HB2.out⟩
      obtain rfl : s1 = [] := List.eq_nil_of_length_eq_zero (by omega)
      clear hs1
      have HOK := Lib.hid (show okAt N i ⟨216, [], []⟩ = true by rw [HO9.out]; rfl)
      go_wp2_with ((with_reducible refine wpl_loadv rtS ?_ (.tmp 17) ?_ b (off + i * 3) ?_ [.int .i64 m1, .slice B1 d1.length e1, .slice B2 s1.length e2] ?_ RG.out ?_); rfl; rfl; rfl; rfl; simp only [Act.put, List.setIfInBounds_toArray, List.set_cons_succ, List.set_cons_zero])
      exact ⟨⟨i + 1, by omega, rfl, HYES.out (by rw [HOK.out]), HB2.out⟩, by simp only [intOf]; omega⟩
    have e0 : ((i : Int) == 0) = false := by rw [beq_eq_false_iff_ne]; omega
    have e1' : 0 < (i : Int) := by omega
    by_cases hl : i + 1 = N
    · have HO9 := Lib.hid (show okAt N i ⟨m1, d1, s1⟩ = bareB ⟨m1, d1, s1⟩ 217 by unfold okAt; rw [if_neg h0, if_pos hl])
      have e2' : ((i : Int) == (N : Int) - 1) = true := by rw [beq_iff_eq]; omega
      have k0 := row_cell (v := .int .i64 m1) R0 0 rfl
      have k1 := row_cell (v := .slice B1 d1.length e1) R0 1 rfl
      have k2 := row_cell (v := .slice B2 s1.length e2) R0 2 rfl
      clear R0 hvb hvz hp1 hp2 hat hx hrg h0 hl
      by_cases hm : m1 = 217
      case neg =>
        have n1 : (m1 != 217) = true := by rw [bne_iff_ne]; exact hm
        have HOK := Lib.hid (show okAt N i ⟨m1, d1, s1⟩ = false by rw [HO9.out]; unfold bareB; rw [show (m1 == 217) = false by simpa using hm]; rfl)
        clear hm
        go_wp2_with ((with_reducible refine wpl_loadv rtS ?_ (.tmp 17) ?_ b (off + i * 3) ?_ [.int .i64 m1, .slice B1 d1.length e1, .slice B2 s1.length e2] ?_ RG.out ?_); rfl; rfl; rfl; rfl; simp only [Act.put, List.setIfInBounds_toArray, List.set_cons_succ, List.set_cons_zero])
        go_ret
        exact ⟨ret_bool (by rw [HNO.out (by rw [HOK.out])]), HB2.out⟩
      subst hm
      by_cases hd : 0 < d1.length
      · have j1 : decide ((0 : Int) < (d1.length : Int)) = true := decide_eq_true (by omega)
        have HOK := Lib.hid (show okAt N i ⟨217, d1, s1⟩ = false by rw [HO9.out]; unfold bareB; rw [decide_eq_false (show ¬ d1.length + s1.length = 0 by omega)]; rfl)
        go_wp2_with ((with_reducible refine wpl_loadv rtS ?_ (.tmp 17) ?_ b (off + i * 3) ?_ [.int .i64 m1, .slice B1 d1.length e1, .slice B2 s1.length e2] ?_ RG.out ?_); rfl; rfl; rfl; rfl; simp only [Act.put, List.setIfInBounds_toArray, List.set_cons_succ, List.set_cons_zero])
        go_ret
        exact ⟨ret_bool (by rw [HNO.out (by rw [HOK.out])]), HB2.out⟩
      obtain rfl : d1 = [] := List.eq_nil_of_length_eq_zero (by omega)
      clear hd
      by_cases hs1 : 0 < s1.length
      · have j2 : decide ((0 : Int) < (s1.length : Int)) = true := decide_eq_true (by omega)
        have HOK := Lib.hid (show okAt N i ⟨217, [], s1⟩ = false by rw [HO9.out]; unfold bareB; rw [decide_eq_false (show ¬ ([] : List Int).length + s1.length = 0 by rw [List.length_nil]; omega)]; rfl)
        go_wp2_with ((with_reducible refine wpl_loadv rtS ?_ (.tmp 17) ?_ b (off + i * 3) ?_ [.int .i64 m1, .slice B1 d1.length e1, .slice B2 s1.length e2] ?_ RG.out ?_); rfl; rfl; rfl; rfl; simp only [Act.put, List.setIfInBounds_toArray, List.set_cons_succ, List.set_cons_zero])
        go_ret
        exact ⟨ret_bool (by rw [HNO.out (by rw [HOK.out])]), HB2.out⟩
      obtain rfl : s1 = [] := List.eq_nil_of_length_eq_zero (by omega)
      clear hs1
      have HOK := Lib.hid (show okAt N i ⟨217, [], []⟩ = true by rw [HO9.out]; rfl)
      go_wp2_with ((with_reducible refine wpl_loadv rtS ?_ (.tmp 17) ?_ b (off + i * 3) ?_ [.int .i64 m1, .slice B1 d1.length e1, .slice B2 s1.length e2] ?_ RG.out ?_); rfl; rfl; rfl; rfl; simp only [Act.put, List.setIfInBounds_toArray, List.set_cons_succ, List.set_cons_zero])
      exact ⟨⟨i + 1, by omega, rfl, HYES.out (by rw [HOK.out]), HB2.out⟩, by simp only [intOf]; omega⟩
    have e2' : ((i : Int) == (N : Int) - 1) = false := by rw [beq_eq_false_iff_ne]; omega
    have HO9 := Lib.hid (show okAt N i ⟨m1, d1, s1⟩ = rightB ⟨m1, d1, s1⟩ by unfold okAt; rw [if_neg h0, if_neg hl])
    obtain ⟨W, hW⟩ : ∃ W, W = (wr.alloc (.cells (srow m1 B1 d1.length e1 B2 s1.length e2) 36)).drew := ⟨_, rfl⟩
    have HSZ : wr.heap.size + 1 ≤ W.heap.size := by rw [hW]; show wr.heap.size + 1 ≤ (wr.alloc _).heap.size; omega
    have R := Lib.hid (show W.heap[wr.heap.size]? = some (.cells (srow m1 B1 d1.length e1 B2 s1.length e2) 36 (0, 0)) by rw [hW]; exact R0)
    have HSS := Lib.hid (show Sl .u8 W B2 s1 by rw [hW]; exact hp2.sl.2.1.keep (ud' hvb))
    replace HB2 := Lib.hid (show Below w.heap.size w W by rw [hW]; exact ud' HB2.out)
    have k0 : ∀ p : Bel (wr.heap.size + 1) W, p.w'.cell? ⟨wr.heap.size, 0, none⟩ = some (.int .i64 m1) := fun p => row_cell ((p.h.block _ (by omega)).trans R.out) 0 rfl
    have k1 : ∀ p : Bel (wr.heap.size + 1) W, p.w'.cell? ⟨wr.heap.size, 1, none⟩ = some (.slice B1 d1.length e1) := fun p => row_cell ((p.h.block _ (by omega)).trans R.out) 1 rfl
    have k2 : ∀ p : Bel (wr.heap.size + 1) W, p.w'.cell? ⟨wr.heap.size, 2, none⟩ = some (.slice B2 s1.length e2) := fun p => row_cell ((p.h.block _ (by omega)).trans R.out) 2 rfl
    clear R0 hvb hvz hp1 hp2 hat hx hrg h0 hl
    have HR := Lib.hid (show rightB ⟨m1, d1, s1⟩ = (hdB m1 && (decide (d1.length ≤ 65533) && (decide (s1.length = 0) || (m1 == 218 && decide (scL s1 = s1.length))))) from rfl)
    go_wp2_with ((with_reducible refine wpl_loadv rtS ?_ (.tmp 17) ?_ b (off + i * 3) ?_ [.int .i64 m1, .slice B1 d1.length e1, .slice B2 s1.length e2] ?_ RG.out ?_); rfl; rfl; rfl; rfl; simp only [Act.put, List.setIfInBounds_toArray, List.set_cons_succ, List.set_cons_zero])
    refine Tin.reg_begin (wr.heap.size + 1) 30 (by rfl) (by kernel_rfl) ?_
    rw [← hW]
    clear hW
    cases hh : hdB m1 with
    | false =>
      have HH := Lib.hid hh
      clear hh
      have HOK := Lib.hid (show okAt N i ⟨m1, d1, s1⟩ = false by rw [HO9.out, HR.out, HH.out]; rfl)
      refine Tin.reg_quiets [0, 1] _ 28 rfl (by simp only [Tin.pick, List.map_cons, List.map_nil, Array.getD_eq_getD_getElem?, List.getElem?_toArray, List.getElem?_cons_zero, List.getElem?_cons_succ, Option.getD_some]; rfl) (by kernel_rfl) (by kernel_rfl) ?_
      repeat (first | go_big_quiet_step (fail))
      refine wpQuiet_nil ?_
      refine Tin.reg_one 2 _ rfl (by kernel_rfl) ?_
      try simp only [List.getElem_toArray, List.getElem_cons_succ, List.getElem_cons_zero]
      go_wp2_with fail
      refine (rhd_any m1 _).mono ?_
      rintro en w2 ⟨rfl, rfl⟩
      rw [HH.out]
      go_wp2_with fail
      refine ⟨wr.heap.size + 1, Below.refl _ _, Nat.le_refl _, ?_⟩
      refine Tin.reg_quiets [3, 4, 5, 6, 7, 8, 9, 10, 11, 12, 13, 14, 15, 16, 17, 18, 19, 20, 21, 22, 23, 25, 26, 27] _ 3 rfl (by simp only [Tin.pick, List.map_cons, List.map_nil, Array.getD_eq_getD_getElem?, List.getElem?_toArray, List.getElem?_cons_zero, List.getElem?_cons_succ, Option.getD_some]; rfl) (by kernel_rfl) (by kernel_rfl) ?_
      repeat (first | go_big_quiet_step (fail))
      refine wpQuiet_nil ?_
      refine Tin.reg_one 24 _ rfl (by kernel_rfl) ?_
      try simp only [List.getElem_toArray, List.getElem_cons_succ, List.getElem_cons_zero]
      go_wp2_with fail
      refine ⟨wr.heap.size + 1, Below.refl _ _, Nat.le_refl _, ?_⟩
      refine Tin.reg_quiets [28, 29] _ 0 rfl (by simp only [Tin.pick, List.map_cons, List.map_nil, Array.getD_eq_getD_getElem?, List.getElem?_toArray, List.getElem?_cons_zero, List.getElem?_cons_succ, Option.getD_some]; rfl) (by kernel_rfl) (by kernel_rfl) ?_
      repeat (first | go_big_quiet_step (fail))
      refine wpQuiet_nil ?_
      refine Tin.reg_done (by kernel_rfl) ?_
      go_wp2_with fail
      go_ret
      exact ⟨ret_bool (by rw [HNO.out (by rw [HOK.out])]), HB2.out⟩
    | true =>
      have HH := Lib.hid hh
      clear hh
      by_cases h1 : d1.length ≤ 65533
      case neg =>
        have j1 : decide ((65533 : Int) < (d1.length : Int)) = true := decide_eq_true (by omega)
        have HOK := Lib.hid (show okAt N i ⟨m1, d1, s1⟩ = false by rw [HO9.out, HR.out, HH.out, decide_eq_false h1]; rfl)
        clear h1
        refine Tin.reg_quiets [0, 1] _ 28 rfl (by simp only [Tin.pick, List.map_cons, List.map_nil, Array.getD_eq_getD_getElem?, List.getElem?_toArray, List.getElem?_cons_zero, List.getElem?_cons_succ, Option.getD_some]; rfl) (by kernel_rfl) (by kernel_rfl) ?_
        repeat (first | go_big_quiet_step (fail))
        refine wpQuiet_nil ?_
        refine Tin.reg_one 2 _ rfl (by kernel_rfl) ?_
        try simp only [List.getElem_toArray, List.getElem_cons_succ, List.getElem_cons_zero]
        go_wp2_with fail
        refine (rhd_any m1 _).mono ?_
        rintro en w2 ⟨rfl, rfl⟩
        rw [HH.out]
        go_wp2_with fail
        refine ⟨wr.heap.size + 1, Below.refl _ _, Nat.le_refl _, ?_⟩
        refine Tin.reg_quiets [3, 4, 5, 6, 7, 8, 9, 10, 11, 12, 13, 14, 15, 16, 17, 18, 19, 20, 21, 22, 23, 25, 26, 27] _ 3 rfl (by simp only [Tin.pick, List.map_cons, List.map_nil, Array.getD_eq_getD_getElem?, List.getElem?_toArray, List.getElem?_cons_zero, List.getElem?_cons_succ, Option.getD_some]; rfl) (by kernel_rfl) (by kernel_rfl) ?_
        repeat (first | go_big_quiet_step (fail))
        refine wpQuiet_nil ?_
        refine Tin.reg_one 24 _ rfl (by kernel_rfl) ?_
        try simp only [List.getElem_toArray, List.getElem_cons_succ, List.getElem_cons_zero]
        go_wp2_with fail
        refine ⟨wr.heap.size + 1, Below.refl _ _, Nat.le_refl _, ?_⟩
        refine Tin.reg_quiets [28, 29] _ 0 rfl (by simp only [Tin.pick, List.map_cons, List.map_nil, Array.getD_eq_getD_getElem?, List.getElem?_toArray, List.getElem?_cons_zero, List.getElem?_cons_succ, Option.getD_some]; rfl) (by kernel_rfl) (by kernel_rfl) ?_
        repeat (first | go_big_quiet_step (fail))
        refine wpQuiet_nil ?_
        refine Tin.reg_done (by kernel_rfl) ?_
        go_wp2_with fail
        go_ret
        exact ⟨ret_bool (by rw [HNO.out (by rw [HOK.out])]), HB2.out⟩
      have j1 : decide ((65533 : Int) < (d1.length : Int)) = false := decide_eq_false (by omega)
      have H1 := Lib.hid h1
      clear h1
      by_cases h2 : s1.length = 0
      · obtain rfl : s1 = [] := List.eq_nil_of_length_eq_zero h2
        have HOK := Lib.hid (show okAt N i ⟨m1, d1, []⟩ = true by rw [HO9.out, HR.out, HH.out, decide_eq_true H1.out]; rfl)
        have hs0 := rscan_any B2 [] e2 W HSS.out (by decide) HYS.out
        rw [show ([] : List Int).length = 0 from rfl, show (scL [] : Int) = 0 from rfl] at hs0
        have HS0 := Lib.hid hs0
        clear h2 hs0
        refine Tin.reg_quiets [0, 1] _ 28 rfl (by simp only [Tin.pick, List.map_cons, List.map_nil, Array.getD_eq_getD_getElem?, List.getElem?_toArray, List.getElem?_cons_zero, List.getElem?_cons_succ, Option.getD_some]; rfl) (by kernel_rfl) (by kernel_rfl) ?_
        repeat (first | go_big_quiet_step (fail))
        refine wpQuiet_nil ?_
        refine Tin.reg_one 2 _ rfl (by kernel_rfl) ?_
        try simp only [List.getElem_toArray, List.getElem_cons_succ, List.getElem_cons_zero]
        go_wp2_with fail
        refine (rhd_any m1 _).mono ?_
        rintro en w2 ⟨rfl, rfl⟩
        rw [HH.out]
        go_wp2_with fail
        refine ⟨wr.heap.size + 1, Below.refl _ _, Nat.le_refl _, ?_⟩
        refine Tin.reg_quiets [3, 4, 5, 6, 7, 8, 9, 10, 11, 12, 13, 14, 15, 16, 17, 18, 19, 20, 21, 22, 23, 25, 26, 27] _ 3 rfl (by simp only [Tin.pick, List.map_cons, List.map_nil, Array.getD_eq_getD_getElem?, List.getElem?_toArray, List.getElem?_cons_zero, List.getElem?_cons_succ, Option.getD_some]; rfl) (by kernel_rfl) (by kernel_rfl) ?_
        repeat (first | go_big_quiet_step (fail))
        refine wpQuiet_nil ?_
        refine Tin.reg_one 24 _ rfl (by kernel_rfl) ?_
        try simp only [List.getElem_toArray, List.getElem_cons_succ, List.getElem_cons_zero]
        go_wp2_with fail
        refine HS0.out.mono ?_
        rintro en w3 ⟨rfl, hb3⟩
        go_wp2_with fail
        refine ⟨wr.heap.size + 1, hb3.mono HSZ, Nat.le_refl _, ?_⟩
        replace HB2 := Lib.hid (HB2.out.trans (hb3.mono HB2.out.size))
        clear hb3
        refine Tin.reg_quiets [28, 29] _ 0 rfl (by simp only [Tin.pick, List.map_cons, List.map_nil, Array.getD_eq_getD_getElem?, List.getElem?_toArray, List.getElem?_cons_zero, List.getElem?_cons_succ, Option.getD_some]; rfl) (by kernel_rfl) (by kernel_rfl) ?_
        repeat (first | go_big_quiet_step (fail))
        refine wpQuiet_nil ?_
        refine Tin.reg_done (by kernel_rfl) ?_
        go_wp2_with fail
        exact ⟨⟨i + 1, by omega, rfl, HYES.out (by rw [HOK.out]), HB2.out⟩, by simp only [intOf]; omega⟩
      have j2 : decide ((0 : Int) < (s1.length : Int)) = true := decide_eq_true (by omega)
      have j2' : 0 < s1.length := by omega
      have H2 := Lib.hid (decide_eq_false h2)
      clear h2
      by_cases h3 : m1 = 218
      case neg =>
        have n3 : (m1 != 218) = true := by rw [bne_iff_ne]; exact h3
        have HOK := Lib.hid (show okAt N i ⟨m1, d1, s1⟩ = false by rw [HO9.out, HR.out, HH.out, decide_eq_true H1.out, H2.out, show (m1 == 218) = false by simpa using h3]; rfl)
        clear h3
        refine Tin.reg_quiets [0, 1] _ 28 rfl (by simp only [Tin.pick, List.map_cons, List.map_nil, Array.getD_eq_getD_getElem?, List.getElem?_toArray, List.getElem?_cons_zero, List.getElem?_cons_succ, Option.getD_some]; rfl) (by kernel_rfl) (by kernel_rfl) ?_
        repeat (first | go_big_quiet_step (fail))
        refine wpQuiet_nil ?_
        refine Tin.reg_one 2 _ rfl (by kernel_rfl) ?_
        try simp only [List.getElem_toArray, List.getElem_cons_succ, List.getElem_cons_zero]
        go_wp2_with fail
        refine (rhd_any m1 _).mono ?_
        rintro en w2 ⟨rfl, rfl⟩
        rw [HH.out]
        go_wp2_with fail
        refine ⟨wr.heap.size + 1, Below.refl _ _, Nat.le_refl _, ?_⟩
        refine Tin.reg_quiets [3, 4, 5, 6, 7, 8, 9, 10, 11, 12, 13, 14, 15, 16, 17, 18, 19, 20, 21, 22, 23, 25, 26, 27] _ 3 rfl (by simp only [Tin.pick, List.map_cons, List.map_nil, Array.getD_eq_getD_getElem?, List.getElem?_toArray, List.getElem?_cons_zero, List.getElem?_cons_succ, Option.getD_some]; rfl) (by kernel_rfl) (by kernel_rfl) ?_
        repeat (first | go_big_quiet_step (fail))
        refine wpQuiet_nil ?_
        refine Tin.reg_one 24 _ rfl (by kernel_rfl) ?_
        try simp only [List.getElem_toArray, List.getElem_cons_succ, List.getElem_cons_zero]
        go_wp2_with fail
        refine ⟨wr.heap.size + 1, Below.refl _ _, Nat.le_refl _, ?_⟩
        refine Tin.reg_quiets [28, 29] _ 0 rfl (by simp only [Tin.pick, List.map_cons, List.map_nil, Array.getD_eq_getD_getElem?, List.getElem?_toArray, List.getElem?_cons_zero, List.getElem?_cons_succ, Option.getD_some]; rfl) (by kernel_rfl) (by kernel_rfl) ?_
        repeat (first | go_big_quiet_step (fail))
        refine wpQuiet_nil ?_
        refine Tin.reg_done (by kernel_rfl) ?_
        go_wp2_with fail
        go_ret
        exact ⟨ret_bool (by rw [HNO.out (by rw [HOK.out])]), HB2.out⟩
      have n3 : (m1 != 218) = false := by rw [h3]; rfl
      have n4 : (m1 == 218) = true := by rw [h3]; rfl
      clear h3
      by_cases h4 : scL s1 = s1.length
      · have H4 := Lib.hid h4
        have HOK := Lib.hid (show okAt N i ⟨m1, d1, s1⟩ = true by rw [HO9.out, HR.out, HH.out, decide_eq_true H1.out, H2.out, n4, decide_eq_true h4]; rfl)
        clear h4 n4
        refine Tin.reg_quiets [0, 1] _ 28 rfl (by simp only [Tin.pick, List.map_cons, List.map_nil, Array.getD_eq_getD_getElem?, List.getElem?_toArray, List.getElem?_cons_zero, List.getElem?_cons_succ, Option.getD_some]; rfl) (by kernel_rfl) (by kernel_rfl) ?_
        repeat (first | go_big_quiet_step (fail))
        refine wpQuiet_nil ?_
        refine Tin.reg_one 2 _ rfl (by kernel_rfl) ?_
        try simp only [List.getElem_toArray, List.getElem_cons_succ, List.getElem_cons_zero]
        go_wp2_with fail
        refine (rhd_any m1 _).mono ?_
        rintro en w2 ⟨rfl, rfl⟩
        rw [HH.out]
        go_wp2_with fail
        refine ⟨wr.heap.size + 1, Below.refl _ _, Nat.le_refl _, ?_⟩
        refine Tin.reg_quiets [3, 4, 5, 6, 7, 8, 9, 10, 11, 12, 13, 14, 15, 16, 17, 18, 19, 20, 21, 22, 23, 25, 26, 27] _ 3 rfl (by simp only [Tin.pick, List.map_cons, List.map_nil, Array.getD_eq_getD_getElem?, List.getElem?_toArray, List.getElem?_cons_zero, List.getElem?_cons_succ, Option.getD_some]; rfl) (by kernel_rfl) (by kernel_rfl) ?_
        repeat (first | go_big_quiet_step (fail))
        refine wpQuiet_nil ?_
        refine Tin.reg_one 24 _ rfl (by kernel_rfl) ?_
        try simp only [List.getElem_toArray, List.getElem_cons_succ, List.getElem_cons_zero]
        go_wp2_with fail
        refine (rscan_any B2 s1 _ _ HSS.out (by omega) HYS.out).mono ?_
        rintro en w3 ⟨rfl, hb3⟩
        rw [H4.out]
        go_wp2_with fail
        refine ⟨wr.heap.size + 1, hb3.mono HSZ, Nat.le_refl _, ?_⟩
        replace HB2 := Lib.hid (HB2.out.trans (hb3.mono HB2.out.size))
        clear hb3
        refine Tin.reg_quiets [28, 29] _ 0 rfl (by simp only [Tin.pick, List.map_cons, List.map_nil, Array.getD_eq_getD_getElem?, List.getElem?_toArray, List.getElem?_cons_zero, List.getElem?_cons_succ, Option.getD_some]; rfl) (by kernel_rfl) (by kernel_rfl) ?_
        repeat (first | go_big_quiet_step (fail))
        refine wpQuiet_nil ?_
        refine Tin.reg_done (by kernel_rfl) ?_
        go_wp2_with fail
        exact ⟨⟨i + 1, by omega, rfl, HYES.out (by rw [HOK.out]), HB2.out⟩, by simp only [intOf]; omega⟩
      have j3 : decide ((scL s1 : Int) < (s1.length : Int)) = true := decide_eq_true (by have := scL_le s1; omega)
      have j3' : scL s1 < s1.length := by have := scL_le s1; omega
      have HOK := Lib.hid (show okAt N i ⟨m1, d1, s1⟩ = false by rw [HO9.out, HR.out, HH.out, decide_eq_true H1.out, H2.out, n4, decide_eq_false h4]; rfl)
      clear h4 n4
      refine Tin.reg_quiets [0, 1] _ 28 rfl (by simp only [Tin.pick, List.map_cons, List.map_nil, Array.getD_eq_getD_getElem?, List.getElem?_toArray, List.getElem?_cons_zero, List.getElem?_cons_succ, Option.getD_some]; rfl) (by kernel_rfl) (by kernel_rfl) ?_
      repeat (first | go_big_quiet_step (fail))
      refine wpQuiet_nil ?_
      refine Tin.reg_one 2 _ rfl (by kernel_rfl) ?_
      try simp only [List.getElem_toArray, List.getElem_cons_succ, List.getElem_cons_zero]
      go_wp2_with fail
      refine (rhd_any m1 _).mono ?_
      rintro en w2 ⟨rfl, rfl⟩
      rw [HH.out]
      go_wp2_with fail
      refine ⟨wr.heap.size + 1, Below.refl _ _, Nat.le_refl _, ?_⟩
      refine Tin.reg_quiets [3, 4, 5, 6, 7, 8, 9, 10, 11, 12, 13, 14, 15, 16, 17, 18, 19, 20, 21, 22, 23, 25, 26, 27] _ 3 rfl (by simp only [Tin.pick, List.map_cons, List.map_nil, Array.getD_eq_getD_getElem?, List.getElem?_toArray, List.getElem?_cons_zero, List.getElem?_cons_succ, Option.getD_some]; rfl) (by kernel_rfl) (by kernel_rfl) ?_
      repeat (first | go_big_quiet_step (fail))
      refine wpQuiet_nil ?_
      refine Tin.reg_one 24 _ rfl (by kernel_rfl) ?_
      try simp only [List.getElem_toArray, List.getElem_cons_succ, List.getElem_cons_zero]
      go_wp2_with fail
      refine (rscan_any B2 s1 _ _ HSS.out (by omega) HYS.out).mono ?_
      rintro en w3 ⟨rfl, hb3⟩
      go_wp2_with fail
      refine ⟨wr.heap.size + 1, hb3.mono HSZ, Nat.le_refl _, ?_⟩
      replace HB2 := Lib.hid (HB2.out.trans (hb3.mono HB2.out.size))
      clear hb3
      refine Tin.reg_quiets [28, 29] _ 0 rfl (by simp only [Tin.pick, List.map_cons, List.map_nil, Array.getD_eq_getD_getElem?, List.getElem?_toArray, List.getElem?_cons_zero, List.getElem?_cons_succ, Option.getD_some]; rfl) (by kernel_rfl) (by kernel_rfl) ?_
      repeat (first | go_big_quiet_step (fail))
      refine wpQuiet_nil ?_
      refine Tin.reg_done (by kernel_rfl) ?_
      go_wp2_with fail
      go_ret
      exact ⟨ret_bool (by rw [HNO.out (by rw [HOK.out])]), HB2.out⟩
end Go.Proofs.Ytfohajgljjffgaa
