/- May a plane be: right, and the reference's May. -/
import Derived.Test.YtajobboldjgidaaSmA
namespace Go.Proofs.Ytajobboldjgidaa
open Go.RowKit
open Go.Tin
set_option linter.unusedVariables false
set_option linter.unusedSimpArgs false


abbrev plA (W H : Int) (A : Option Addr) (n c : Nat) : Value := .agg #[.int .i64 W, .int .i64 H, .slice A n c]
abbrev plrow (W H : Int) (A : Option Addr) (n c : Nat) : Array Value := #[.int .i64 W, .int .i64 H, .slice A n c]
def mayP (W H : Int) (v : List Int) : Bool := (okS W && okS H) && (((v.length : Int) == W * H) && v.all okV)
theorem mulP_bd {W H : Int} (hW : 1 ≤ W ∧ W ≤ 4096) (hH : 1 ≤ H ∧ H ≤ 4096) : 0 ≤ W * H ∧ W * H ≤ 16777216 := by
  refine ⟨Int.mul_nonneg (by omega) (by omega), ?_⟩
  exact Int.le_trans (Int.mul_le_mul_of_nonneg_right (show W ≤ 4096 by omega) (by omega)) (by omega)
set_option maxRecDepth 100000 in
set_option maxHeartbeats 2000000 in
theorem right_any (W H : Int) (A : Option Addr) (c : Nat) (v : List Int) (w : World) (hs : Sl .i64 w A v) (hn : v.length ≤ 1000000000) : Calls Try.prog 33 #[plA W H A v.length c] w fun e w' => e = .returned (.bool (mayP W H v)) ∧ Below w.heap.size w w' := by
  obtain ⟨r0, r1, hb, hz⟩ := alloc2 w (.cells (plrow W H A v.length c) 24) (.cells #[.int .i64 W, .int .i64 H] 3)
  have hsl : Sl .i64 ((w.alloc (.cells (plrow W H A v.length c) 24)).alloc (.cells #[.int .i64 W, .int .i64 H] 3)) (some ⟨w.heap.size + 1, 0, none⟩) [W, H] := by
    have h := Sl.new_ (k := .i64) (w.alloc (.cells (plrow W H A v.length c) 24)) 3 #[.int .i64 W, .int .i64 H] [W, H] rfl
    simpa using h
  have k0 := row_cell (v := .int .i64 W) r0 0 rfl
  have k1 := row_cell (v := .int .i64 H) r0 1 rfl
  have k2 := row_cell (v := .slice A v.length c) r0 2 rfl
  have HV := Lib.hid (hs.keep hb)
  have HB := Lib.hid hb
  have HR := Lib.hid (show mayP W H v = ((okS W && okS H) && (((v.length : Int) == W * H) && v.all okV)) from rfl)
  have HA := Lib.hid (all_any_not okV v)
  clear hs r0 r1 hb
  go_enter Try.func33, Try.ntmps33
  go_wp2_with fail
  generalize ((w.alloc (.cells (plrow W H A v.length c) 24)).alloc (.cells #[.int .i64 W, .int .i64 H] 3)) = W0 at *
  refine (side_any (some ⟨w.heap.size + 1, 0, none⟩) 2 [W, H] W0 hsl (by simp)).mono ?_
  rintro e w' ⟨rfl, rfl⟩
  have hall : [W, H].all okS = (okS W && okS H) := by simp
  rw [hall]
  clear hall hsl
  cases hk : (okS W && okS H) with
  | false =>
    rw [hk, Bool.false_and] at HR
    clear hk
    go_wp2_with fail
    go_ret
    exact ⟨ret_bool HR.out.symm, HB.out⟩
  | true =>
    have hk' := hk
    rw [Bool.and_eq_true] at hk'
    obtain ⟨m0, m1⟩ := mulP_bd (okS_t hk'.1) (okS_t hk'.2)
    obtain ⟨w0, w1⟩ := okS_t hk'.1
    obtain ⟨h0, h1⟩ := okS_t hk'.2
    rw [hk, Bool.true_and] at HR
    clear hk hk'
    cases he : ((v.length : Int) == W * H) with
    | false =>
      rw [he, Bool.false_and] at HR
      go_wp2_with fail
      go_ret
      exact ⟨ret_bool HR.out.symm, HB.out⟩
    | true =>
      rw [he, Bool.true_and] at HR
      go_wp2_with fail
      refine (containsI_any 55 (fun _ _ => by rfl) (fun n => !okV n) A c v W0 HV.out hn right1_any).mono ?_
      rintro e w' ⟨rfl, rfl⟩
      rw [← HA.out] at HR
      generalize (v.any fun n => !okV n) = bb at *
      clear HA
      go_wp2_with fail
      go_ret
      exact ⟨ret_bool HR.out.symm, HB.out⟩
set_option maxRecDepth 100000 in
set_option maxHeartbeats 4000000 in
theorem rmayP_any (W H : Int) (A : Option Addr) (c : Nat) (v : List Int) (w : World) (hs : Sl .i64 w A v) (hn : v.length ≤ 1000000000) : Calls Try.prog 12 #[plA W H A v.length c] w fun e w' => e = .returned (.bool (mayP W H v)) ∧ Below w.heap.size w w' := by
  obtain ⟨r0, hb, hz⟩ := alloc1 w (.cells (plrow W H A v.length c) 24)
  have k0 := row_cell (v := .int .i64 W) r0 0 rfl
  have k1 := row_cell (v := .int .i64 H) r0 1 rfl
  have k2 := row_cell (v := .slice A v.length c) r0 2 rfl
  have HV := Lib.hid (hs.keep hb)
  have HB := Lib.hid hb
  have HR := Lib.hid (show mayP W H v = ((okS W && okS H) && (((v.length : Int) == W * H) && v.all okV)) from rfl)
  clear hs r0 hb
  go_enter Try.func12, Try.ntmps12
  go_wp2_with fail
  generalize (w.alloc (.cells (plrow W H A v.length c) 24)) = W0 at *
  refine (rsize_any W W0).mono ?_
  rintro e w' ⟨rfl, rfl⟩
  cases hkW : okS W with
  | false =>
    rw [hkW, Bool.false_and, Bool.false_and] at HR
    go_wp2_with fail
    go_ret
    exact ⟨ret_bool HR.out.symm, HB.out⟩
  | true =>
  go_wp2_with fail
  refine (rsize_any H W0).mono ?_
  rintro e w' ⟨rfl, rfl⟩
  cases hkH : okS H with
  | false =>
    rw [hkW, hkH, Bool.and_false, Bool.false_and] at HR
    go_wp2_with fail
    go_ret
    exact ⟨ret_bool HR.out.symm, HB.out⟩
  | true =>
  obtain ⟨m0, m1⟩ := mulP_bd (okS_t hkW) (okS_t hkH)
  obtain ⟨w0, w1⟩ := okS_t hkW
  obtain ⟨h0, h1⟩ := okS_t hkH
  rw [hkW, hkH, Bool.and_self, Bool.true_and] at HR
  clear hkW hkH
  cases he : ((v.length : Int) == W * H) with
  | false =>
    rw [he, Bool.false_and] at HR
    have he' : ((v.length : Int) != W * H) = true := by rw [bne, he]; rfl
    clear he
    go_wp2_with fail
    go_ret
    exact ⟨ret_bool HR.out.symm, HB.out⟩
  | true =>
    rw [he, Bool.true_and] at HR
    have he' : ((v.length : Int) != W * H) = false := by rw [bne, he]; rfl
    clear he
    go_wp2_with fail
    go_loop [3] (fun s3 => ∃ (i : Nat), i ≤ v.length ∧ s3 = .int .i64 (i : Int) ∧ (v.take i).all okV = true) (fun s3 => v.length - (intOf s3).toNat)
    case atStart => exact ⟨0, by omega, rfl, rfl⟩
    case round =>
      obtain ⟨i, hi, rfl, hno⟩ := hrel
      have HN := Lib.hid hno
      clear hno
      by_cases hil : i < v.length
      case neg =>
        obtain rfl : i = v.length := by omega
        go_wp2_with fail
        go_ret
        exact ⟨ret_bool (by rw [HR.out]; have := HN.out; rw [List.take_length] at this; exact this.symm), HB.out⟩
      have i1 : (i : Int) < (v.length : Int) := by omega
      obtain ⟨b, off, rfl, hlt, hc⟩ := HV.out.at_ (by omega)
      have c1 := hc i hil
      rw [show v.getD i 0 = nth v i from rfl] at c1
      clear hc
      have HNX := Lib.hid (show (v.take (i + 1)).all okV = ((v.take i).all okV && okV (nth v i)) by
        rw [List.take_add_one, List.all_append]
        simp [nth, List.getD_eq_getElem?_getD, hil])
      have HNO := Lib.hid (fun h : okV (nth v i) = false => show v.all okV = false from by
        rw [List.all_eq_false]
        exact ⟨nth v i, by simp [nth, List.getD_eq_getElem?_getD, hil], by simp [h]⟩)
      have HOK := Lib.hid (show okV (nth v i) = (decide (0 ≤ nth v i) && decide (nth v i ≤ 255)) from rfl)
      generalize nth v i = x at *
      by_cases hx0 : x < 0
      · have HE := Lib.hid (HNO.out (by rw [HOK.out, decide_eq_false (show ¬ 0 ≤ x by omega)]; rfl))
        go_wp2_with fail
        go_ret
        exact ⟨ret_bool (by rw [HR.out, HE.out]), HB.out⟩
      · by_cases hx1 : 255 < x
        · have HE := Lib.hid (HNO.out (by rw [HOK.out, decide_eq_false (show ¬ x ≤ 255 by omega)]; exact Bool.and_false _))
          go_wp2_with fail
          go_ret
          exact ⟨ret_bool (by rw [HR.out, HE.out]), HB.out⟩
        · have HE := Lib.hid (show okV x = true by rw [HOK.out, decide_eq_true (show 0 ≤ x by omega), decide_eq_true (show x ≤ 255 by omega)]; rfl)
          have ix0 : 0 ≤ x := by omega
          have ix1 : x ≤ 255 := by omega
          clear hx0 hx1
          go_wp2_with fail
          go_round
          case rel => exact ⟨i + 1, by omega, by go_num, by rw [HNX.out, HN.out, HE.out]; rfl⟩
          case measure => simp only [intOf]; omega
end Go.Proofs.Ytajobboldjgidaa
