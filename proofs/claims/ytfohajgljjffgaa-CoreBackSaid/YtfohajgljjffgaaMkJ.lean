/- vast. -/
import Derived.Test.YtfohajgljjffgaaMkI
namespace Go.Proofs.Ytfohajgljjffgaa
open Go.RowKit
open Go.Tin
set_option linter.unusedVariables false
set_option linter.unusedSimpArgs false


/-- Rows of segments, of which the lengths are looked at alone. -/
def PtN (v : Value) (d : List Int) : Prop := ∃ A c, v = .slice A d.length c ∧ d.length ≤ 140737488355328
def vN (s : Sg) : Nat := (if s.d.length ≤ 65533 ∨ 70000 < s.d.length then s.d.length else 0) + s.s.length
def vS : List Sg → Nat
  | [] => 0
  | s :: L => vN s + vS L
theorem vS_app (L M : List Sg) : vS (L ++ M) = vS L + vS M := by
  induction L with
  | nil => simp [vS]
  | cons a L ih => simp only [List.cons_append, vS, ih]; omega
def vastB (L : List Sg) : Bool := decide (3000 < vS L) || decide (40 < L.length)
theorem vS_next {L : List Sg} {i : Nat} {x : Sg} (h : L[i]? = some x) : vS (L.take (i + 1)) = vS (L.take i) + vN x := by
  rw [take_nextG h, vS_app]; simp [vS]
theorem vN_le {x : Sg} (h1 : x.d.length ≤ 140737488355328) (h2 : x.s.length ≤ 140737488355328) : vN x ≤ 281474976710656 := by
  unfold vN; split <;> omega
theorem vast_at {w : World} {A : Option Addr} {L : List Sg} {xs : List Value} (h1 : SlV w A xs) (h2 : SgV PtN xs L) (hl : 0 < L.length) : ∃ b off, A = some ⟨b, off, none⟩ ∧ ∀ i, i < L.length → ∃ m d s A1 c1 A2 c2, L[i]? = some ⟨m, d, s⟩ ∧
    w.cell? ⟨b, off + i * 3 + 1, none⟩ = some (.slice A1 d.length c1) ∧ w.cell? ⟨b, off + i * 3 + 2, none⟩ = some (.slice A2 s.length c2) ∧ d.length ≤ 140737488355328 ∧ s.length ≤ 140737488355328 := by
  have hxl := h2.len
  obtain ⟨b, off, rfl, hb, hc⟩ := h1.at_ (by omega)
  refine ⟨b, off, rfl, fun i hi => ?_⟩
  obtain ⟨v, u, hx, hv, hu⟩ := h2.at_ i hi
  obtain ⟨A1, c1, hv1, r1⟩ := hv
  obtain ⟨A2, c2, hu1, r2⟩ := hu
  subst hv1; subst hu1
  have hr := h1.rng (i * 3) 3 (by omega)
  rw [hx] at hr
  exact ⟨L[i].m, L[i].d, L[i].s, A1, c1, A2, c2, by rw [List.getElem?_eq_getElem hi], hr 1 _ rfl, hr 2 _ rfl, r1, r2⟩
set_option maxRecDepth 100000 in
set_option maxHeartbeats 4000000 in
theorem vast_any (A : Option Addr) (c : Nat) (L : List Sg) (xs : List Value) (w : World) (h1 : SlV w A xs) (h2 : SgV PtN xs L) (hn : L.length ≤ 140737488355328) :
    Calls Try.prog 18 #[.slice A L.length c] w fun e w' => e = .returned (.bool (vastB L)) ∧ w = w' := by
  have H1 := Lib.hid h1
  have H2 := Lib.hid h2
  clear h1 h2
  by_cases h40 : L.length ≤ 40
  · have HV := Lib.hid (show vastB L = decide (3000 < vS L) by unfold vastB; rw [decide_eq_false (show ¬ 40 < L.length by omega), Bool.or_false])
    go_enter Try.func18, Try.ntmps18
    go_wp2_with fail
    go_loopw [3, 4] (fun s3 s4 wr => ∃ (i n : Nat), i ≤ L.length ∧ s4 = .int .i64 (i : Int) ∧ n = vS (L.take i) ∧ n ≤ i * 281474976710656 ∧ s3 = .int .i64 (n : Int) ∧ w = wr) (fun _ s4 _ => L.length - (intOf s4).toNat)
    case atStart => exact ⟨0, 0, by omega, rfl, rfl, by omega, rfl, rfl⟩
    case round =>
      obtain ⟨i, n, hi, rfl, hnn, hnb, rfl, rfl⟩ := hrel
      have HNN := Lib.hid hnn
      clear hnn
      by_cases hil : i < L.length
      case neg =>
        obtain rfl : i = L.length := by omega
        have HE := Lib.hid (show vastB L = decide (3000 < n) by rw [HV.out, HNN.out, List.take_length])
        have i4 : (L.length : Int) ≤ 40 := by omega
        by_cases h3 : 3000 < n
        · have d3 : (3000 : Int) < (n : Int) := by omega
          rw [decide_eq_true h3] at HE
          go_wp2_with fail
          go_ret
          exact ⟨ret_bool (by first | exact HE.out.symm | (rw [HE.out]; simp; omega)), rfl⟩
        · have d3 : (n : Int) ≤ 3000 := by omega
          rw [decide_eq_false h3] at HE
          go_wp2_with fail
          go_ret
          exact ⟨ret_bool (by first | exact HE.out.symm | (rw [HE.out]; simp; omega)), rfl⟩
      have i1 : (i : Int) < (L.length : Int) := by omega
      obtain ⟨b, off, rfl, hc⟩ := vast_at H1.out H2.out (by omega)
      obtain ⟨m1, d1, s1, B1, e1, B2, e2, hx, k1, k2, l1, l2⟩ := hc i hil
      have HX := Lib.hid (vS_next hx)
      have HL := Lib.hid (vN_le (x := ⟨m1, d1, s1⟩) l1 l2)
      clear hx hc
      have HVN := Lib.hid (show vN ⟨m1, d1, s1⟩ = (if d1.length ≤ 65533 ∨ 70000 < d1.length then d1.length else 0) + s1.length from rfl)
      obtain ⟨p, hp⟩ : ∃ p, d1.length = p := ⟨_, rfl⟩
      obtain ⟨q, hq⟩ : ∃ q, s1.length = q := ⟨_, rfl⟩
      rw [hp] at k1 l1 HVN
      rw [hq] at k2 l2 HVN
      clear hp hq
      have hbd : n + 281474976710656 ≤ 9223372036854775807 := by omega
      by_cases hp1 : p ≤ 65533
      · have HN2 := Lib.hid (show n + p + q = vS (L.take (i + 1)) by rw [HX.out, HVN.out, if_pos (.inl hp1), ← HNN.out]; omega)
        go_wp2_with fail
        exact ⟨⟨i + 1, n + p + q, by omega, rfl, HN2.out, by omega, congrArg (Value.int .i64) (by omega), by first | rfl | trivial⟩, by simp only [intOf]; omega⟩
      · by_cases hp2 : 70000 < p
        · have HN2 := Lib.hid (show n + p + q = vS (L.take (i + 1)) by rw [HX.out, HVN.out, if_pos (.inr hp2), ← HNN.out]; omega)
          have j1 : (65533 : Int) < (p : Int) := by omega
          have j2 : (70000 : Int) < (p : Int) := by omega
          go_wp2_with fail
          exact ⟨⟨i + 1, n + p + q, by omega, rfl, HN2.out, by omega, congrArg (Value.int .i64) (by omega), by first | rfl | trivial⟩, by simp only [intOf]; omega⟩
        · have HN2 := Lib.hid (show n + q = vS (L.take (i + 1)) by rw [HX.out, HVN.out, if_neg (by omega), ← HNN.out]; omega)
          have j1 : (65533 : Int) < (p : Int) := by omega
          have j2 : (p : Int) ≤ 70000 := by omega
          go_wp2_with fail
          exact ⟨⟨i + 1, n + q, by omega, rfl, HN2.out, by omega, congrArg (Value.int .i64) (by omega), by first | rfl | trivial⟩, by simp only [intOf]; omega⟩
  · have HV := Lib.hid (show vastB L = true by unfold vastB; rw [decide_eq_true (show 40 < L.length by omega), Bool.or_true])
    have i4 : (40 : Int) < (L.length : Int) := by omega
    go_enter Try.func18, Try.ntmps18
    go_wp2_with fail
    go_loopw [3, 4] (fun s3 s4 wr => ∃ (i : Nat) (n : Int), i ≤ L.length ∧ s4 = .int .i64 (i : Int) ∧ s3 = .int .i64 n ∧ w = wr) (fun _ s4 _ => L.length - (intOf s4).toNat)
    case atStart => exact ⟨0, 0, by omega, rfl, rfl, rfl⟩
    case round =>
      obtain ⟨i, n, hi, rfl, rfl, rfl⟩ := hrel
      by_cases hil : i < L.length
      case neg =>
        obtain rfl : i = L.length := by omega
        by_cases h3 : 3000 < n
        · go_wp2_with fail
          go_ret
          exact ⟨ret_bool HV.out.symm, rfl⟩
        · have d3 : n ≤ 3000 := by omega
          go_wp2_with fail
          go_ret
          exact ⟨ret_bool HV.out.symm, rfl⟩
      have i1 : (i : Int) < (L.length : Int) := by omega
      obtain ⟨b, off, rfl, hc⟩ := vast_at H1.out H2.out (by omega)
      obtain ⟨m1, d1, s1, B1, e1, B2, e2, hx, k1, k2, l1, l2⟩ := hc i hil
      clear hx hc
      obtain ⟨p, hp⟩ : ∃ p, d1.length = p := ⟨_, rfl⟩
      obtain ⟨q, hq⟩ : ∃ q, s1.length = q := ⟨_, rfl⟩
      rw [hp] at k1 l1
      rw [hq] at k2 l2
      clear hp hq
      by_cases hp1 : p ≤ 65533
      · go_wp2_with fail
        exact ⟨⟨i + 1, _, by omega, rfl, rfl, by first | rfl | trivial⟩, by simp only [intOf]; omega⟩
      · have j1 : (65533 : Int) < (p : Int) := by omega
        by_cases hp2 : 70000 < p
        · have j2 : (70000 : Int) < (p : Int) := by omega
          go_wp2_with fail
          exact ⟨⟨i + 1, _, by omega, rfl, rfl, by first | rfl | trivial⟩, by simp only [intOf]; omega⟩
        · have j2 : (p : Int) ≤ 70000 := by omega
          go_wp2_with fail
          exact ⟨⟨i + 1, _, by omega, rfl, rfl, by first | rfl | trivial⟩, by simp only [intOf]; omega⟩
end Go.Proofs.Ytfohajgljjffgaa
