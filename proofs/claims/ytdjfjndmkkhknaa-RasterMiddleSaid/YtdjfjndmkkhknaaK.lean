/- The contracts of Fit and its reference. -/
import Derived.Test.YtdjfjndmkkhknaaC
import Derived.Outline
namespace Go.Proofs.Ytdjfjndmkkhknaa
open Go.RowKit
open Go.Tin
set_option linter.unusedVariables false
set_option linter.unusedSimpArgs false

/-- Which size fits. -/
def fitA (w h u v : Int) : Int := if w ≤ u ∧ h ≤ v then w else if h * u ≤ w * v then u else max (w * v / h) 1
def fitB (w h u v : Int) : Int := if w ≤ u ∧ h ≤ v then h else if h * u ≤ w * v then max (h * u / w) 1 else v
theorem prod_bd {a b : Int} (ha : 1 ≤ a ∧ a ≤ 4096) (hb : 1 ≤ b ∧ b ≤ 4096) : 0 ≤ a * b ∧ a * b ≤ 16777216 := by
  have h1 : 0 ≤ a * b := Int.mul_nonneg (by omega) (by omega)
  have h2 : a * b ≤ 4096 * b := Int.mul_le_mul_of_nonneg_right ha.2 (by omega)
  omega
theorem ret3 {a a' b b' c : Int} (h : a' = a) (h2 : b' = b) : Ending.returned (.tuple #[.int .i64 a, .int .i64 b, .int .i64 c]) = .returned (.tuple #[.int .i64 a', .int .i64 b', .int .i64 c]) := by rw [h, h2]
theorem ret2 {a a' b b' : Int} (h : a' = a) (h2 : b' = b) : Ending.returned (.tuple #[.int .i64 a, .int .i64 b]) = .returned (.tuple #[.int .i64 a', .int .i64 b']) := by rw [h, h2]

set_option maxRecDepth 100000 in
set_option maxHeartbeats 2000000 in
theorem fit_yes (a b u v : Int) (w : World) (ha : okS a = true) (hb : okS b = true) (hu : okS u = true) (hv : okS v = true) :
    Calls Try.prog 12 #[.int .i64 a, .int .i64 b, .int .i64 u, .int .i64 v] w fun e w' => e = .returned (.tuple #[.int .i64 (fitA a b u v), .int .i64 (fitB a b u v), .int .i64 0]) ∧ Below w.heap.size w w' := by
  have hall : [a, b, u, v].all okS = true := by simp [ha, hb, hu, hv]
  obtain ⟨a0, a1⟩ := okS_t ha
  obtain ⟨b0, b1⟩ := okS_t hb
  obtain ⟨u0, u1⟩ := okS_t hu
  obtain ⟨v0, v1⟩ := okS_t hv
  obtain ⟨p0, p1⟩ := prod_bd ⟨a0, a1⟩ ⟨v0, v1⟩
  obtain ⟨q0, q1⟩ := prod_bd ⟨b0, b1⟩ ⟨u0, u1⟩
  clear ha hb hu hv
  go_enter Try.func12, Try.ntmps12
  go_wp2_with fail
  generalize hW3 : w.alloc _ = W3 at *
  have hb3 : Below w.heap.size w W3 := by rw [← hW3]; exact ba (brefl w) _
  have hs3 : Sl .i64 W3 (some ⟨w.heap.size, 0, none⟩) [a, b, u, v] := by rw [← hW3]; exact Sl.new_ _ _ _ _ rfl
  clear hW3
  refine (size_any (some ⟨w.heap.size, 0, none⟩) 4 [a, b, u, v] W3 hs3 (by simp)).mono ?_
  rintro e w' ⟨rfl, rfl⟩
  rw [hall]
  clear hall hs3
  by_cases h1 : a ≤ u ∧ b ≤ v
  · have FA := Lib.hid (show fitA a b u v = a by unfold fitA; rw [if_pos h1])
    have FB := Lib.hid (show fitB a b u v = b by unfold fitB; rw [if_pos h1])
    obtain ⟨h11, h12⟩ := h1
    go_wp2_with fail
    go_ret3
    exact ⟨ret3 FA.out FB.out, hb3⟩
  · have key : ∀ e1 : Bool, e1 = true → (a ≤ u → decide (b ≤ v) = false) := fun _ _ h => by simp; omega
    by_cases h2 : b * u ≤ a * v
    · have FA := Lib.hid (show fitA a b u v = u by unfold fitA; rw [if_neg h1, if_pos h2])
      have FB := Lib.hid (show fitB a b u v = max (b * u / a) 1 by unfold fitB; rw [if_neg h1, if_pos h2])
      have m0 : 0 ≤ b * u / a := Int.ediv_nonneg (by omega) (by omega)
      have m1 : b * u / a ≤ 16777216 := Int.le_trans (Int.ediv_le_self _ (by omega)) q1
      by_cases h3 : a ≤ u
      · have h4 : ¬ b ≤ v := fun h => h1 ⟨h3, h⟩
        clear h1 key
        go_wp2_with fail
        refine Tin.reg_begin 0 10 (by rfl) (by kernel_rfl) ?_
        refine Tin.reg_quiets [0, 1, 2, 3, 4, 5, 6, 7, 8, 9] _ 0 rfl (by simp only [Tin.pick, List.map_cons, List.map_nil, Array.getD_eq_getD_getElem?, List.getElem?_toArray, List.getElem?_cons_zero, List.getElem?_cons_succ, Option.getD_some]; rfl) (by kernel_rfl) (by kernel_rfl) ?_
        repeat (first | go_big_quiet_step (fail))
        refine wpQuiet_nil ?_
        refine Tin.reg_done (by kernel_rfl) ?_
        go_wp2_with fail
        go_ret3
        exact ⟨ret3 FA.out FB.out, hb3.drew⟩
      · clear h1 key
        go_wp2_with fail
        refine Tin.reg_begin 0 10 (by rfl) (by kernel_rfl) ?_
        refine Tin.reg_quiets [0, 1, 2, 3, 4, 5, 6, 7, 8, 9] _ 0 rfl (by simp only [Tin.pick, List.map_cons, List.map_nil, Array.getD_eq_getD_getElem?, List.getElem?_toArray, List.getElem?_cons_zero, List.getElem?_cons_succ, Option.getD_some]; rfl) (by kernel_rfl) (by kernel_rfl) ?_
        repeat (first | go_big_quiet_step (fail))
        refine wpQuiet_nil ?_
        refine Tin.reg_done (by kernel_rfl) ?_
        go_wp2_with fail
        go_ret3
        exact ⟨ret3 FA.out FB.out, hb3.drew⟩
    · have FA := Lib.hid (show fitA a b u v = max (a * v / b) 1 by unfold fitA; rw [if_neg h1, if_neg h2])
      have FB := Lib.hid (show fitB a b u v = v by unfold fitB; rw [if_neg h1, if_neg h2])
      have m0 : 0 ≤ a * v / b := Int.ediv_nonneg (by omega) (by omega)
      have m1 : a * v / b ≤ 16777216 := Int.le_trans (Int.ediv_le_self _ (by omega)) p1
      by_cases h3 : a ≤ u
      · have h4 : ¬ b ≤ v := fun h => h1 ⟨h3, h⟩
        clear h1 key
        go_wp2_with fail
        go_ret3
        exact ⟨ret3 FA.out FB.out, hb3⟩
      · clear h1 key
        go_wp2_with fail
        go_ret3
        exact ⟨ret3 FA.out FB.out, hb3⟩

set_option maxRecDepth 100000 in
theorem fit_no (a b u v : Int) (w : World) (hno : [a, b, u, v].all okS = false) :
    Calls Try.prog 12 #[.int .i64 a, .int .i64 b, .int .i64 u, .int .i64 v] w fun e w' => e = .returned (.tuple #[.int .i64 0, .int .i64 0, .int .i64 1]) ∧ Below w.heap.size w w' := by
  have HN := Lib.hid hno
  clear hno
  go_enter Try.func12, Try.ntmps12
  go_wp2_with fail
  generalize hW3 : w.alloc _ = W3 at *
  have hb3 : Below w.heap.size w W3 := by rw [← hW3]; exact ba (brefl w) _
  have hs3 : Sl .i64 W3 (some ⟨w.heap.size, 0, none⟩) [a, b, u, v] := by rw [← hW3]; exact Sl.new_ _ _ _ _ rfl
  clear hW3
  refine (size_any (some ⟨w.heap.size, 0, none⟩) 4 [a, b, u, v] W3 hs3 (by simp)).mono ?_
  rintro e w' ⟨rfl, rfl⟩
  rw [HN.out]
  clear hs3
  go_wp2_with fail
  go_ret3
  exact ⟨rfl, hb3⟩

set_option maxRecDepth 100000 in
set_option maxHeartbeats 2000000 in
theorem rfit_any (a b u v : Int) (w : World) (ha : okS a = true) (hb : okS b = true) (hu : okS u = true) (hv : okS v = true) :
    Calls Try.prog 14 #[.int .i64 a, .int .i64 b, .int .i64 u, .int .i64 v] w fun e w' => e = .returned (.tuple #[.int .i64 (fitA a b u v), .int .i64 (fitB a b u v)]) ∧ Below w.heap.size w w' := by
  obtain ⟨a0, a1⟩ := okS_t ha
  obtain ⟨b0, b1⟩ := okS_t hb
  obtain ⟨u0, u1⟩ := okS_t hu
  obtain ⟨v0, v1⟩ := okS_t hv
  obtain ⟨p0, p1⟩ := prod_bd ⟨a0, a1⟩ ⟨v0, v1⟩
  obtain ⟨q0, q1⟩ := prod_bd ⟨b0, b1⟩ ⟨u0, u1⟩
  clear ha hb hu hv
  have m0 : 0 ≤ a * v / b := Int.ediv_nonneg (by omega) (by omega)
  have m1 : a * v / b ≤ 16777216 := Int.le_trans (Int.ediv_le_self _ (by omega)) p1
  have m2 : 0 ≤ b * u / a := Int.ediv_nonneg (by omega) (by omega)
  have m3 : b * u / a ≤ 16777216 := Int.le_trans (Int.ediv_le_self _ (by omega)) q1
  go_enter Try.func14, Try.ntmps14
  by_cases h1 : a ≤ u ∧ b ≤ v
  · have FA := Lib.hid (show fitA a b u v = a by unfold fitA; rw [if_pos h1])
    have FB := Lib.hid (show fitB a b u v = b by unfold fitB; rw [if_pos h1])
    obtain ⟨h11, h12⟩ := h1
    go_wp2_with fail
    go_ret2
    exact ⟨ret2 FA.out FB.out, brefl w⟩
  · by_cases h2 : b * u ≤ a * v
    · have FA := Lib.hid (show fitA a b u v = u by unfold fitA; rw [if_neg h1, if_pos h2])
      have FB := Lib.hid (show fitB a b u v = max (b * u / a) 1 by unfold fitB; rw [if_neg h1, if_pos h2])
      by_cases h3 : a ≤ u
      · have h4 : ¬ b ≤ v := fun h => h1 ⟨h3, h⟩
        clear h1
        go_wp2_with fail
        refine Tin.reg_begin 0 8 (by rfl) (by kernel_rfl) ?_
        refine Tin.reg_quiets [0, 1, 2, 3, 4, 5, 6, 7] _ 0 rfl (by simp only [Tin.pick, List.map_cons, List.map_nil, Array.getD_eq_getD_getElem?, List.getElem?_toArray, List.getElem?_cons_zero, List.getElem?_cons_succ, Option.getD_some]; rfl) (by kernel_rfl) (by kernel_rfl) ?_
        repeat (first | go_big_quiet_step (fail))
        refine wpQuiet_nil ?_
        refine Tin.reg_done (by kernel_rfl) ?_
        by_cases h5 : b * u / a < 1
        · have e5 : max (b * u / a) 1 = 1 := by omega
          go_wp2_with fail
          go_ret2
          exact ⟨ret2 FA.out (by rw [FB.out, e5]), (brefl w).drew⟩
        · have e5 : max (b * u / a) 1 = b * u / a := by omega
          go_wp2_with fail
          go_ret2
          exact ⟨ret2 FA.out (by rw [FB.out, e5]), (brefl w).drew⟩
      · clear h1
        go_wp2_with fail
        refine Tin.reg_begin 0 8 (by rfl) (by kernel_rfl) ?_
        refine Tin.reg_quiets [0, 1, 2, 3, 4, 5, 6, 7] _ 0 rfl (by simp only [Tin.pick, List.map_cons, List.map_nil, Array.getD_eq_getD_getElem?, List.getElem?_toArray, List.getElem?_cons_zero, List.getElem?_cons_succ, Option.getD_some]; rfl) (by kernel_rfl) (by kernel_rfl) ?_
        repeat (first | go_big_quiet_step (fail))
        refine wpQuiet_nil ?_
        refine Tin.reg_done (by kernel_rfl) ?_
        by_cases h5 : b * u / a < 1
        · have e5 : max (b * u / a) 1 = 1 := by omega
          go_wp2_with fail
          go_ret2
          exact ⟨ret2 FA.out (by rw [FB.out, e5]), (brefl w).drew⟩
        · have e5 : max (b * u / a) 1 = b * u / a := by omega
          go_wp2_with fail
          go_ret2
          exact ⟨ret2 FA.out (by rw [FB.out, e5]), (brefl w).drew⟩
    · have FA := Lib.hid (show fitA a b u v = max (a * v / b) 1 by unfold fitA; rw [if_neg h1, if_neg h2])
      have FB := Lib.hid (show fitB a b u v = v by unfold fitB; rw [if_neg h1, if_neg h2])
      by_cases h3 : a ≤ u
      · have h4 : ¬ b ≤ v := fun h => h1 ⟨h3, h⟩
        clear h1
        go_wp2_with fail
        refine Tin.reg_begin 0 8 (by rfl) (by kernel_rfl) ?_
        refine Tin.reg_quiets [0, 1, 2, 3, 4, 5, 6, 7] _ 0 rfl (by simp only [Tin.pick, List.map_cons, List.map_nil, Array.getD_eq_getD_getElem?, List.getElem?_toArray, List.getElem?_cons_zero, List.getElem?_cons_succ, Option.getD_some]; rfl) (by kernel_rfl) (by kernel_rfl) ?_
        repeat (first | go_big_quiet_step (fail))
        refine wpQuiet_nil ?_
        refine Tin.reg_done (by kernel_rfl) ?_
        by_cases h5 : a * v / b < 1
        · have e5 : max (a * v / b) 1 = 1 := by omega
          go_wp2_with fail
          go_ret2
          exact ⟨ret2 (by rw [FA.out, e5]) FB.out, (brefl w).drew⟩
        · have e5 : max (a * v / b) 1 = a * v / b := by omega
          go_wp2_with fail
          go_ret2
          exact ⟨ret2 (by rw [FA.out, e5]) FB.out, (brefl w).drew⟩
      · clear h1
        go_wp2_with fail
        refine Tin.reg_begin 0 8 (by rfl) (by kernel_rfl) ?_
        refine Tin.reg_quiets [0, 1, 2, 3, 4, 5, 6, 7] _ 0 rfl (by simp only [Tin.pick, List.map_cons, List.map_nil, Array.getD_eq_getD_getElem?, List.getElem?_toArray, List.getElem?_cons_zero, List.getElem?_cons_succ, Option.getD_some]; rfl) (by kernel_rfl) (by kernel_rfl) ?_
        repeat (first | go_big_quiet_step (fail))
        refine wpQuiet_nil ?_
        refine Tin.reg_done (by kernel_rfl) ?_
        by_cases h5 : a * v / b < 1
        · have e5 : max (a * v / b) 1 = 1 := by omega
          go_wp2_with fail
          go_ret2
          exact ⟨ret2 (by rw [FA.out, e5]) FB.out, (brefl w).drew⟩
        · have e5 : max (a * v / b) 1 = a * v / b := by omega
          go_wp2_with fail
          go_ret2
          exact ⟨ret2 (by rw [FA.out, e5]) FB.out, (brefl w).drew⟩
end Go.Proofs.Ytdjfjndmkkhknaa
