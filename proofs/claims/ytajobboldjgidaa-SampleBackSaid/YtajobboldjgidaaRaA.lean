/- size, and its reference. -/
import Derived.Test.YtajobboldjgidaaRows
import Derived.Test.YtajobboldjgidaaLb
import Derived.WalkKit
import Derived.Sort.WalkA
import Derived.Outline
namespace Go.Proofs.Ytajobboldjgidaa
open Go.RowKit
open Go.Tin
set_option linter.unusedVariables false
set_option linter.unusedSimpArgs false


/-- Is a number a picture's side? -/
def okS (n : Int) : Bool := decide (1 ≤ n) && decide (n ≤ 4096)
theorem okS_t {n : Int} (h : okS n = true) : 1 ≤ n ∧ n ≤ 4096 := by
  unfold okS at h
  simpa using h
theorem okS_f {n : Int} (h : okS n = false) : n < 1 ∨ 4096 < n := by
  unfold okS at h
  simp at h
  omega

theorem rsize_any (n : Int) (w : World) : Calls Try.prog 15 #[.int .i64 n] w fun e w' => e = .returned (.bool (okS n)) ∧ w = w' := by
  by_cases h1 : 1 ≤ n
  · have d1 : decide (1 ≤ n) = true := by simpa using h1
    have hr := Lib.hid (show okS n = decide (n ≤ 4096) by unfold okS; simp [h1])
    go_enter Try.func15, Try.ntmps15
    go_wp2_with fail
    go_ret
    exact ⟨ret_bool hr.out.symm, rfl⟩
  · have d1 : decide (1 ≤ n) = false := by simpa using h1
    have hr := Lib.hid (show okS n = false by unfold okS; simp [h1])
    clear h1
    go_enter Try.func15, Try.ntmps15
    go_wp2_with fail
    go_ret
    exact ⟨ret_bool hr.out.symm, rfl⟩

theorem all_take (l : List Int) (j : Nat) (hj : j < l.length) : (l.take (j + 1)).all okS = ((l.take j).all okS && okS (nth l j)) := by
  rw [List.take_add_one, List.all_append]
  simp [nth, List.getD_eq_getElem?_getD, hj]

theorem size_any (A : Option Addr) (c : Nat) (l : List Int) (w : World) (hs : Sl .i64 w A l) (hl : l.length ≤ 1000) : Calls Try.prog 53 #[.slice A l.length c] w fun e w' => e = .returned (.bool (l.all okS)) ∧ w = w' := by
  have HS := Lib.hid hs
  clear hs
  go_enter Try.func53, Try.ntmps53
  go_wp2_with fail
  go_loop [4, 7] (fun s4 s7 => ∃ j : Nat, j ≤ l.length ∧ s7 = .int .i64 (j : Int) ∧ (l.take j).all okS = true) (fun _ s7 => l.length - (intOf s7).toNat)
  case atStart => exact ⟨0, by omega, rfl, by simp⟩
  case round =>
    obtain ⟨j, hj, rfl, hall⟩ := hrel
    have HA := Lib.hid hall
    clear hall
    by_cases hjl : j < l.length
    · obtain ⟨b, off, rfl, hlt, hc⟩ := HS.out.at_ (by omega)
      have c1 := hc j hjl
      have hj1 : (j : Int) < (l.length : Int) := by omega
      rw [show l.getD j 0 = nth l j from rfl] at c1
      clear hc
      by_cases ho : okS (nth l j) = true
      · have hb := okS_t ho
        have d1 : decide (nth l j < 1) = false := by simp; omega
        have d2 : decide (4096 < nth l j) = false := by simp; omega
        have HN := Lib.hid (show (l.take (j + 1)).all okS = true by rw [all_take l j hjl, HA.out, ho]; rfl)
        clear hb ho
        go_wp2_with fail
        go_round
        case rel => exact ⟨j + 1, by omega, by go_num, HN.out⟩
        case measure => simp [intOf]; omega
      · have ho' : okS (nth l j) = false := by simpa using ho
        have HN := Lib.hid (show l.all okS = false by
          rw [List.all_eq_false]
          exact ⟨nth l j, by simp [nth, List.getD_eq_getElem?_getD, hjl], by simpa using ho⟩)
        have hb := okS_f ho'
        by_cases h1 : nth l j < 1
        · have d1 : decide (nth l j < 1) = true := by simpa using h1
          clear hb ho ho'
          go_wp2_with fail
          go_ret
          exact ⟨ret_bool HN.out.symm, rfl⟩
        · have d1 : decide (nth l j < 1) = false := by simpa using h1
          have d2 : decide (4096 < nth l j) = true := by simp; omega
          clear hb ho ho' h1
          go_wp2_with fail
          go_ret
          exact ⟨ret_bool HN.out.symm, rfl⟩
    · have hj1 : (l.length : Int) ≤ (j : Int) := by omega
      obtain rfl : j = l.length := by omega
      have HN := Lib.hid (show l.all okS = true by have := HA.out; rwa [List.take_length] at this)
      go_wp2_with fail
      go_ret
      exact ⟨ret_bool HN.out.symm, rfl⟩
end Go.Proofs.Ytajobboldjgidaa
