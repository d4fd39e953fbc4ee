/- Sides, few numbers: ContainsFunc of numbers. -/
import Derived.Test.YtajobboldjgidaaClA
import Derived.Test.YtajobboldjgidaaRaA
namespace Go.Proofs.Ytajobboldjgidaa
open Go.RowKit
open Go.Tin
set_option linter.unusedVariables false
set_option linter.unusedSimpArgs false


theorem any_notI (p : Int → Bool) {l : List Int} (h : (l.take l.length).any p = false) : l.any p = false := by rwa [List.take_length] at h
theorem any_nextI (p : Int → Bool) {l : List Int} {i : Nat} (hi : i < l.length) : (l.take (i + 1)).any p = ((l.take i).any p || p (nth l i)) := by
  rw [List.take_add_one, List.any_append]
  simp [nth, List.getD_eq_getElem?_getD, hi]
theorem any_atI (p : Int → Bool) {l : List Int} {i : Nat} (hi : i < l.length) (h : p (nth l i) = true) : l.any p = true := by
  rw [List.any_eq_true]
  exact ⟨nth l i, by simp [nth, List.getD_eq_getElem?_getD, hi], h⟩
set_option maxRecDepth 100000 in
set_option maxHeartbeats 4000000 in
theorem indexI_any (F : FuncId) (hf : ∀ (vs : Array Value) (W : World), (callFunc F vs).run Try.prog W = .ok (.enter F vs) W) (q : Int → Bool) (A : Option Addr) (c : Nat) (l : List Int) (w : World) (hs : Sl .i64 w A l) (hn : l.length ≤ 1000000000)
    (hq : ∀ (n : Int) (W : World), Calls Try.prog F #[.int .i64 n] W fun e w' => e = .returned (.bool (q n)) ∧ W = w') :
    Calls Try.prog 64 #[.slice A l.length c, .func (.func F) #[] #[]] w fun e w' => ∃ r : Int, e = .returned (.int .i64 r) ∧ decide (0 ≤ r) = l.any q ∧ w = w' := by
  have HS := Lib.hid hs
  have HQ := Lib.hid hq
  clear hs hq
  go_enter Try.func64, Try.ntmps64
  go_wp2_with fail
  go_loop [8] (fun s8 => ∃ (i : Nat), i ≤ l.length ∧ s8 = .int .i64 (i : Int) ∧ (l.take i).any q = false) (fun s8 => l.length - (intOf s8).toNat)
  case atStart => exact ⟨0, by omega, rfl, rfl⟩
  case round =>
    obtain ⟨i, hi, rfl, hno⟩ := hrel
    have HN := Lib.hid hno
    clear hno
    by_cases hil : i < l.length
    case neg =>
      obtain rfl : i = l.length := by omega
      go_wp2_with fail
      go_ret
      exact ⟨_, rfl, by rw [any_notI q HN.out]; rfl, rfl⟩
    have i1 : (i : Int) < (l.length : Int) := by omega
    obtain ⟨b, off, rfl, hlt, hc⟩ := HS.out.at_ (by omega)
    have c1 := hc i hil
    rw [show l.getD i 0 = nth l i from rfl] at c1
    have HX := Lib.hid (any_nextI q hil)
    have HAT := Lib.hid (fun h => any_atI q hil h)
    clear hc
    go_wp2_with fail
    refine Calls.mono (HQ.out (nth l i) _) ?_
    cases hq : q (nth l i) with
    | true =>
      have HE := Lib.hid (HAT.out hq)
      clear hq
      rintro e w' ⟨rfl, rfl⟩
      go_wp2_with fail
      go_ret
      exact ⟨_, rfl, by rw [HE.out]; simp, rfl⟩
    | false =>
      have HE := Lib.hid hq
      clear hq
      rintro e w' ⟨rfl, rfl⟩
      go_wp2_with fail
      go_round
      case rel => exact ⟨i + 1, by omega, by go_num, by rw [HX.out, HN.out, HE.out]; rfl⟩
      case measure => simp only [intOf]; omega
set_option maxRecDepth 100000 in
theorem containsI_any (F : FuncId) (hf : ∀ (vs : Array Value) (W : World), (callFunc F vs).run Try.prog W = .ok (.enter F vs) W) (q : Int → Bool) (A : Option Addr) (c : Nat) (l : List Int) (w : World) (hs : Sl .i64 w A l) (hn : l.length ≤ 1000000000)
    (hq : ∀ (n : Int) (W : World), Calls Try.prog F #[.int .i64 n] W fun e w' => e = .returned (.bool (q n)) ∧ W = w') :
    Calls Try.prog 54 #[.slice A l.length c, .func (.func F) #[] #[]] w fun e w' => e = .returned (.bool (l.any q)) ∧ w = w' := by
  have HI := Lib.hid (indexI_any F hf q A c l w hs hn hq)
  clear hs hq
  go_enter Try.func54, Try.ntmps54
  go_wp2_with fail
  refine Calls.mono HI.out ?_
  rintro e w' ⟨r, rfl, hr, rfl⟩
  have HR := Lib.hid hr
  clear hr
  go_wp2_with fail
  go_ret
  exact ⟨ret_bool (by rw [HR.out]), rfl⟩
/-- Is a number how many blocks there may be? -/
def okF (n : Int) : Bool := decide (1 ≤ n) && decide (n ≤ 512)
theorem okF_t {n : Int} (h : okF n = true) : 1 ≤ n ∧ n ≤ 512 := by
  unfold okF at h
  simpa using h
theorem okF_f {n : Int} (h : okF n = false) : n < 1 ∨ 512 < n := by
  unfold okF at h
  simp at h
  omega
theorem side1_any (n : Int) (w : World) : Calls Try.prog 57 #[.int .i64 n] w fun e w' => e = .returned (.bool (!okS n)) ∧ w = w' := by
  by_cases h1 : n < 1
  · have HR := Lib.hid (show (!okS n) = true by unfold okS; rw [decide_eq_false (show ¬ 1 ≤ n by omega)]; rfl)
    go_enter Try.func57, Try.ntmps57
    go_wp2_with fail
    go_ret
    exact ⟨ret_bool HR.out.symm, rfl⟩
  · have HR := Lib.hid (show (!okS n) = (decide (n < 1) || decide (4096 < n)) by unfold okS; rw [decide_eq_true (show 1 ≤ n by omega), decide_eq_false (show ¬ n < 1 by omega), Bool.true_and, Bool.false_or, Bool.eq_iff_iff]; simp)
    have i1 : 1 ≤ n := by omega
    clear h1
    go_enter Try.func57, Try.ntmps57
    go_wp2_with fail
    go_ret
    exact ⟨ret_bool HR.out.symm, rfl⟩
theorem few1_any (n : Int) (w : World) : Calls Try.prog 56 #[.int .i64 n] w fun e w' => e = .returned (.bool (!okF n)) ∧ w = w' := by
  by_cases h1 : n < 1
  · have HR := Lib.hid (show (!okF n) = true by unfold okF; rw [decide_eq_false (show ¬ 1 ≤ n by omega)]; rfl)
    go_enter Try.func56, Try.ntmps56
    go_wp2_with fail
    go_ret
    exact ⟨ret_bool HR.out.symm, rfl⟩
  · have HR := Lib.hid (show (!okF n) = (decide (n < 1) || decide (512 < n)) by unfold okF; rw [decide_eq_true (show 1 ≤ n by omega), decide_eq_false (show ¬ n < 1 by omega), Bool.true_and, Bool.false_or, Bool.eq_iff_iff]; simp)
    have i1 : 1 ≤ n := by omega
    clear h1
    go_enter Try.func56, Try.ntmps56
    go_wp2_with fail
    go_ret
    exact ⟨ret_bool HR.out.symm, rfl⟩
/-- Is a number a sample? -/
def okV (n : Int) : Bool := decide (0 ≤ n) && decide (n ≤ 255)
theorem okV_clamp (n : Int) : (clamp n != n) = !okV n := by
  unfold okV clamp
  split
  · rename_i h
    rw [decide_eq_false (show ¬ 0 ≤ n by omega)]
    simp; omega
  · split
    · rename_i h
      rw [decide_eq_false (show ¬ n ≤ 255 by omega), Bool.and_false]
      simp; omega
    · rw [decide_eq_true (show 0 ≤ n by omega), decide_eq_true (show n ≤ 255 by omega)]
      simp
theorem right1_any (n : Int) (w : World) : Calls Try.prog 55 #[.int .i64 n] w fun e w' => e = .returned (.bool (!okV n)) ∧ w = w' := by
  have HR := Lib.hid (okV_clamp n)
  go_enter Try.func55, Try.ntmps55
  go_wp2_with fail
  refine (clamp_any n _).mono ?_
  rintro e w' ⟨rfl, rfl⟩
  go_wp2_with fail
  go_ret
  exact ⟨ret_bool HR.out, rfl⟩
theorem all_any_not (p : Int → Bool) (l : List Int) : (!(l.any fun n => !p n)) = l.all p := by
  rw [List.all_eq_not_any_not]
theorem side_any (A : Option Addr) (c : Nat) (l : List Int) (w : World) (hs : Sl .i64 w A l) (hl : l.length ≤ 1000) : Calls Try.prog 36 #[.slice A l.length c] w fun e w' => e = .returned (.bool (l.all okS)) ∧ w = w' := by
  have HI := Lib.hid (containsI_any 57 (fun _ _ => by rfl) (fun n => !okS n) A c l w hs (by omega) side1_any)
  have HA := Lib.hid (all_any_not okS l)
  clear hs
  go_enter Try.func36, Try.ntmps36
  go_wp2_with fail
  refine Calls.mono HI.out ?_
  rintro e w' ⟨rfl, rfl⟩
  go_wp2_with fail
  go_ret
  exact ⟨ret_bool HA.out, rfl⟩
theorem few_any (A : Option Addr) (c : Nat) (l : List Int) (w : World) (hs : Sl .i64 w A l) (hl : l.length ≤ 1000) : Calls Try.prog 34 #[.slice A l.length c] w fun e w' => e = .returned (.bool (l.all okF)) ∧ w = w' := by
  have HI := Lib.hid (containsI_any 56 (fun _ _ => by rfl) (fun n => !okF n) A c l w hs (by omega) few1_any)
  have HA := Lib.hid (all_any_not okF l)
  clear hs
  go_enter Try.func34, Try.ntmps34
  go_wp2_with fail
  refine Calls.mono HI.out ?_
  rintro e w' ⟨rfl, rfl⟩
  go_wp2_with fail
  go_ret
  exact ⟨ret_bool HA.out, rfl⟩
end Go.Proofs.Ytajobboldjgidaa
