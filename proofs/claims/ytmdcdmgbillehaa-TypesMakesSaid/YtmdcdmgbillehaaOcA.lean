/- The contracts of a size and an order: may, top. -/
import Derived.Test.YtmdcdmgbillehaaRows
import Derived.WalkKit
import Derived.Lib.Hide
import Derived.Test.YtmdcdmgbillehaaOcM
import Derived.Test.YtmdcdmgbillehaaReg
import Derived.Test.YtmdcdmgbillehaaArr
import Derived.Outline
namespace Go.Proofs.Ytmdcdmgbillehaa
open Go.RowKit
open Go.Tin
set_option linter.unusedVariables false
set_option linter.unusedSimpArgs false


theorem hcf (f : FuncId) (fn : Func) (c : Code) (hf : Try.prog.funcs[f]? = some fn) (hname : (fn.name == "runtime.NumGoroutine") = false) (hb : fn.body = some c) (vs : Array Value) (W : World) : (callFunc f vs).run Try.prog W = .ok (.enter f vs) W := by
  have hne : ¬ fn.name = "runtime.NumGoroutine" := by simpa using hname
  simp [callFunc, Sem.run_bind, run_program, hf, hb, hne]
theorem any_at (l : List Int) (q : Int → Bool) (j : Nat) (hj : j < l.length) (h : q (nth l j) = true) : l.any q = true := by
  rw [List.any_eq_true]
  exact ⟨l[j], List.getElem_mem hj, by simpa [nth, List.getD_eq_getElem?_getD, hj] using h⟩
theorem any_not (l : List Int) (q : Int → Bool) (h : ∀ j, j < l.length → q (nth l j) = false) : l.any q = false := by
  rw [List.any_eq_false]
  intro z hz
  obtain ⟨j, hj, rfl⟩ := List.mem_iff_getElem.1 hz
  have := h j hj
  simpa [nth, List.getD_eq_getElem?_getD, hj] using this

/- slices.ContainsFunc of integers ([]int), with a function that has captured one places. -/
set_option maxRecDepth 100000 in
set_option maxHeartbeats 2000000 in
theorem index_1 (F : FuncId) (fn : Func) (cd : Code) (hfn : Try.prog.funcs[F]? = some fn) (hname : (fn.name == "runtime.NumGoroutine") = false) (hbd : fn.body = some cd) (p : Value) (q : Int → Bool) (A : Option Addr) (l : List Int) (c : Nat) (w : World) (hs : Sl .i64 w A l) (hl : l.length ≤ 1000000000)
    (hq : ∀ j, j < l.length → Calls Try.prog F #[.int .i64 (nth l j), p] w fun e w' => e = .returned (.bool (q (nth l j))) ∧ w = w') :
    Calls Try.prog 79 #[.slice A l.length c, .func (.func F) #[] #[p]] w fun e w' => ∃ r : Int, e = .returned (.int .i64 r) ∧ decide (0 ≤ r) = l.any q ∧ w = w' := by
  have HS := Lib.hid hs
  have HQ := Lib.hid hq
  clear hs hq
  have hf := hcf F fn cd hfn hname hbd
  clear hfn hname hbd
  go_enter Try.func79, Try.ntmps79
  go_wp2_with fail
  go_loopw [8] (fun s8 wr => ∃ (i : Nat), i ≤ l.length ∧ s8 = .int .i64 (i : Int) ∧ (∀ j, j < i → q (nth l j) = false) ∧ w = wr) (fun s8 _ => l.length - (intOf s8).toNat)
  case atStart => exact ⟨0, by omega, rfl, fun j h => absurd h (Nat.not_lt_zero _), rfl⟩
  case round =>
    obtain ⟨i, hi, rfl, hno, rfl⟩ := hrel
    have HN := Lib.hid hno
    clear hno
    by_cases hil : i < l.length
    · have i1 : (i : Int) < (l.length : Int) := by omega
      obtain ⟨b, off, rfl, hlt, hcell⟩ := HS.out.at_ (by omega)
      have k0 := hcell i hil
      rw [show l.getD i 0 = nth l i from rfl] at k0
      clear hcell
      go_wp2_with fail
      refine Calls.mono (HQ.out i hil) ?_
      by_cases hq : q (nth l i) = true
      · rw [hq]
        rintro e w' ⟨rfl, rfl⟩
        go_wp2_with fail
        go_ret
        exact ⟨_, rfl, by rw [any_at l q i hil hq]; simp, rfl⟩
      · have hq' : q (nth l i) = false := by simpa using hq
        rw [hq']
        rintro e w' ⟨rfl, rfl⟩
        go_wp2_with fail
        go_roundw
        case rel => exact ⟨i + 1, by omega, by go_num, fun j hj => by rcases (by omega : j < i ∨ j = i) with h | rfl; exact HN.out j h; exact hq', by simp⟩
        case measure => simp [intOf]; omega
    · obtain rfl : i = l.length := by omega
      go_wp2_with fail
      go_ret
      exact ⟨_, rfl, by rw [any_not l q HN.out]; rfl, rfl⟩
set_option maxRecDepth 100000 in
theorem contains_1 (F : FuncId) (fn : Func) (cd : Code) (hfn : Try.prog.funcs[F]? = some fn) (hname : (fn.name == "runtime.NumGoroutine") = false) (hbd : fn.body = some cd) (p : Value) (q : Int → Bool) (A : Option Addr) (l : List Int) (c : Nat) (w : World) (hs : Sl .i64 w A l) (hl : l.length ≤ 1000000000)
    (hq : ∀ j, j < l.length → Calls Try.prog F #[.int .i64 (nth l j), p] w fun e w' => e = .returned (.bool (q (nth l j))) ∧ w = w') :
    Calls Try.prog 77 #[.slice A l.length c, .func (.func F) #[] #[p]] w fun e w' => e = .returned (.bool (l.any q)) ∧ w = w' := by
  have HI := Lib.hid (index_1 F fn cd hfn hname hbd p q A l c w hs hl hq)
  clear hs hq hfn hname hbd
  go_enter Try.func77, Try.ntmps77
  go_wp2_with fail
  refine Calls.mono HI.out ?_
  rintro e w' ⟨r, rfl, hr, rfl⟩
  have HR := Lib.hid hr
  clear hr
  go_wp2_with fail
  go_ret
  exact ⟨ret_bool (by rw [HR.out]), rfl⟩


theorem may1_any (s x : Int) (g : Nat) (w : World) (hc : w.cell? ⟨g, 0, none⟩ = some (.int .i64 s)) : Calls Try.prog 78 #[.int .i64 x, .pointer (some ⟨g, 0, none⟩)] w fun e w' => e = .returned (.bool (decide (x = s))) ∧ w = w' := by
  go_enter Try.func78, Try.ntmps78
  go_wp2_with fail
  go_ret
  exact ⟨rfl, rfl⟩

theorem szB_any (s : Int) : ([1, 2, 4] : List Int).any (fun x => decide (x = s)) = szB s := by
  unfold szB
  simp only [List.any_cons, List.any_nil, Bool.or_false]
  rw [Bool.eq_iff_iff]
  simp only [Bool.or_eq_true, decide_eq_true_eq]
  omega

set_option maxRecDepth 100000 in
theorem may_any (s o : Int) (w : World) : Calls Try.prog 67 #[.int .i64 s, .int .i64 o] w fun e w' => e = .returned (.bool (mayO s o)) ∧ Below w.heap.size w w' := by
  have HC : ∀ W : World, W.cell? ⟨w.heap.size, 0, none⟩ = some (.int .i64 s) → Hid (∀ j, j < ([1, 2, 4] : List Int).length → Calls Try.prog 78 #[.int .i64 (nth [1, 2, 4] j), .pointer (some ⟨w.heap.size, 0, none⟩)] W fun e w' => e = .returned (.bool ((fun x => decide (x = s)) (nth [1, 2, 4] j))) ∧ W = w') := fun W hW => Lib.hid fun j _ => may1_any s _ _ W hW
  go_enter Try.func67, Try.ntmps67
  go_wp2_with fail
  generalize hW3 : (w.alloc _).alloc _ = W3 at *
  have hb3 : Below w.heap.size w W3 := by rw [← hW3]; exact ba (ba (brefl w) _) _
  have hc3 : W3.cell? ⟨w.heap.size, 0, none⟩ = some (.int .i64 s) := by rw [← hW3]; simp [go_sem]
  have hs3 : Sl .i64 W3 (some ⟨w.heap.size + 1, 0, none⟩) [1, 2, 4] := by rw [← hW3]; have := Sl.new_ (k := .i64) (w.alloc (.cells #[.int .i64 s] 3)) 86 #[.int .i64 1, .int .i64 2, .int .i64 4] [1, 2, 4] rfl; simpa using this
  clear hW3
  refine (contains_1 78 _ _ Try.func78 (by kernel_rfl) rfl _ (fun x => decide (x = s)) (some ⟨w.heap.size + 1, 0, none⟩) [1, 2, 4] 3 W3 hs3 (by simp) (HC W3 hc3).out).mono ?_
  rintro e w' ⟨rfl, rfl⟩
  rw [szB_any]
  clear HC hs3 hc3
  by_cases h : szB s = true
  · have HR := Lib.hid (show mayO s o = orB o by unfold mayO; rw [h]; rfl)
    rw [h]
    clear h
    by_cases h1 : o = 1
    · subst h1
      go_wp2_with fail
      go_ret
      exact ⟨ret_bool (by rw [HR.out]; rfl), hb3⟩
    · have d1 : (o == 1) = false := by simpa using h1
      have HO := Lib.hid (show orB o = decide (o = 2) by unfold orB; simp [h1])
      clear h1
      go_wp2_with fail
      go_ret
      exact ⟨ret_bool (HR.out.trans HO.out).symm, hb3⟩
  · have h' : szB s = false := by simpa using h
    have HR := Lib.hid (show mayO s o = false by unfold mayO; rw [h']; rfl)
    rw [h']
    clear h h'
    go_wp2_with fail
    go_ret
    exact ⟨ret_bool (by rw [HR.out]), hb3⟩

theorem top_any (s : Int) (w : World) (hs : szB s = true) : Calls Try.prog 75 #[.int .i64 s] w fun e w' => e = .returned (.int .i64 (topI s)) ∧ w = w' := by
  rcases szB_t hs with rfl | rfl | rfl <;> clear hs <;> (go_enter Try.func75, Try.ntmps75; go_wp2_with fail; go_ret; exact ⟨ret_int (by decide), rfl⟩)

theorem rtop_any (s : Int) (w : World) : Calls Try.prog 69 #[.int .i64 s] w fun e w' => e = .returned (.int .i64 (topI s)) ∧ w = w' := by
  by_cases h1 : s = 1
  · subst h1
    go_enter Try.func69, Try.ntmps69
    go_wp2_with fail
    go_ret
    exact ⟨ret_int (by decide), rfl⟩
  by_cases h2 : s = 2
  · subst h2
    go_enter Try.func69, Try.ntmps69
    go_wp2_with fail
    go_ret
    exact ⟨ret_int (by decide), rfl⟩
  by_cases h4 : s = 4
  · subst h4
    go_enter Try.func69, Try.ntmps69
    go_wp2_with fail
    go_ret
    exact ⟨ret_int (by decide), rfl⟩
  have HR := Lib.hid (show topI s = 0 by unfold topI; rw [if_neg h1, if_neg h2, if_neg h4])
  have d1 : (s == 1) = false := by simpa using h1
  have d2 : (s == 2) = false := by simpa using h2
  have d4 : (s == 4) = false := by simpa using h4
  clear h1 h2 h4
  go_enter Try.func69, Try.ntmps69
  go_wp2_with fail
  go_ret
  exact ⟨ret_int (by rw [HR.out]), rfl⟩
end Go.Proofs.Ytmdcdmgbillehaa
