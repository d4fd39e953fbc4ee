/- The contracts of within, May, nearest, times, and of the functions by which numbers are scaled. -/
import Derived.Test.YtaahphocoedmdaaRows
import Derived.Test.YtaahphocoedmdaaZgE
import Derived.Test.YtaahphocoedmdaaReg
import Derived.Test.YtaahphocoedmdaaRes
import Derived.Test.YtaahphocoedmdaaArq
import Derived.Test.YtaahphocoedmdaaOpn
import Derived.Test.YtaahphocoedmdaaOws
namespace Go.Proofs.Ytaahphocoedmdaa
open Go.RowKit
open Go.Tin
set_option linter.unusedVariables false
set_option linter.unusedSimpArgs false


theorem hcf (f : FuncId) (fn : Func) (c : Code) (hf : Try.prog.funcs[f]? = some fn) (hname : (fn.name == "runtime.NumGoroutine") = false) (hb : fn.body = some c) (vs : Array Value) (W : World) : (callFunc f vs).run Try.prog W = .ok (.enter f vs) W := by
  have hne : ¬ fn.name = "runtime.NumGoroutine" := by simpa using hname
  simp [callFunc, Sem.run_bind, run_program, hf, hb, hne]
theorem any_at (l : List Int) (q : Int → Bool) (j : Nat) (hj : j < l.length) (h : q (nth l j) = true) : l.any q = true := by
  rw [List.any_eq_true]
  exact ⟨l[j], List.getElem_mem hj, by simpa [nth, List.getD_eq_getElem?_getD, hj] using h⟩
theorem any_not (l : List Int) (q : Int → Bool) (h : ∀ j, j < l.length → q (nth l j) = false) : l.any q = false := by
  rw [List.any_eq_false]
  intro z hz
  obtain ⟨j, hj, rfl⟩ := List.mem_iff_getElem.1 hz
  have := h j hj
  simpa [nth, List.getD_eq_getElem?_getD, hj] using this

/- slices.ContainsFunc of integers ([]int), with a function that has captured two places. -/
set_option maxRecDepth 100000 in
set_option maxHeartbeats 2000000 in
theorem index_2 (F : FuncId) (fn : Func) (cd : Code) (hfn : Try.prog.funcs[F]? = some fn) (hname : (fn.name == "runtime.NumGoroutine") = false) (hbd : fn.body = some cd) (p p' : Value) (q : Int → Bool) (A : Option Addr) (l : List Int) (c : Nat) (w : World) (hs : Sl .i64 w A l) (hl : l.length ≤ 1000000000)
    (hq : ∀ j, j < l.length → Calls Try.prog F #[.int .i64 (nth l j), p, p'] w fun e w' => e = .returned (.bool (q (nth l j))) ∧ w = w') :
    Calls Try.prog 35 #[.slice A l.length c, .func (.func F) #[] #[p, p']] w fun e w' => ∃ r : Int, e = .returned (.int .i64 r) ∧ decide (0 ≤ r) = l.any q ∧ w = w' := by
  have HS := Lib.hid hs
  have HQ := Lib.hid hq
  clear hs hq
  have hf := hcf F fn cd hfn hname hbd
  clear hfn hname hbd
  go_enter Try.func35, Try.ntmps35
  go_wp2_with fail
  go_loopw [8] (fun s8 wr => ∃ (i : Nat), i ≤ l.length ∧ s8 = .int .i64 (i : Int) ∧ (∀ j, j < i → q (nth l j) = false) ∧ w = wr) (fun s8 _ => l.length - (intOf s8).toNat)
  case atStart => exact ⟨0, by omega, rfl, fun j h => absurd h (Nat.not_lt_zero _), rfl⟩
  case round =>
    obtain ⟨i, hi, rfl, hno, rfl⟩ := hrel
    have HN := Lib.hid hno
    clear hno
    by_cases hil : i < l.length
    · have i1 : (i : Int) < (l.length : Int) := by omega
      obtain ⟨b, off, rfl, hlt, hcell⟩ := HS.out.at_ (by omega)
      have k0 := hcell i hil
      rw [show l.getD i 0 = nth l i from rfl] at k0
      clear hcell
      go_wp2_with fail
      refine Calls.mono (HQ.out i hil) ?_
      by_cases hq : q (nth l i) = true
      · rw [hq]
        rintro e w' ⟨rfl, rfl⟩
        go_wp2_with fail
        go_ret
        exact ⟨_, rfl, by rw [any_at l q i hil hq]; simp, rfl⟩
      · have hq' : q (nth l i) = false := by simpa using hq
        rw [hq']
        rintro e w' ⟨rfl, rfl⟩
        go_wp2_with fail
        go_roundw
        case rel => exact ⟨i + 1, by omega, by go_num, fun j hj => by rcases (by omega : j < i ∨ j = i) with h | rfl; exact HN.out j h; exact hq', by simp⟩
        case measure => simp [intOf]; omega
    · obtain rfl : i = l.length := by omega
      go_wp2_with fail
      go_ret
      exact ⟨_, rfl, by rw [any_not l q HN.out]; rfl, rfl⟩
set_option maxRecDepth 100000 in
theorem contains_2 (F : FuncId) (fn : Func) (cd : Code) (hfn : Try.prog.funcs[F]? = some fn) (hname : (fn.name == "runtime.NumGoroutine") = false) (hbd : fn.body = some cd) (p p' : Value) (q : Int → Bool) (A : Option Addr) (l : List Int) (c : Nat) (w : World) (hs : Sl .i64 w A l) (hl : l.length ≤ 1000000000)
    (hq : ∀ j, j < l.length → Calls Try.prog F #[.int .i64 (nth l j), p, p'] w fun e w' => e = .returned (.bool (q (nth l j))) ∧ w = w') :
    Calls Try.prog 31 #[.slice A l.length c, .func (.func F) #[] #[p, p']] w fun e w' => e = .returned (.bool (l.any q)) ∧ w = w' := by
  have HI := Lib.hid (index_2 F fn cd hfn hname hbd p p' q A l c w hs hl hq)
  clear hs hq hfn hname hbd
  go_enter Try.func31, Try.ntmps31
  go_wp2_with fail
  refine Calls.mono HI.out ?_
  rintro e w' ⟨r, rfl, hr, rfl⟩
  have HR := Lib.hid hr
  clear hr
  go_wp2_with fail
  go_ret
  exact ⟨ret_bool (by rw [HR.out]), rfl⟩

theorem rtB : RT Try.prog 23 64 := RT.of Try.underlying23 rfl (by kernel_rfl)

def outB (a b n : Int) : Bool := decide (n < a) || decide (b < n)
/-- Are all numbers of a block from a to b? -/
def inL (l : List Int) (a b : Int) : Bool := !l.any (outB a b)
theorem within1_any (a b x : Int) (g g' : Nat) (w : World) (h1 : w.cell? ⟨g, 0, none⟩ = some (.int .i64 a)) (h2 : w.cell? ⟨g', 0, none⟩ = some (.int .i64 b)) :
    Calls Try.prog 32 #[.int .i64 x, .pointer (some ⟨g, 0, none⟩), .pointer (some ⟨g', 0, none⟩)] w fun e w' => e = .returned (.bool (outB a b x)) ∧ w = w' := by
  by_cases h : x < a
  · have d : decide (x < a) = true := by simpa using h
    have HR := Lib.hid (show outB a b x = true by unfold outB; simp [h])
    clear h
    go_enter Try.func32, Try.ntmps32
    go_wp2_with fail
    go_ret
    exact ⟨ret_bool HR.out.symm, rfl⟩
  · have d : decide (x < a) = false := by simpa using h
    have HR := Lib.hid (show outB a b x = decide (b < x) by unfold outB; simp [h])
    clear h
    go_enter Try.func32, Try.ntmps32
    go_wp2_with fail
    go_ret
    exact ⟨ret_bool HR.out.symm, rfl⟩

set_option maxRecDepth 100000 in
set_option maxHeartbeats 1000000 in
theorem within_any (l : List Int) (hl : l.length = 64) (a b : Int) (w : World) : Calls Try.prog 22 #[.agg (arr .i64 l), .int .i64 a, .int .i64 b] w fun e w' => e = .returned (.bool (inL l a b)) ∧ Below w.heap.size w w' := by
  have HL := Lib.hid hl
  clear hl
  go_enter Try.func22, Try.ntmps22
  go_wp2_with fail
  generalize hW3 : ((w.alloc _).alloc _).alloc _ = W3 at *
  have hb3 : Below w.heap.size w W3 := by rw [← hW3]; exact ba (ba (ba (brefl w) _) _) _
  have hc1 : W3.cell? ⟨w.heap.size + 1, 0, none⟩ = some (.int .i64 a) := by rw [← hW3]; simp [go_sem]
  have hc2 : W3.cell? ⟨w.heap.size + 1 + 1, 0, none⟩ = some (.int .i64 b) := by rw [← hW3]; simp [go_sem]
  have hs3 : Sl .i64 W3 (some ⟨w.heap.size, 0, none⟩) l := by
    rw [← hW3]
    exact (Sl.new_ w 23 (arr .i64 l) l arr_toList).keep (ba (ba (brefl _) _) _)
  clear hW3
  have hq := contains_2 32 _ _ Try.func32 (by kernel_rfl) rfl _ _ (outB a b) (some ⟨w.heap.size, 0, none⟩) l 64 W3 hs3 (by rw [HL.out]; omega) (fun j _ => within1_any a b _ (w.heap.size + 1) (w.heap.size + 1 + 1) W3 hc1 hc2)
  rw [HL.out] at hq
  refine hq.mono ?_
  clear hq hs3 hc1 hc2
  rintro e w' ⟨rfl, rfl⟩
  go_wp2_with fail
  go_ret
  exact ⟨rfl, hb3⟩

set_option maxRecDepth 100000 in
theorem may_any (l : List Int) (hl : l.length = 64) (w : World) : Calls Try.prog 10 #[.agg (arr .i64 l)] w fun e w' => e = .returned (.bool (inL l 1 255)) ∧ Below w.heap.size w w' := by
  have HL := Lib.hid hl
  have hg := heap_alloc_new w (.cells (arr .i64 l) 23)
  have HG := Lib.hid hg
  have HC := Lib.hid (fun W => within_any l hl 1 255 W)
  clear hl hg
  go_enter Try.func10, Try.ntmps10
  go_wp2_with ((with_reducible refine wpl_load_arr at27 ?_ (.tmp 1) rfl w.heap.size rfl 23 HL.out HG.out ?_); rfl; simp only [Act.put, List.setIfInBounds_toArray, List.set_cons_succ, List.set_cons_zero])
  refine (HC.out _).mono ?_
  rintro e w1 ⟨rfl, hb⟩
  go_wp2_with fail
  go_ret
  exact ⟨rfl, bt (ba (brefl w) _) hb⟩

/-- A number divided, to the nearest. -/
def nearP (x y : Int) : Int := (2 * x + y) / (2 * y)
def nearI (x y : Int) : Int := if x < 0 then -nearP (-x) y else nearP x y
theorem nearP_bd {x y : Int} (h0 : 0 ≤ x) (h1 : x ≤ 1099511627776) (y0 : 1 ≤ y) : 0 ≤ nearP x y ∧ nearP x y ≤ x + 1 := by
  unfold nearP
  refine ⟨Int.ediv_nonneg (by omega) (by omega), ?_⟩
  apply Int.le_of_lt_add_one
  apply Int.ediv_lt_of_lt_mul (by omega)
  have h2 : (x + 1 + 1) * (2 * y) = 2 * (x * y) + 4 * y := by
    rw [Int.add_mul, Int.add_mul]
    have : x * (2 * y) = 2 * (x * y) := by rw [Int.mul_left_comm]
    omega
  have h3 : x * 1 ≤ x * y := Int.mul_le_mul_of_nonneg_left y0 h0
  omega
theorem near_pos (x y : Int) (w : World) (h0 : 0 ≤ x) (h1 : x ≤ 1099511627776) (y0 : 1 ≤ y) (y1 : y ≤ 255) : Calls Try.prog 27 #[.int .i64 x, .int .i64 y] w fun e w' => e = .returned (.int .i64 (nearP x y)) ∧ w = w' := by
  have b := nearP_bd h0 h1 y0
  unfold nearP at *
  go_enter Try.func27, Try.ntmps27
  go_wp2_with fail
  go_ret
  exact ⟨rfl, rfl⟩
theorem near_any (x y : Int) (w : World) (h0 : -1099511627776 ≤ x) (h1 : x ≤ 1099511627776) (y0 : 1 ≤ y) (y1 : y ≤ 255) : Calls Try.prog 27 #[.int .i64 x, .int .i64 y] w fun e w' => e = .returned (.int .i64 (nearI x y)) ∧ w = w' := by
  by_cases h : x < 0
  · have HN := Lib.hid (show nearI x y = -nearP (-x) y by unfold nearI; rw [if_pos h])
    have HP := Lib.hid (fun W => near_pos (-x) y W (by omega) (by omega) y0 y1)
    have b := nearP_bd (x := -x) (by omega) (by omega) y0
    go_enter Try.func27, Try.ntmps27
    go_wp2_with fail
    refine (HP.out w).mono ?_
    rintro e w1 ⟨rfl, rfl⟩
    obtain ⟨b0, b1⟩ := b
    generalize nearP (-x) y = n at *
    go_wp2_with fail
    go_ret
    exact ⟨ret_int HN.out.symm, rfl⟩
  · have HN := Lib.hid (show nearI x y = nearP x y by unfold nearI; rw [if_neg h])
    refine (near_pos x y w (by omega) h1 y0 y1).mono ?_
    rintro e w1 ⟨rfl, rfl⟩
    exact ⟨ret_int HN.out.symm, rfl⟩
theorem prod_bd {x y M N : Int} (hx0 : -M ≤ x) (hx1 : x ≤ M) (hy0 : 0 ≤ y) (hy1 : y ≤ N) (hM : 0 ≤ M) : -(M * N) ≤ x * y ∧ x * y ≤ M * N := by
  have h1 : x * y ≤ M * y := Int.mul_le_mul_of_nonneg_right hx1 hy0
  have h2 : M * y ≤ M * N := Int.mul_le_mul_of_nonneg_left hy1 hM
  have h3 : -M * y ≤ x * y := Int.mul_le_mul_of_nonneg_right hx0 hy0
  have h4 : -M * y = -(M * y) := Int.neg_mul _ _
  omega
theorem times_any (x y : Int) (w : World) (h0 : -1099511627776 ≤ x) (h1 : x ≤ 1099511627776) (y0 : 1 ≤ y) (y1 : y ≤ 255) : Calls Try.prog 28 #[.int .i64 x, .int .i64 y] w fun e w' => e = .returned (.int .i64 (x * y)) ∧ w = w' := by
  have b := prod_bd h0 h1 (show 0 ≤ y by omega) y1 (by decide)
  obtain ⟨b0, b1⟩ := b
  go_enter Try.func28, Try.ntmps28
  go_wp2_with fail
  go_ret
  exact ⟨rfl, rfl⟩

/-- A number scaled. -/
def scaleI (s x : Int) : Int := min (max ((x * s + 50) / 100) 1) 255
theorem scaled1_any (s x y : Int) (g : Nat) (w : World) (hc : w.cell? ⟨g, 0, none⟩ = some (.int .i64 s)) (s0 : 0 ≤ s) (s1 : s ≤ 5000) (x0 : 1 ≤ x) (x1 : x ≤ 255) : Calls Try.prog 21 #[.int .i64 x, .int .i64 y, .pointer (some ⟨g, 0, none⟩)] w fun e w' => e = .returned (.int .i64 (scaleI s x)) ∧ w = w' := by
  have b := prod_bd (M := 255) (show -255 ≤ x by omega) x1 s0 s1 (by decide)
  have b2 : 0 ≤ x * s := Int.mul_nonneg (by omega) s0
  obtain ⟨b0, b1⟩ := b
  go_enter Try.func21, Try.ntmps21
  go_wp2_with fail
  all_goals
    go_ret
    exact ⟨ret_int (by unfold scaleI; omega), rfl⟩
end Go.Proofs.Ytaahphocoedmdaa
