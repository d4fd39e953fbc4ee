/- The contracts of ratios that are plain, signed, and of a ratio's bytes. -/
import Derived.Test.YtmdcdmgbillehaaTzC
namespace Go.Proofs.Ytmdcdmgbillehaa
open Go.RowKit
open Go.Tin
set_option linter.unusedVariables false
set_option linter.unusedSimpArgs false


def rpB (a b : Int) : Bool := putB a 4 2 && putB b 4 2
def rsB (a b : Int) : Bool := plB a 4 && plB b 4
set_option maxRecDepth 100000 in
theorem pplain_any (a b : Int) (w : World) : Calls Try.prog 64 #[.agg #[.int .i64 a, .int .i64 b]] w fun e w' => e = .returned (.bool (rpB a b)) ∧ Below w.heap.size w w' := by
  have HB := Lib.hid (ba (brefl w) (.cells #[.int .i64 a, .int .i64 b] 81))
  have HR := Lib.hid (heap_alloc_new w (.cells #[.int .i64 a, .int .i64 b] 81))
  have HD := Lib.hid (show rpB a b = (putB a 4 2 && putB b 4 2) from rfl)
  have k0 := row_cell (v := .int .i64 a) HR.out 0 rfl
  go_enter Try.func64, Try.ntmps64
  go_wp2_with fail
  refine (put_any a 4 2 _).mono ?_
  rintro e w1 ⟨A1, c1, rfl, -, hb1⟩
  have HR1 := Lib.hid ((hb1.block _ (row_lt HR.out)).trans HR.out)
  have HB1 := Lib.hid (HB.out.trans (hb1.mono HB.out.size))
  clear hb1 k0
  have k1 := row_cell (v := .int .i64 b) HR1.out 1 rfl
  go_wp2_with fail
  refine (put_any b 4 2 _).mono ?_
  rintro e w2 ⟨A2, c2, rfl, -, hb2⟩
  have HB2 := Lib.hid (HB1.out.trans (hb2.mono HB1.out.size))
  clear hb2 k1
  generalize putL a 4 2 = l1
  generalize putL b 4 2 = l2
  cases hp : putB a 4 2 <;> cases hq : putB b 4 2
  all_goals
    have HE := Lib.hid (by have h := HD.out; rw [hp, hq] at h; exact h)
    clear hp hq
    go_wp2_with fail
    go_ret
    exact ⟨by rw [HE.out]; rfl, HB2.out⟩
set_option maxRecDepth 100000 in
theorem psigned_any (a b : Int) (w : World) : Calls Try.prog 65 #[.agg #[.int .i64 a, .int .i64 b]] w fun e w' => e = .returned (.bool (rsB a b)) ∧ Below w.heap.size w w' := by
  have HB := Lib.hid (ba (brefl w) (.cells #[.int .i64 a, .int .i64 b] 81))
  have HR := Lib.hid (heap_alloc_new w (.cells #[.int .i64 a, .int .i64 b] 81))
  have HD := Lib.hid (show rsB a b = (plB a 4 && plB b 4) from rfl)
  have k0 := row_cell (v := .int .i64 a) HR.out 0 rfl
  go_enter Try.func65, Try.ntmps65
  go_wp2_with fail
  refine (plain_any a 4 _).mono ?_
  rintro e w1 ⟨rfl, hb1⟩
  have HR1 := Lib.hid ((hb1.block _ (row_lt HR.out)).trans HR.out)
  have HB1 := Lib.hid (HB.out.trans (hb1.mono HB.out.size))
  clear hb1 k0
  have k1 := row_cell (v := .int .i64 b) HR1.out 1 rfl
  go_wp2_with fail
  refine (plain_any b 4 _).mono ?_
  rintro e w2 ⟨rfl, hb2⟩
  have HB2 := Lib.hid (HB1.out.trans (hb2.mono HB1.out.size))
  clear hb2 k1
  cases hp : plB a 4 <;> cases hq : plB b 4
  all_goals
    have HE := Lib.hid (by have h := HD.out; rw [hp, hq] at h; exact h)
    clear hp hq
    go_wp2_with fail
    go_ret
    exact ⟨by rw [HE.out]; rfl, HB2.out⟩
theorem rtR : RT Try.prog 55 2 := RT.of Try.underlying55 rfl (by kernel_rfl)
theorem rplainq_any (a b : Int) (w : World) : Calls Try.prog 42 #[.agg #[.int .i64 a, .int .i64 b]] w fun e w' => e = .returned (.bool (rpB a b)) ∧ Below w.heap.size w w' := by
  have HB := Lib.hid (ba (brefl w) (.cells #[.int .i64 a, .int .i64 b] 55))
  have HR := Lib.hid (heap_alloc_new w (.cells #[.int .i64 a, .int .i64 b] 55))
  go_enter Try.func42, Try.ntmps42
  go_wp2_with ((with_reducible refine wpl_load_row rtR ?_ (.tmp 1) ?_ (w.heap.size) ?_ 55 #[.int .i64 a, .int .i64 b] ?_ HR.out ?_); rfl; rfl; rfl; rfl; simp only [Act.put, List.setIfInBounds_toArray, List.set_cons_succ, List.set_cons_zero])
  refine (pplain_any a b _).mono ?_
  rintro e w1 ⟨rfl, hb1⟩
  go_wp2_with fail
  go_ret
  exact ⟨rfl, HB.out.trans (hb1.mono HB.out.size)⟩
theorem rsignq_any (a b : Int) (w : World) : Calls Try.prog 43 #[.agg #[.int .i64 a, .int .i64 b]] w fun e w' => e = .returned (.bool (rsB a b)) ∧ Below w.heap.size w w' := by
  have HB := Lib.hid (ba (brefl w) (.cells #[.int .i64 a, .int .i64 b] 55))
  have HR := Lib.hid (heap_alloc_new w (.cells #[.int .i64 a, .int .i64 b] 55))
  go_enter Try.func43, Try.ntmps43
  go_wp2_with ((with_reducible refine wpl_load_row rtR ?_ (.tmp 1) ?_ (w.heap.size) ?_ 55 #[.int .i64 a, .int .i64 b] ?_ HR.out ?_); rfl; rfl; rfl; rfl; simp only [Act.put, List.setIfInBounds_toArray, List.set_cons_succ, List.set_cons_zero])
  refine (psigned_any a b _).mono ?_
  rintro e w1 ⟨rfl, hb1⟩
  go_wp2_with fail
  go_ret
  exact ⟨rfl, HB.out.trans (hb1.mono HB.out.size)⟩
/-- A ratio's bytes, and may it be one of a type? -/
def rtL (k a b : Int) : List Int := kpL k a ++ kpL k b
def rtQ (k a b : Int) : Bool := nmB k a && (nmB k b && (rpB a b || rsB a b))
end Go.Proofs.Ytmdcdmgbillehaa
