/- The contracts of Factor and of its reference. -/
import Derived.Test.YtmfipjpmfigjaaaRes
import Derived.Test.YtmfipjpmfigjaaaArq
import Derived.Test.YtmfipjpmfigjaaaRows
import Derived.WalkKit
import Derived.Lib.Hide
import Derived.Sort.WalkA
namespace Go.Proofs.Ytmfipjpmfigjaaa
open Go.RowKit
open Go.Tin
set_option linter.unusedVariables false
set_option linter.unusedSimpArgs false

def cosL : List Int := [23170, 32138, 30274, 27246, 23170, 18205, 12540, 6393, 0]
def turnV (k : Nat) : Int :=
  let s := if k % 32 > 16 then 32 - k % 32 else k % 32
  if s > 8 then - nth cosL (16 - s) else nth cosL s
/-- The factor of two numbers. -/
def facN (u x : Nat) : Int := if u = 0 then 23170 else turnV ((2 * x + 1) * u)
def facV (u x : Int) : Int := if u < 0 ∨ u > 7 ∨ x < 0 ∨ x > 7 then 0 else facN u.toNat x.toNat

theorem at36 : AT Try.prog 36 3 .i64 9 := ⟨Try.underlying36, Try.underlying3, by kernel_rfl, by kernel_rfl⟩
theorem rt36 : RT Try.prog 36 9 := RT.of Try.underlying36 rfl (by kernel_rfl)
set_option maxRecDepth 100000 in
set_option maxHeartbeats 2000000 in
theorem cosines_any (w : World) : Calls Try.prog 18 #[] w fun e w' => e = .returned (.agg #[.int .i64 23170, .int .i64 32138, .int .i64 30274, .int .i64 27246, .int .i64 23170, .int .i64 18205, .int .i64 12540, .int .i64 6393, .int .i64 0]) ∧ Below w.heap.size w w' := by
  go_enter Try.func18, Try.ntmps18
  go_wp2_with fail
  exact bodyPost_ret (res_row rt36 rfl _ _ w.heap.size 36 _ rfl rfl (heap_alloc_new w _)) rfl ⟨rfl, ba (brefl w) _⟩

set_option maxRecDepth 100000 in
set_option maxHeartbeats 8000000 in
theorem turned_any (k : Nat) (hk : k ∈ [1, 2, 3, 4, 5, 6, 7, 9, 10, 11, 12, 13, 14, 15, 18, 20, 21, 22, 25, 26, 27, 28, 30, 33, 35, 36, 39, 42, 44, 45, 49, 52, 54, 55, 60, 63, 65, 66, 75, 77, 78, 90, 91, 105]) (w : World) : Calls Try.prog 19 #[.int .i64 (k : Int)] w fun e w' => e = .returned (.int .i64 (turnV k)) ∧ Below w.heap.size w w' := by
  simp only [List.mem_cons, List.not_mem_nil, or_false] at hk
  rcases hk with rfl | rfl | rfl | rfl | rfl | rfl | rfl | rfl | rfl | rfl | rfl | rfl | rfl | rfl | rfl | rfl | rfl | rfl | rfl | rfl | rfl | rfl | rfl | rfl | rfl | rfl | rfl | rfl | rfl | rfl | rfl | rfl | rfl | rfl | rfl | rfl | rfl | rfl | rfl | rfl | rfl | rfl | rfl | rfl
  · go_enter Try.func19, Try.ntmps19
    go_wp2_with fail
    refine Calls.mono (cosines_any _) ?_
    rintro e w1 ⟨rfl, hb1⟩
    go_wp2_with fail
    go_ret
    exact ⟨ret_int (by decide), ba hb1 _⟩
  · go_enter Try.func19, Try.ntmps19
    go_wp2_with fail
    refine Calls.mono (cosines_any _) ?_
    rintro e w1 ⟨rfl, hb1⟩
    go_wp2_with fail
    go_ret
    exact ⟨ret_int (by decide), ba hb1 _⟩
  · go_enter Try.func19, Try.ntmps19
    go_wp2_with fail
    refine Calls.mono (cosines_any _) ?_
    rintro e w1 ⟨rfl, hb1⟩
    go_wp2_with fail
    go_ret
    exact ⟨ret_int (by decide), ba hb1 _⟩
  · go_enter Try.func19, Try.ntmps19
    go_wp2_with fail
    refine Calls.mono (cosines_any _) ?_
    rintro e w1 ⟨rfl, hb1⟩
    go_wp2_with fail
    go_ret
    exact ⟨ret_int (by decide), ba hb1 _⟩
  · go_enter Try.func19, Try.ntmps19
    go_wp2_with fail
    refine Calls.mono (cosines_any _) ?_
    rintro e w1 ⟨rfl, hb1⟩
    go_wp2_with fail
    go_ret
    exact ⟨ret_int (by decide), ba hb1 _⟩
  · go_enter Try.func19, Try.ntmps19
    go_wp2_with fail
    refine Calls.mono (cosines_any _) ?_
    rintro e w1 ⟨rfl, hb1⟩
    go_wp2_with fail
    go_ret
    exact ⟨ret_int (by decide), ba hb1 _⟩
  · go_enter Try.func19, Try.ntmps19
    go_wp2_with fail
    refine Calls.mono (cosines_any _) ?_
    rintro e w1 ⟨rfl, hb1⟩
    go_wp2_with fail
    go_ret
    exact ⟨ret_int (by decide), ba hb1 _⟩
  · go_enter Try.func19, Try.ntmps19
    go_wp2_with fail
    refine Calls.mono (cosines_any _) ?_
    rintro e w1 ⟨rfl, hb1⟩
    go_wp2_with fail
    go_ret
    exact ⟨ret_int (by decide), ba hb1 _⟩
  · go_enter Try.func19, Try.ntmps19
    go_wp2_with fail
    refine Calls.mono (cosines_any _) ?_
    rintro e w1 ⟨rfl, hb1⟩
    go_wp2_with fail
    go_ret
    exact ⟨ret_int (by decide), ba hb1 _⟩
  · go_enter Try.func19, Try.ntmps19
    go_wp2_with fail
    refine Calls.mono (cosines_any _) ?_
    rintro e w1 ⟨rfl, hb1⟩
    go_wp2_with fail
    go_ret
    exact ⟨ret_int (by decide), ba hb1 _⟩
  · go_enter Try.func19, Try.ntmps19
    go_wp2_with fail
    refine Calls.mono (cosines_any _) ?_
    rintro e w1 ⟨rfl, hb1⟩
    go_wp2_with fail
    go_ret
    exact ⟨ret_int (by decide), ba hb1 _⟩
  · go_enter Try.func19, Try.ntmps19
    go_wp2_with fail
    refine Calls.mono (cosines_any _) ?_
    rintro e w1 ⟨rfl, hb1⟩
    go_wp2_with fail
    go_ret
    exact ⟨ret_int (by decide), ba hb1 _⟩
  · go_enter Try.func19, Try.ntmps19
    go_wp2_with fail
    refine Calls.mono (cosines_any _) ?_
    rintro e w1 ⟨rfl, hb1⟩
    go_wp2_with fail
    go_ret
    exact ⟨ret_int (by decide), ba hb1 _⟩
  · go_enter Try.func19, Try.ntmps19
    go_wp2_with fail
    refine Calls.mono (cosines_any _) ?_
    rintro e w1 ⟨rfl, hb1⟩
    go_wp2_with fail
    go_ret
    exact ⟨ret_int (by decide), ba hb1 _⟩
  · go_enter Try.func19, Try.ntmps19
    go_wp2_with fail
    refine Calls.mono (cosines_any _) ?_
    rintro e w1 ⟨rfl, hb1⟩
    go_wp2_with fail
    go_ret
    exact ⟨ret_int (by decide), ba hb1 _⟩
  · go_enter Try.func19, Try.ntmps19
    go_wp2_with fail
    refine Calls.mono (cosines_any _) ?_
    rintro e w1 ⟨rfl, hb1⟩
    go_wp2_with fail
    go_ret
    exact ⟨ret_int (by decide), ba hb1 _⟩
  · go_enter Try.func19, Try.ntmps19
    go_wp2_with fail
    refine Calls.mono (cosines_any _) ?_
    rintro e w1 ⟨rfl, hb1⟩
    go_wp2_with fail
    go_ret
    exact ⟨ret_int (by decide), ba hb1 _⟩
  · go_enter Try.func19, Try.ntmps19
    go_wp2_with fail
    refine Calls.mono (cosines_any _) ?_
    rintro e w1 ⟨rfl, hb1⟩
    go_wp2_with fail
    go_ret
    exact ⟨ret_int (by decide), ba hb1 _⟩
  · go_enter Try.func19, Try.ntmps19
    go_wp2_with fail
    refine Calls.mono (cosines_any _) ?_
    rintro e w1 ⟨rfl, hb1⟩
    go_wp2_with fail
    go_ret
    exact ⟨ret_int (by decide), ba hb1 _⟩
  · go_enter Try.func19, Try.ntmps19
    go_wp2_with fail
    refine Calls.mono (cosines_any _) ?_
    rintro e w1 ⟨rfl, hb1⟩
    go_wp2_with fail
    go_ret
    exact ⟨ret_int (by decide), ba hb1 _⟩
  · go_enter Try.func19, Try.ntmps19
    go_wp2_with fail
    refine Calls.mono (cosines_any _) ?_
    rintro e w1 ⟨rfl, hb1⟩
    go_wp2_with fail
    go_ret
    exact ⟨ret_int (by decide), ba hb1 _⟩
  · go_enter Try.func19, Try.ntmps19
    go_wp2_with fail
    refine Calls.mono (cosines_any _) ?_
    rintro e w1 ⟨rfl, hb1⟩
    go_wp2_with fail
    go_ret
    exact ⟨ret_int (by decide), ba hb1 _⟩
  · go_enter Try.func19, Try.ntmps19
    go_wp2_with fail
    refine Calls.mono (cosines_any _) ?_
    rintro e w1 ⟨rfl, hb1⟩
    go_wp2_with fail
    go_ret
    exact ⟨ret_int (by decide), ba hb1 _⟩
  · go_enter Try.func19, Try.ntmps19
    go_wp2_with fail
    refine Calls.mono (cosines_any _) ?_
    rintro e w1 ⟨rfl, hb1⟩
    go_wp2_with fail
    go_ret
    exact ⟨ret_int (by decide), ba hb1 _⟩
  · go_enter Try.func19, Try.ntmps19
    go_wp2_with fail
    refine Calls.mono (cosines_any _) ?_
    rintro e w1 ⟨rfl, hb1⟩
    go_wp2_with fail
    go_ret
    exact ⟨ret_int (by decide), ba hb1 _⟩
  · go_enter Try.func19, Try.ntmps19
    go_wp2_with fail
    refine Calls.mono (cosines_any _) ?_
    rintro e w1 ⟨rfl, hb1⟩
    go_wp2_with fail
    go_ret
    exact ⟨ret_int (by decide), ba hb1 _⟩
  · go_enter Try.func19, Try.ntmps19
    go_wp2_with fail
    refine Calls.mono (cosines_any _) ?_
    rintro e w1 ⟨rfl, hb1⟩
    go_wp2_with fail
    go_ret
    exact ⟨ret_int (by decide), ba hb1 _⟩
  · go_enter Try.func19, Try.ntmps19
    go_wp2_with fail
    refine Calls.mono (cosines_any _) ?_
    rintro e w1 ⟨rfl, hb1⟩
    go_wp2_with fail
    go_ret
    exact ⟨ret_int (by decide), ba hb1 _⟩
  · go_enter Try.func19, Try.ntmps19
    go_wp2_with fail
    refine Calls.mono (cosines_any _) ?_
    rintro e w1 ⟨rfl, hb1⟩
    go_wp2_with fail
    go_ret
    exact ⟨ret_int (by decide), ba hb1 _⟩
  · go_enter Try.func19, Try.ntmps19
    go_wp2_with fail
    refine Calls.mono (cosines_any _) ?_
    rintro e w1 ⟨rfl, hb1⟩
    go_wp2_with fail
    go_ret
    exact ⟨ret_int (by decide), ba hb1 _⟩
  · go_enter Try.func19, Try.ntmps19
    go_wp2_with fail
    refine Calls.mono (cosines_any _) ?_
    rintro e w1 ⟨rfl, hb1⟩
    go_wp2_with fail
    go_ret
    exact ⟨ret_int (by decide), ba hb1 _⟩
  · go_enter Try.func19, Try.ntmps19
    go_wp2_with fail
    refine Calls.mono (cosines_any _) ?_
    rintro e w1 ⟨rfl, hb1⟩
    go_wp2_with fail
    go_ret
    exact ⟨ret_int (by decide), ba hb1 _⟩
  · go_enter Try.func19, Try.ntmps19
    go_wp2_with fail
    refine Calls.mono (cosines_any _) ?_
    rintro e w1 ⟨rfl, hb1⟩
    go_wp2_with fail
    go_ret
    exact ⟨ret_int (by decide), ba hb1 _⟩
  · go_enter Try.func19, Try.ntmps19
    go_wp2_with fail
    refine Calls.mono (cosines_any _) ?_
    rintro e w1 ⟨rfl, hb1⟩
    go_wp2_with fail
    go_ret
    exact ⟨ret_int (by decide), ba hb1 _⟩
  · go_enter Try.func19, Try.ntmps19
    go_wp2_with fail
    refine Calls.mono (cosines_any _) ?_
    rintro e w1 ⟨rfl, hb1⟩
    go_wp2_with fail
    go_ret
    exact ⟨ret_int (by decide), ba hb1 _⟩
  · go_enter Try.func19, Try.ntmps19
    go_wp2_with fail
    refine Calls.mono (cosines_any _) ?_
    rintro e w1 ⟨rfl, hb1⟩
    go_wp2_with fail
    go_ret
    exact ⟨ret_int (by decide), ba hb1 _⟩
  · go_enter Try.func19, Try.ntmps19
    go_wp2_with fail
    refine Calls.mono (cosines_any _) ?_
    rintro e w1 ⟨rfl, hb1⟩
    go_wp2_with fail
    go_ret
    exact ⟨ret_int (by decide), ba hb1 _⟩
  · go_enter Try.func19, Try.ntmps19
    go_wp2_with fail
    refine Calls.mono (cosines_any _) ?_
    rintro e w1 ⟨rfl, hb1⟩
    go_wp2_with fail
    go_ret
    exact ⟨ret_int (by decide), ba hb1 _⟩
  · go_enter Try.func19, Try.ntmps19
    go_wp2_with fail
    refine Calls.mono (cosines_any _) ?_
    rintro e w1 ⟨rfl, hb1⟩
    go_wp2_with fail
    go_ret
    exact ⟨ret_int (by decide), ba hb1 _⟩
  · go_enter Try.func19, Try.ntmps19
    go_wp2_with fail
    refine Calls.mono (cosines_any _) ?_
    rintro e w1 ⟨rfl, hb1⟩
    go_wp2_with fail
    go_ret
    exact ⟨ret_int (by decide), ba hb1 _⟩
  · go_enter Try.func19, Try.ntmps19
    go_wp2_with fail
    refine Calls.mono (cosines_any _) ?_
    rintro e w1 ⟨rfl, hb1⟩
    go_wp2_with fail
    go_ret
    exact ⟨ret_int (by decide), ba hb1 _⟩
  · go_enter Try.func19, Try.ntmps19
    go_wp2_with fail
    refine Calls.mono (cosines_any _) ?_
    rintro e w1 ⟨rfl, hb1⟩
    go_wp2_with fail
    go_ret
    exact ⟨ret_int (by decide), ba hb1 _⟩
  · go_enter Try.func19, Try.ntmps19
    go_wp2_with fail
    refine Calls.mono (cosines_any _) ?_
    rintro e w1 ⟨rfl, hb1⟩
    go_wp2_with fail
    go_ret
    exact ⟨ret_int (by decide), ba hb1 _⟩
  · go_enter Try.func19, Try.ntmps19
    go_wp2_with fail
    refine Calls.mono (cosines_any _) ?_
    rintro e w1 ⟨rfl, hb1⟩
    go_wp2_with fail
    go_ret
    exact ⟨ret_int (by decide), ba hb1 _⟩

theorem fac_out (u x : Int) (w : World) (h : u < 0 ∨ 7 < u ∨ x < 0 ∨ 7 < x) : Calls Try.prog 7 #[.int .i64 u, .int .i64 x] w fun e w' => e = .returned (.int .i64 0) ∧ w = w' := by
  by_cases h1 : u < 0
  · go_enter Try.func7, Try.ntmps7
    go_wp2_with fail
    go_ret
    exact ⟨rfl, rfl⟩
  · by_cases h2 : 7 < u
    · go_enter Try.func7, Try.ntmps7
      go_wp2_with fail
      go_ret
      exact ⟨rfl, rfl⟩
    · by_cases h3 : x < 0
      · go_enter Try.func7, Try.ntmps7
        go_wp2_with fail
        go_ret
        exact ⟨rfl, rfl⟩
      · have h4 : 7 < x := by omega
        go_enter Try.func7, Try.ntmps7
        go_wp2_with fail
        go_ret
        exact ⟨rfl, rfl⟩
theorem rfac_out (u x : Int) (w : World) (h : u < 0 ∨ 7 < u ∨ x < 0 ∨ 7 < x) : Calls Try.prog 8 #[.int .i64 u, .int .i64 x] w fun e w' => e = .returned (.int .i64 0) ∧ w = w' := by
  by_cases h1 : u < 0
  · go_enter Try.func8, Try.ntmps8
    go_wp2_with fail
    go_ret
    exact ⟨rfl, rfl⟩
  · by_cases h2 : 7 < u
    · go_enter Try.func8, Try.ntmps8
      go_wp2_with fail
      go_ret
      exact ⟨rfl, rfl⟩
    · by_cases h3 : x < 0
      · go_enter Try.func8, Try.ntmps8
        go_wp2_with fail
        go_ret
        exact ⟨rfl, rfl⟩
      · have h4 : 7 < x := by omega
        go_enter Try.func8, Try.ntmps8
        go_wp2_with fail
        go_ret
        exact ⟨rfl, rfl⟩
end Go.Proofs.Ytmfipjpmfigjaaa
