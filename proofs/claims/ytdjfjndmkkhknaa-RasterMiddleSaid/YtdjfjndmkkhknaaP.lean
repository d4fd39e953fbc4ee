/- The contracts of fits and awake. -/
import Derived.Test.YtdjfjndmkkhknaaO
import Derived.Test.YtdjfjndmkkhknaaK
namespace Go.Proofs.Ytdjfjndmkkhknaa
open Go.RowKit
open Go.Tin
set_option linter.unusedVariables false
set_option linter.unusedSimpArgs false

theorem fits_yes (a b u v x y : Int) (w : World) (ha : okS a = true) (hb : okS b = true) (hu : okS u = true) (hv : okS v = true) (hx : fitA a b u v = x) (hy : fitB a b u v = y) :
    Calls Try.prog 23 #[.int .i64 a, .int .i64 b, .int .i64 u, .int .i64 v, .int .i64 x, .int .i64 y] w fun e w' => e = .returned (.bool true) ∧ Below w.heap.size w w' := by
  have hc := fit_yes a b u v
  rw [hx, hy] at hc
  have HC := Lib.hid hc
  clear hc hx hy
  go_enter Try.func23, Try.ntmps23
  go_wp2_with fail
  refine (HC.out w ha hb hu hv).mono ?_
  rintro e w1 ⟨rfl, hb1⟩
  go_wp2_with fail
  go_ret
  exact ⟨ret_bool (by simp), hb1⟩

set_option maxRecDepth 100000 in
set_option maxHeartbeats 2000000 in
theorem awake_any (w : World) : Calls Try.prog 7 #[] w fun e w' => e = .returned (.bool true) ∧ Below w.heap.size w w' := by
  go_enter Try.func7, Try.ntmps7
  go_wp2_with fail
  have hW0s : (w.alloc (.cells #[.int .u8 10, .int .u8 20, .int .u8 30, .int .u8 11, .int .u8 21, .int .u8 33] 5)).heap.size = w.heap.size + 1 := by simp
  have hb0 := ba (brefl w) (.cells #[.int .u8 10, .int .u8 20, .int .u8 30, .int .u8 11, .int .u8 21, .int .u8 33] 5)
  have hs0 : Sl .u8 (w.alloc (.cells #[.int .u8 10, .int .u8 20, .int .u8 30, .int .u8 11, .int .u8 21, .int .u8 33] 5)) (some ⟨w.heap.size, 0, none⟩) [10, 20, 30, 11, 21, 33] := Sl.new_ _ _ _ _ rfl
  generalize w.alloc _ = W0 at *
  have hbox := box_yes 2 1 1 1 (some ⟨w.heap.size, 0, none⟩) [10, 20, 30, 11, 21, 33] 6 W0 hs0 (by decide) (byts_of (by decide)) (by decide)
  rw [show rows (boxT [10, 20, 30, 11, 21, 33] 2 1 1 1) 1 1 = [11, 21, 32] by decide] at hbox
  refine Calls.mono hbox ?_
  clear hbox hs0
  rintro e w1 ⟨v, rfl, hown, hb1⟩
  obtain ⟨A1, c1, rfl, hs1, hc1, _, _⟩ := hown.sl
  have hb2 := bt hb0 hb1
  clear hown hb0 hb1 hW0s
  go_wp2_with fail
  have hW2s : (w1.alloc (.cells #[.int .i64 1, .int .i64 1, .slice A1 3 c1] 24)).heap.size = w1.heap.size + 1 := by simp
  have hb3 := ba hb2 (.cells #[.int .i64 1, .int .i64 1, .slice A1 3 c1] 24)
  have hb3' := ba (brefl w1) (.cells #[.int .i64 1, .int .i64 1, .slice A1 3 c1] 24)
  have hs3 := hs1.keep hb3'
  have hg3 := heap_alloc_new w1 (.cells #[.int .i64 1, .int .i64 1, .slice A1 3 c1] 24)
  generalize hgg : w1.heap.size = g1 at *
  generalize w1.alloc _ = W2 at *
  have hpad := pad_yes 1 1 2 1 A1 [11, 21, 32] c1 W2 hs3 hc1 (by decide)
  rw [show rows (fun x y => col [11, 21, 32] (pos 1 (min (x : Int) (1 - 1)) (min (y : Int) (1 - 1)))) 2 1 = [11, 21, 32, 11, 21, 32] by decide] at hpad
  refine Calls.mono hpad ?_
  clear hpad
  rintro e w3 ⟨v, rfl, hown, hb4⟩
  obtain ⟨A3, c3, rfl, hs5, hc3, _, _⟩ := hown.sl
  have hg4 := (hb4.block _ (show g1 < W2.heap.size by omega)).trans hg3
  have hb5 := bt hb3 hb4
  have hs4 := hs3.keep hb4
  have hz4 := hb4.size
  have HG4 := Lib.hid hg4
  clear hown hb2 hb3 hb3' hb4 hs3 hg3 hg4
  go_wp2_with fail
  have hb6 := ba hb5 (.cells #[.int .i64 2, .int .i64 1, .slice A3 6 c3] 24)
  have hb6' := ba (brefl w3) (.cells #[.int .i64 2, .int .i64 1, .slice A3 6 c3] 24)
  have hs6 := hs4.keep hb6'
  have hs7 := hs5.keep hb6'
  have hg6 := (hb6'.block _ (show g1 < w3.heap.size by omega)).trans HG4.out
  have hg7 := heap_alloc_new w3 (.cells #[.int .i64 2, .int .i64 1, .slice A3 6 c3] 24)
  have hz6 : (w3.alloc (.cells #[.int .i64 2, .int .i64 1, .slice A3 6 c3] 24)).heap.size = w3.heap.size + 1 := by simp
  generalize hgg3 : w3.heap.size = g3 at *
  generalize w3.alloc _ = W4 at *
  have HG6 := Lib.hid hg6
  have HG7 := Lib.hid hg7
  clear HG4 hb5 hb6' hs4 hs5 hg6 hg7
  refine (fits_yes 4000 3000 160 120 160 120 W4 (by decide) (by decide) (by decide) (by decide) (by decide) (by decide)).mono ?_
  rintro e w5 ⟨rfl, hb7⟩
  have hz7 := hb7.size
  go_wp2_with fail
  refine (fits_yes 100 50 160 120 100 50 w5 (by decide) (by decide) (by decide) (by decide) (by decide) (by decide)).mono ?_
  rintro e w6 ⟨rfl, hb8⟩
  have hz8 := hb8.size
  go_wp2_with fail
  refine (fits_yes 4096 1 16 16 16 1 w6 (by decide) (by decide) (by decide) (by decide) (by decide) (by decide)).mono ?_
  rintro e w7 ⟨rfl, hb9⟩
  have hz9 := hb9.size
  have hb10 := bt (bt hb7 hb8) hb9
  have hb11 := bt hb6 hb10
  have hs10 := hs6.keep hb10
  have hs11 := hs7.keep hb10
  have hg10 := (hb10.block _ (show g1 < W4.heap.size by omega)).trans HG6.out
  have hg11 := (hb10.block _ (show g3 < W4.heap.size by omega)).trans HG7.out
  have x1 := ba (brefl w7) (.cells #[.int .u8 11, .int .u8 21, .int .u8 32] 5)
  have x2 := ba x1 (.cells #[.int .u8 11, .int .u8 21, .int .u8 32, .int .u8 11, .int .u8 21, .int .u8 32] 5)
  have m1 : Sl .u8 (w7.alloc (.cells #[.int .u8 11, .int .u8 21, .int .u8 32] 5)) (some ⟨w7.heap.size, 0, none⟩) [11, 21, 32] := Sl.new_ _ _ _ _ rfl
  have m2 : Sl .u8 ((w7.alloc (.cells #[.int .u8 11, .int .u8 21, .int .u8 32] 5)).alloc (.cells #[.int .u8 11, .int .u8 21, .int .u8 32, .int .u8 11, .int .u8 21, .int .u8 32] 5)) (some ⟨(w7.alloc (.cells #[.int .u8 11, .int .u8 21, .int .u8 32] 5)).heap.size, 0, none⟩) [11, 21, 32, 11, 21, 32] := Sl.new_ _ _ _ _ rfl
  rw [World.size_alloc] at m2
  have e1 := str_run Try.underlying22 Try.underlying5 Try.underlying9 hs10 3 c1 rfl
  have e2 := str_run Try.underlying22 Try.underlying5 Try.underlying9 m1 3 3 rfl
  have e3 := str_run Try.underlying22 Try.underlying5 Try.underlying9 (hs11.keep x1) 6 c3 rfl
  have e4 := str_run Try.underlying22 Try.underlying5 Try.underlying9 m2 6 6 rfl
  have k1 := row_cell hg10 2 rfl
  have k3 := (x1.cell (p := ⟨g3, 2, none⟩) (by show g3 < w7.heap.size; omega)).trans (row_cell hg11 2 rfl)
  clear hs6 hs7 HG6 HG7 hb6 hb7 hb8 hb9 hb10 hs10 hs11 hg10 hg11 m1 m2 x1 hgg hgg3 hz4 hz6 hz7 hz8 hz9
  go_wp2_with fail
  go_ret
  exact ⟨ret_bool (by simp), hb11.trans (x2.mono hb11.size)⟩
end Go.Proofs.Ytdjfjndmkkhknaa
