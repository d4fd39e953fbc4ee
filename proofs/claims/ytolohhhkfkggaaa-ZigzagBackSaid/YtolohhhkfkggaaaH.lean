/- trial -/
import Derived.Test.YtolohhhkfkggaaaG
import Derived.Outline
namespace Go.Proofs.Ytolohhhkfkggaaa
open Go.RowKit
open Go.Tin
set_option linter.unusedVariables false
set_option linter.unusedSimpArgs false

theorem at_c (n z : Int) (j : Nat) (hj : j < 64) (hn : n = (j : Int)) (hz : zig j = z) (w : World) : Calls Try.prog 7 #[.int .i64 n] w fun e w' => e = .returned (.int .i64 z) ∧ Below w.heap.size w w' := by
  subst hn; subst hz; exact at_in j hj w
theorem place_c (n z : Int) (p : Nat) (hp : p < 64) (hn : n = (p : Int)) (hz : (unz p : Int) = z) (w : World) : Calls Try.prog 8 #[.int .i64 n] w fun e w' => e = .returned (.int .i64 z) ∧ Below w.heap.size w w' := by
  subst hn; subst hz; exact place_in p hp w
theorem last_c (bs : List Int) (z : Int) (hn : bs.length = 64) (hz : lastP (toL bs) 64 = z) (w : World) : Calls Try.prog 17 #[.agg (arr .i64 bs)] w fun e w' => e = .returned (.int .i64 z) ∧ Below w.heap.size w w' := by
  subst hz; exact last_any bs hn w

/-- The blocks of the example. -/
def b16 : List Int := full 64 fun j => if j = 16 then 1 else 0
def b0 : List Int := full 64 fun _ => 0
theorem b16_len : b16.length = 64 := full_len _ _
theorem b0_len : b0.length = 64 := full_len _ _
theorem build16 (w : World) : (Instr.build 27 #[(16, .int .i64 1)]).run Try.prog w = .ok (.agg (arr .i64 b16)) w := by kernel_rfl
theorem build0 (w : World) : (Instr.build 27 #[]).run Try.prog w = .ok (.agg (arr .i64 b0)) w := by kernel_rfl

set_option maxRecDepth 100000 in
set_option maxHeartbeats 2000000 in
theorem awake_any (w : World) : Calls Try.prog 9 #[] w fun e w' => e = .returned (.bool true) ∧ Below w.heap.size w w' := by
  go_enter Try.func9, Try.ntmps9
  go_wp2_with (first | (with_reducible refine wpl_build ?_ 27 #[(16, .const (.int .i64 1))] ?_ (.agg (arr .i64 b16)) ?_ ?_; rfl; rfl; simp only [List.map_toArray, List.map_cons, List.map_nil, Act.eval]; exact build16 _) | (with_reducible refine wpl_store_arr at27 rfl (.tmp 1) (.tmp 2) rfl w.heap.size rfl rfl 27 (full_len _ _) _ rfl (heap_alloc_new w _) ?_; intro wa ha hga hsa))
  have hb0 : Below w.heap.size w wa := ((Below.refl _ _).alloc (Nat.le_refl _) _).grown hga (by simp) (fun k hk => by cases hk; exact Nat.le_refl _)
  refine (at_c 0 0 0 (by decide) rfl (by decide) _).mono ?_
  rintro e w1 ⟨rfl, hb1⟩
  go_wp2_with fail
  refine (at_c 1 1 1 (by decide) rfl (by decide) _).mono ?_
  rintro e w2 ⟨rfl, hb2⟩
  go_wp2_with fail
  refine (at_c 2 8 2 (by decide) rfl (by decide) _).mono ?_
  rintro e w3 ⟨rfl, hb3⟩
  go_wp2_with fail
  refine (at_c 3 16 3 (by decide) rfl (by decide) _).mono ?_
  rintro e w4 ⟨rfl, hb4⟩
  go_wp2_with fail
  refine (at_c 63 63 63 (by decide) rfl (by decide) _).mono ?_
  rintro e w5 ⟨rfl, hb5⟩
  go_wp2_with fail
  refine (at_out 64 (by decide) _).mono ?_
  rintro e w' ⟨rfl, rfl⟩
  go_wp2_with fail
  refine (place_c 8 2 8 (by decide) rfl (by decide) _).mono ?_
  rintro e w6 ⟨rfl, hb6⟩
  go_wp2_with fail
  refine (place_c 9 4 9 (by decide) rfl (by decide) _).mono ?_
  rintro e w7 ⟨rfl, hb7⟩
  go_wp2_with fail
  refine (place_c 2 5 2 (by decide) rfl (by decide) _).mono ?_
  rintro e w8 ⟨rfl, hb8⟩
  have hbk : Below w.heap.size w w8 := (bt (bt (bt (bt (bt (bt (bt (bt hb0 hb1) hb2) hb3) hb4) hb5) hb6) hb7) hb8)
  have hbl : Below wa.heap.size wa w8 := (bt (bt (bt (bt (bt (bt (bt hb1 hb2) hb3) hb4) hb5) hb6) hb7) hb8)
  have hl : w8.heap[w.heap.size]? = some (.cells (arr .i64 b16) 27 (0, 0)) := (hbl.block _ (by rw [hsa]; simp)).trans ha
  go_wp2_with ((with_reducible refine wpl_load_arr_g at27 ?_ (.tmp 1) rfl w.heap.size rfl 27 b16_len hl ?_); (simp [Region.wanted, yielded]))
  refine (last_c b16 3 b16_len (by decide) _).mono ?_
  rintro e wx ⟨rfl, hbx⟩
  go_wp2_with ((with_reducible refine wpl_build_g ?_ 27 #[] ?_ (.agg (arr .i64 b0)) ?_ ?_); (simp [Region.wanted, yielded]); rfl; simp only [List.map_toArray, List.map_nil]; exact build0 _)
  refine (last_c b0 (-1) b0_len (by decide) _).mono ?_
  rintro e wy ⟨rfl, hby⟩
  go_wp2_with fail
  go_ret
  exact ⟨rfl, bt (bt hbk hbx) hby⟩
end Go.Proofs.Ytolohhhkfkggaaa
