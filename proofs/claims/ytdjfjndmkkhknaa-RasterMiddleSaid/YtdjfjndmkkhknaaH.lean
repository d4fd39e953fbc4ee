/- The contract of Box's own function: the middle of the box of a place. -/
import Derived.Test.YtdjfjndmkkhknaaG
namespace Go.Proofs.Ytdjfjndmkkhknaa
open Go.RowKit
open Go.Tin
set_option linter.unusedVariables false
set_option linter.unusedSimpArgs false

/-- Where the box of a place begins, and how wide it is. -/
def bx (x W a : Nat) : Nat := x * W / a
def bw (x W a : Nat) : Nat := (x + 1) * W / a - x * W / a
theorem bx_facts {x W a : Nat} (hx : x < a) (ha : a ≤ W) (hW : W ≤ 4096) : 0 < bw x W a ∧ bx x W a + bw x W a ≤ W ∧ (x : Int) * (W : Int) / (a : Int) = (bx x W a : Int) ∧ ((x : Int) + 1) * (W : Int) / (a : Int) = (bx x W a : Int) + (bw x W a : Int) ∧
    (0 ≤ (x : Int) * (W : Int) ∧ (x : Int) * (W : Int) ≤ 16777216) ∧ (0 ≤ ((x : Int) + 1) * (W : Int) ∧ ((x : Int) + 1) * (W : Int) ≤ 16777216) := by
  have h0 : 0 < a := by omega
  have h1 : (x + 1) * W / a ≥ x * W / a + 1 := by
    rw [Nat.succ_mul, ← Nat.add_div_right _ h0]
    exact Nat.div_le_div_right (by omega)
  have h2 : (x + 1) * W / a ≤ W := by
    have : (x + 1) * W ≤ a * W := Nat.mul_le_mul_right W hx
    exact Nat.div_le_of_le_mul this
  have h3 : x * W ≤ 4096 * 4096 := Nat.mul_le_mul (by omega) hW
  have h4 : (x + 1) * W ≤ 4096 * 4096 := Nat.mul_le_mul (by omega) hW
  have e1 : (x : Int) * (W : Int) = ((x * W : Nat) : Int) := (Int.natCast_mul _ _).symm
  have e2 : ((x : Int) + 1) * (W : Int) = (((x + 1) * W : Nat) : Int) := by rw [Int.natCast_mul, Int.natCast_add]; rfl
  unfold bw bx
  refine ⟨by omega, by omega, ?_, ?_, ⟨by omega, by omega⟩, by omega, by omega⟩
  · rw [e1, ← Int.natCast_ediv]
  · rw [e2, ← Int.natCast_ediv]
    omega

set_option maxRecDepth 100000 in
set_option maxHeartbeats 2000000 in
theorem box1_any (W H a b x y gv gr gw gh : Nat) (A : Option Addr) (l : List Int) (c : Nat) (w : World) (hsl : Sl .u8 w A l) (hlc : l.length ≤ c) (hby : Byts l) (hm : mayB (W : Int) (H : Int) l.length = true)
    (hx : x < a) (ha : a ≤ W) (hy : y < b) (hb : b ≤ H) (nv : gv < w.heap.size) (nr : gr < w.heap.size) (nw : gw < w.heap.size) (nh : gh < w.heap.size)
    (cv : w.heap[gv]? = some (.cells #[.int .i64 (W : Int), .int .i64 (H : Int), .slice A l.length c] 46 (0, 0))) (cr : w.heap[gr]? = some (.cells #[.int .i64 (W : Int), .int .i64 (H : Int), .slice A l.length c] 24 (0, 0)))
    (cw : w.heap[gw]? = some (.cells #[.int .i64 (a : Int)] 3 (0, 0))) (ch : w.heap[gh]? = some (.cells #[.int .i64 (b : Int)] 3 (0, 0))) :
    Calls Try.prog 27 #[.int .i64 (x : Int), .int .i64 (y : Int), .pointer (some ⟨gv, 0, none⟩), .pointer (some ⟨gr, 0, none⟩), .pointer (some ⟨gw, 0, none⟩), .pointer (some ⟨gh, 0, none⟩)] w
      fun e w' => e = .returned (.agg (arr .u8 (meanL l (W : Int) (bx x W a) (bw x W a) (bx y H b) (bw y H b)))) ∧ Below w.heap.size w w' := by
  obtain ⟨hW, hH, hn⟩ := mayB_t hm
  obtain ⟨x1, x2, x3, x4, ⟨x5, x6⟩, x7, x8⟩ := bx_facts hx ha (by omega)
  obtain ⟨y1, y2, y3, y4, ⟨y5, y6⟩, y7, y8⟩ := bx_facts hy hb (by omega)
  have hcall := fun (Wd : World) (hbl : Below w.heap.size w Wd) => mean_any (W : Int) (H : Int) (bx x W a) (bw x W a) (bx y H b) (bw y H b) A l c Wd (hsl.keep hbl) hlc hby hm x1 y1 (by omega) (by omega)
  have HC := Lib.hid hcall
  have a0 : 0 < (a : Int) := by omega
  have b0 : 0 < (b : Int) := by omega
  have v0 := row_cell cv 0 rfl
  have v1 := row_cell cv 1 rfl
  have v2 := row_cell cv 2 rfl
  have r0 := row_cell cr 0 rfl
  have r1 := row_cell cr 1 rfl
  have w0 := row_cell cw 0 rfl
  have h0 := row_cell ch 0 rfl
  have xa : (x : Int) < 4096 := by omega
  have ya : (y : Int) < 4096 := by omega
  have aW : (a : Int) ≤ 4096 := by omega
  have bH : (b : Int) ≤ 4096 := by omega
  have hWW : (W : Int) ≤ 4096 := by omega
  have hHH : (H : Int) ≤ 4096 := by omega
  have ML : (meanL l (W : Int) (bx x W a) (bw x W a) (bx y H b) (bw y H b)).length = 3 := by simp [meanL]
  clear hcall hsl hby hm hn hW hH cv cr cw ch x1 x2 y1 y2 hx hy ha hb
  go_enter Try.func27, Try.ntmps27
  go_wp2_with fail
  generalize hW0 : w.alloc _ = W0 at *
  have hb0 : Below w.heap.size w W0.drew := by rw [← hW0]; exact (ba (brefl w) _).drew
  have z0 : W0.drew.heap[w.heap.size]? = some (.cells #[.int .u8 0, .int .u8 0, .int .u8 0] 27 (0, 0)) := by rw [← hW0]; exact heap_alloc_new w _
  have s0 : W0.heap.size = w.heap.size + 1 := by rw [← hW0]; simp
  clear hW0
  have lift : ∀ (g o : Nat) (v : Value), g < w.heap.size → w.cell? ⟨g, o, none⟩ = some v → ∀ p : Bel w.heap.size W0.drew, p.w'.cell? ⟨g, o, none⟩ = some v := fun g o v hg hc p => ((hb0.trans p.h).cell (p := ⟨g, o, none⟩) hg).trans hc
  have kv0 := lift _ _ _ nv v0
  have kv1 := lift _ _ _ nv v1
  have kv2 := lift _ _ _ nv v2
  have kr0 := lift _ _ _ nr r0
  have kr1 := lift _ _ _ nr r1
  have kw0 := lift _ _ _ nw w0
  have kh0 := lift _ _ _ nh h0
  clear lift v0 v1 v2 r0 r1 w0 h0
  refine Tin.reg_begin w.heap.size 29 (by rfl) (by kernel_rfl) ?_
  refine Tin.reg_quiets [0, 1, 2, 3, 4, 5, 6, 7, 8, 9, 10, 11, 12, 13, 14, 15, 16, 17, 18, 19, 20, 21, 22, 23, 24, 25, 26] _ 2 rfl (by simp only [Tin.pick, List.map_cons, List.map_nil, Array.getD_eq_getD_getElem?, List.getElem?_toArray, List.getElem?_cons_zero, List.getElem?_cons_succ, Option.getD_some]; rfl) (by kernel_rfl) (by kernel_rfl) ?_
  repeat (first | go_big_quiet_step (fail))
  refine wpQuiet_nil ?_
  clear kv0 kv1 kv2 kr0 kr1 kw0 kh0
  refine Tin.reg_one 27 _ rfl (by kernel_rfl) ?_
  try simp only [List.getElem_toArray, List.getElem_cons_succ, List.getElem_cons_zero]
  go_wp2_with fail
  refine (HC.out W0.drew hb0).mono ?_
  rintro e w1 ⟨rfl, hb1⟩
  have zs : W0.drew.heap.size = w.heap.size + 1 := s0
  have z1 := (hb1.block _ (show w.heap.size < _ by omega)).trans z0
  go_wp2_with fail
  refine ⟨w.heap.size, hb1.mono (by omega), Nat.le_refl _, ?_⟩
  refine Tin.reg_one 28 _ rfl (by kernel_rfl) ?_
  try simp only [List.getElem_toArray, List.getElem_cons_succ, List.getElem_cons_zero]
  go_wp2_with ((with_reducible refine wpl_store_arr at27 rfl (.tmp 8) (.tmp 36) rfl w.heap.size rfl rfl 27 ML #[.int .u8 0, .int .u8 0, .int .u8 0] ?_ z1 ?_); rfl; intro w5 hr5 hg5 hs5; simp only [Act.put])
  refine ⟨w.heap.size, (Below.refl w.heap.size w1).grown hg5 (by have := hb1.size; omega) (fun k hk => by cases hk; exact Nat.le_refl _), Nat.le_refl _, ?_⟩
  refine Tin.reg_done (by kernel_rfl) ?_
  go_wp2_with fail
  exact bodyPost_ret (res_arr at27 rfl _ _ w.heap.size 27 rfl ML hr5) rfl ⟨rfl, (bt hb0 hb1).grown hg5 (bt hb0 hb1).size (fun k hk => by cases hk; exact Nat.le_refl _)⟩
end Go.Proofs.Ytdjfjndmkkhknaa
