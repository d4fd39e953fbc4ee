/- The contracts of To and From. Conditions: a block has 64 numbers. -/
import Derived.Test.YtckkncblbagfmaaZgD
namespace Go.Proofs.Ytckkncblbagfmaa
open Go.RowKit
open Go.Tin
set_option linter.unusedVariables false
set_option linter.unusedSimpArgs false

/-- The block's numbers as the zigzag goes over them; the block of such numbers. -/
def toF (bs : List Int) (j : Nat) : Int := nth bs (zig j).toNat
def toL (bs : List Int) : List Int := full 64 (toF bs)
def fromL (bs : List Int) : List Int := full 64 fun p => nth bs (unz p)
/-- A block of which so many numbers have been laid at their places. -/
def fromP (bs : List Int) (m : Nat) : List Int := full 64 fun p => if unz p < m then nth bs (unz p) else 0
theorem zig_bd : ∀ j, j < 64 → 0 ≤ zig j ∧ zig j < 64 := by decide
theorem unz_zig : ∀ j, j < 64 → unz (zig j).toNat = j := by decide
theorem unz_inj : ∀ p, p < 64 → ∀ j, j < 64 → unz p = j → p = (zig j).toNat := by
  intro p hp j hj h
  have := zig_unz p hp
  rw [h] at this
  omega
theorem fromP_set (bs : List Int) (m : Nat) (hm : m < 64) : (fromP bs m).set (zig m).toNat (nth bs m) = fromP bs (m + 1) := by
  have hb := zig_bd m hm
  apply List.ext_getElem?
  intro p
  rw [List.getElem?_set]
  by_cases hp : p < 64
  · by_cases h : (zig m).toNat = p
    · subst h
      rw [if_pos rfl]
      have hu := unz_zig m hm
      simp [fromP, full, hp, hu]
    · rw [if_neg h]
      simp only [fromP, full, List.getElem?_map, List.getElem?_range hp, Option.map_some]
      congr 1
      by_cases h1 : unz p < m
      · rw [if_pos h1, if_pos (by omega)]
      · rw [if_neg h1, if_neg (fun h2 => h (unz_inj p hp m hm (by omega)).symm)]
  · rw [List.getElem?_eq_none (by simp [fromP]; omega), List.getElem?_eq_none (by simp [fromP]; omega)]
    split <;> simp [fromP]
    omega
theorem fromP_end (bs : List Int) : fromP bs 64 = fromL bs := full_congr _ _ _ fun p hp => if_pos (unz_lt p hp)
theorem full_rep (n : Nat) : full n (fun _ => 0) = List.replicate n 0 := by
  unfold full
  apply List.ext_getElem <;> simp
theorem fromP_zero (bs : List Int) : fromP bs 0 = List.replicate 64 0 := by rw [← full_rep]; exact full_congr _ _ _ fun p _ => if_neg (by omega)
theorem fromP_len (bs : List Int) (m : Nat) : (fromP bs m).length = 64 := by simp [fromP]
theorem fromL_len (bs : List Int) : (fromL bs).length = 64 := by simp [fromL]
theorem toL_len (bs : List Int) : (toL bs).length = 64 := by simp [toL]

set_option maxRecDepth 100000 in
set_option maxHeartbeats 1000000 in
set_option maxHeartbeats 1000000 in
theorem to_any (bs : List Int) (hn : bs.length = 64) (w : World) : Calls Try.prog 22 #[.agg (arr .i64 bs)] w fun e w' => e = .returned (.agg (arr .i64 (toL bs))) ∧ Below w.heap.size w w' := by
  have HN := Lib.hid hn
  clear hn
  go_enter Try.func22, Try.ntmps22
  go_wp2_with fail
  refine (order_arr _).mono ?_
  rintro e w1 ⟨rfl, hb⟩
  generalize hW0 : ((w.alloc _).alloc _).alloc _ = W0 at *
  have hs0 : W0.heap.size = w.heap.size + 3 := by rw [← hW0]; simp
  have a0 : w1.heap[w.heap.size]? = some (.cells (arr .i64 bs) 33 (0, 0)) := by
    rw [hb.block _ (by omega), ← hW0, Below.heap_alloc _ _ _ (by simp; omega), Below.heap_alloc _ _ _ (by simp)]
    exact heap_alloc_new w _
  have r0 : w1.heap[w.heap.size + 1]? = some (.cells (arr .i64 (tell 64 (toF bs) 0)) 33 (0, 0)) := by
    rw [hb.block _ (by omega), ← hW0, Below.heap_alloc _ _ _ (by simp), tell_zero, arr_rep]
    exact heap_alloc2_new w _ _
  have o0 : w1.heap[w.heap.size + 2]? = some (.cells (arr .i64 (tell 64 (toF bs) 0)) 33 (0, 0)) := by
    rw [hb.block _ (by omega), ← hW0, tell_zero, arr_rep]
    have h := fun Z => heap_alloc_new ((w.alloc (Obj.cells (arr IntKind.i64 bs) 33)).alloc Z) Z
    simp only [World.size_alloc] at h
    exact h _
  have b0 : Below w.heap.size w w1 := by
    have h0 : Below w.heap.size w W0 := by rw [← hW0]; exact ba (ba (ba (brefl w) _) _) _
    exact bt h0 hb
  clear hW0 hs0 hb
  go_wp2_with fail
  go_loopw [7] (fun s7 wr => ∃ j : Nat, j ≤ 64 ∧ s7 = .int .i64 (j : Int) ∧ wr.heap[w.heap.size]? = some (.cells (arr .i64 bs) 33 (0, 0)) ∧ wr.heap[w.heap.size + 1]? = some (.cells (arr .i64 (tell 64 (toF bs) 0)) 33 (0, 0)) ∧
      wr.heap[w.heap.size + 2]? = some (.cells (arr .i64 (tell 64 (toF bs) j)) 33 (0, 0)) ∧ Below w.heap.size w wr) (fun s7 _ => 64 - (intOf s7).toNat)
  case atStart => exact ⟨0, by omega, rfl, a0, r0, o0, b0⟩
  case round =>
    clear a0 r0 o0 b0
    obtain ⟨j, hj, rfl, ha, hr, ho, hbr⟩ := hrel
    by_cases hj64 : j < 64
    · have hj1 : (j : Int) < 64 := by omega
      have hj0 : (0 : Int) ≤ (j : Int) := by omega
      have hix := fun W => zix j hj64 W
      have hz := zig_bd j hj64
      have hz0 := hz.1
      have hz1 := hz.2
      have hzn : (zig j).toNat < 64 := by omega
      have c1 := blk_cell ha (zig j).toNat (by rw [HN.out]; omega)
      have c2 := blk_cell ho j (by rw [tell_len]; omega)
      have c3 := frozen_of_row wr _ j _ _ ho
      have hset : (wr.setCell ⟨w.heap.size + 2, j, none⟩ (.int .i64 (toF bs j))).heap[w.heap.size + 2]? = some (.cells (arr .i64 (tell 64 (toF bs) (j + 1))) 33 (0, 0)) := by rw [blk_set ho, tell_set _ _ _ hj64]
      have hset' := Lib.hid hset
      have HA := Lib.hid ha
      have HR := Lib.hid hr
      clear hset ha hr ho hz
      go_wp2_with fail
      go_roundw
      case rel => exact ⟨j + 1, by omega, by go_num, by rw [heap_setCell_other _ _ _ _ (by show w.heap.size ≠ w.heap.size + 2; omega)]; exact HA.out, by rw [heap_setCell_other _ _ _ _ (by show w.heap.size + 1 ≠ w.heap.size + 2; omega)]; exact HR.out, hset'.out, hbr.setCell (by show w.heap.size ≤ w.heap.size + 2; omega) _⟩
      case measure => simp [intOf]; omega
    · have hj1 : (64 : Int) ≤ (j : Int) := by omega
      obtain rfl : j = 64 := by omega
      rw [tell_all] at ho
      have ho' : wr.heap[w.heap.size + 2]? = some (.cells (arr .i64 (toL bs)) 33 (0, 0)) := ho
      have HA := Lib.hid ha
      clear ha
      go_wp2_with (first | (with_reducible refine wpl_load_arr at27 rfl (.tmp 3) rfl (w.heap.size + 2) rfl 33 (toL_len bs) ho' ?_) | (with_reducible refine wpl_store_arr at27 rfl (.tmp 2) (.tmp 17) rfl (w.heap.size + 1) rfl rfl 33 (toL_len bs) _ (by rw [arr_size, tell_len]) hr ?_; intro w2 hr2 hg2 hs2))
      exact bodyPost_ret (res_arr at27 rfl _ _ (w.heap.size + 1) 33 rfl (toL_len bs) hr2) rfl ⟨rfl, hbr.grown hg2 hbr.size (fun k hk => by cases hk; omega)⟩
end Go.Proofs.Ytckkncblbagfmaa
