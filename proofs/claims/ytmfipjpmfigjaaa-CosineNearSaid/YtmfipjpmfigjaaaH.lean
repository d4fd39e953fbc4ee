/- The contract of flat, and what is computed of some blocks. -/
import Derived.Test.YtmfipjpmfigjaaaG
namespace Go.Proofs.Ytmfipjpmfigjaaa
open Go.RowKit
open Go.Tin
set_option linter.unusedVariables false
set_option linter.unusedSimpArgs false

theorem eg26 : Try.prog.eqGuardType Try.prog.depth 26 = false := by kernel_rfl
set_option maxRecDepth 100000 in
set_option maxHeartbeats 2000000 in
theorem flat_any (n : Int) (w : World) : Calls Try.prog 17 #[.int .i64 n] w fun e w' => e = .returned (.agg (arr .i64 (full 64 fun _ => n))) ∧ Below w.heap.size w w' := by
  have q0 := heap_alloc2_old w (.cells (Array.replicate 64 (.int .i64 0)) 26) (.cells (Array.replicate 64 (.int .i64 0)) 26)
  have q1 := heap_alloc2_new w (.cells (Array.replicate 64 (.int .i64 0)) 26) (.cells (Array.replicate 64 (.int .i64 0)) 26)
  have hB := ba (ba (brefl w) (.cells (Array.replicate 64 (.int .i64 0)) 26)) (.cells (Array.replicate 64 (.int .i64 0)) 26)
  have hz : ((w.alloc (.cells (Array.replicate 64 (.int .i64 0)) 26)).alloc (.cells (Array.replicate 64 (.int .i64 0)) 26)).heap.size = w.heap.size + 2 := by simp
  rw [← arr_rep] at q0
  rw [arr_zero .i64 64 (fun _ => n)] at q1
  go_enter Try.func17, Try.ntmps17
  go_wp2_with fail
  generalize hW0 : (w.alloc _).alloc _ = W0
  replace q0 : W0.heap[w.heap.size]? = some (.cells (arr .i64 (List.replicate 64 0)) 26 (0, 0)) := by rw [← hW0]; exact q0
  replace q1 : W0.heap[w.heap.size + 1]? = some (.cells (arr .i64 (tell 64 (fun _ => n) 0)) 26 (0, 0)) := by rw [← hW0]; exact q1
  replace hB : Below w.heap.size w W0 := by rw [← hW0]; exact hB
  replace hz : w.heap.size + 2 ≤ W0.heap.size := by rw [← hW0]; exact Nat.le_of_eq hz.symm
  clear hW0
  go_loopw [4] (fun s3 wr => ∃ (i : Nat), i ≤ 64 ∧ s3 = .int .i64 (i : Int) ∧ wr.heap[w.heap.size]? = some (.cells (arr .i64 (List.replicate 64 0)) 26 (0, 0)) ∧ wr.heap[w.heap.size + 1]? = some (.cells (arr .i64 (tell 64 (fun _ => n) i)) 26 (0, 0)) ∧ Below w.heap.size w wr ∧ w.heap.size + 2 ≤ wr.heap.size) (fun s3 _ => 64 - (intOf s3).toNat)
  case atStart => exact ⟨0, by omega, rfl, q0, q1, hB, hz⟩
  case round =>
    clear q0 q1 hB hz
    obtain ⟨i, hi, rfl, q0, q1, hB, hz⟩ := hrel
    have H0 := Lib.hid q0
    by_cases hi64 : i < 64
    · have i1 : (i : Int) < 64 := by omega
      have c2 := row_cell q1 i (arr_get i (by rw [tell_len]; exact hi64))
      have c3 := frozen_of_row wr _ i _ _ q1
      have hset : (wr.setCell ⟨w.heap.size + 1, i, none⟩ (.int .i64 n)).heap[w.heap.size + 1]? = some (.cells (arr .i64 (tell 64 (fun _ => n) (i + 1))) 26 (0, 0)) := by rw [blk_set q1]; rw [show n = (fun _ : Nat => n) i from rfl, tell_set _ _ _ hi64]
      have HSet := Lib.hid hset
      clear q0 q1 hset
      go_wp2_with fail
      go_roundw
      case rel => exact ⟨i + 1, by omega, by go_num, by rw [heap_setCell_other _ _ _ _ (by show w.heap.size ≠ w.heap.size + 1; omega)]; exact H0.out, HSet.out, hB.setCell (by show w.heap.size ≤ w.heap.size + 1; omega) _, by simpa [World.setCell] using hz⟩
      case measure => simp [intOf]; omega
    · obtain rfl : i = 64 := by omega
      have H1 := Lib.hid q1
      clear q0 q1
      go_wp2_with (first | ((with_reducible refine wpl_load_row rt26 ?_ (.tmp 3) rfl (w.heap.size + 1) rfl 26 _ ?_ H1.out ?_); rfl; simp; simp only [Act.put, List.setIfInBounds_toArray, List.set_cons_succ, List.set_cons_zero]) | ((with_reducible refine wpl_store_row rt26 rfl (.tmp 2) (.tmp 12) rfl w.heap.size rfl _ rfl arr_one 26 ?_ _ ?_ H0.out ?_); simp; simp; intro w6 hr6 hg6 hs6))
      exact bodyPost_ret (res_row rt26 rfl _ _ w.heap.size 26 _ rfl (by simp) hr6) rfl ⟨by rw [tell_all], hB.grown hg6 hB.size (fun k hk => by cases hk; omega)⟩

def bl (n : Int) : List Int := n :: List.replicate 63 0
theorem bl_len (n : Int) : (bl n).length = 64 := by simp [bl]
def hundred : List Int := full 64 fun _ => 100
theorem aw1 : dctL fwdF hundred = bl 800 := by kernel_rfl
theorem aw2 : dctL invF (bl 800) = hundred := by kernel_rfl
theorem aw3 : nth (dctL fwdF (bl 127)) 0 = 16 ∧ nth (dctL fwdF (bl 127)) 1 = 22 ∧ nth (dctL fwdF (bl 127)) 9 = 31 := by
  refine ⟨by kernel_rfl, by kernel_rfl, by kernel_rfl⟩
theorem aw4 : dctE hundred = 0 ∧ dctE (bl 800) = 0 ∧ dctE (bl 127) = 0 := ⟨by kernel_rfl, by kernel_rfl, by kernel_rfl⟩
end Go.Proofs.Ytmfipjpmfigjaaa
