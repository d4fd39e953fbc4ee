/- The contract of Box. -/
import Derived.Test.YtdjfjndmkkhknaaH
namespace Go.Proofs.Ytdjfjndmkkhknaa
open Go.RowKit
open Go.Tin
set_option linter.unusedVariables false
set_option linter.unusedSimpArgs false

/-- Four blocks made one behind the other. -/
theorem four (w : World) (o0 o1 o2 o3 : Obj) : ((((w.alloc o0).alloc o1).alloc o2).alloc o3).heap[w.heap.size]? = some o0 ∧ ((((w.alloc o0).alloc o1).alloc o2).alloc o3).heap[w.heap.size + 1]? = some o1 ∧
    ((((w.alloc o0).alloc o1).alloc o2).alloc o3).heap[w.heap.size + 1 + 1]? = some o2 ∧ ((((w.alloc o0).alloc o1).alloc o2).alloc o3).heap[w.heap.size + 1 + 1 + 1]? = some o3 := by
  refine ⟨?_, ?_, ?_, ?_⟩
  · rw [Below.heap_alloc _ _ _ (by simp; omega), Below.heap_alloc _ _ _ (by simp <;> omega), Below.heap_alloc _ _ _ (by simp)]
    exact heap_alloc_new w o0
  · rw [Below.heap_alloc _ _ _ (by simp <;> omega), Below.heap_alloc _ _ _ (by simp)]
    exact heap_alloc2_new w o0 o1
  · rw [Below.heap_alloc _ _ _ (by simp)]
    have h := heap_alloc_new ((w.alloc o0).alloc o1) o2
    simp only [World.size_alloc] at h
    exact h
  · have h := heap_alloc_new (((w.alloc o0).alloc o1).alloc o2) o3
    simp only [World.size_alloc] at h
    exact h

set_option maxRecDepth 100000 in
set_option maxHeartbeats 2000000 in
theorem box_no (W H a b : Int) (A : Option Addr) (n c : Nat) (w : World) (hno : cutB W H n a b = false) :
    Calls Try.prog 16 #[.agg #[.int .i64 W, .int .i64 H, .slice A n c], .int .i64 a, .int .i64 b] w fun e w' => e = .returned (.tuple #[.agg #[.int .i64 0, .int .i64 0, .slice none 0 0], .int .i64 1]) ∧ Below w.heap.size w w' := by
  go_enter Try.func16, Try.ntmps16
  go_wp2_with fail
  obtain ⟨f0, f1, f2, f3⟩ := four w (.cells #[.int .i64 W, .int .i64 H, .slice A n c] 24) (.cells #[.int .i64 a] 3) (.cells #[.int .i64 b] 3) (.cells #[.int .i64 0, .int .i64 0, .slice none 0 0] 24)
  have hz0 : ((((w.alloc (.cells #[.int .i64 W, .int .i64 H, .slice A n c] 24)).alloc (.cells #[.int .i64 a] 3)).alloc (.cells #[.int .i64 b] 3)).alloc (.cells #[.int .i64 0, .int .i64 0, .slice none 0 0] 24)).heap.size = w.heap.size + 4 := by simp
  have hb0 := ba (ba (ba (ba (brefl w) (.cells #[.int .i64 W, .int .i64 H, .slice A n c] 24)) (.cells #[.int .i64 a] 3)) (.cells #[.int .i64 b] 3)) (.cells #[.int .i64 0, .int .i64 0, .slice none 0 0] 24)
  generalize (((w.alloc _).alloc _).alloc _).alloc _ = W0 at *
  refine (may_any W H A n c W0).mono ?_
  rintro e w1 ⟨rfl, hb1⟩
  have g0 := (hb1.block _ (show w.heap.size < _ by omega)).trans f0
  have g1 := (hb1.block _ (show w.heap.size + 1 < _ by omega)).trans f1
  have g2 := (hb1.block _ (show w.heap.size + 1 + 1 < _ by omega)).trans f2
  have k0 := row_cell g0 0 rfl
  have k1 := row_cell g0 1 rfl
  have ka := row_cell g1 0 rfl
  have kb := row_cell g2 0 rfl
  have r1 := Lib.hid ((hb1.block _ (show w.heap.size + 1 + 1 + 1 < _ by omega)).trans f3)
  have hb2 := bt hb0 hb1
  have hz1 := hb1.size
  clear f0 f1 f2 f3 g0 g1 g2 hb0 hb1
  unfold cutB at hno
  by_cases hm : mayB W H n = true
  · rw [hm]
    rw [hm, Bool.true_and] at hno
    clear hm
    go_wp2_with fail
    generalize hW3 : w1.alloc _ = W3 at *
    have hb3 : Below w1.heap.size w1 W3 := by rw [← hW3]; exact ba (brefl w1) _
    have hs3 : Sl .i64 W3 (some ⟨w1.heap.size, 0, none⟩) [a, b] := by rw [← hW3]; exact Sl.new_ _ _ _ _ rfl
    clear hW3
    refine (size_any (some ⟨w1.heap.size, 0, none⟩) 2 [a, b] W3 hs3 (by simp)).mono ?_
    rintro e w' ⟨rfl, rfl⟩
    rw [show [a, b].all okS = (okS a && okS b) by simp]
    have hb4 := bt hb2 hb3
    obtain ⟨hc, hf⟩ := bcell hb3
    have k0' := (hc _ _ (by omega)).trans k0
    have k1' := (hc _ _ (by omega)).trans k1
    have ka' := (hc _ _ (by omega)).trans ka
    have kb' := (hc _ _ (by omega)).trans kb
    have r3 := Lib.hid ((hb3.block _ (show w.heap.size + 1 + 1 + 1 < _ by omega)).trans r1.out)
    clear hc hf k0 k1 ka kb r1 hb2 hs3 hb3
    have r1 := r3
    by_cases hs : (okS a && okS b) = true
    · rw [hs]
      rw [hs, Bool.true_and] at hno
      clear hs
      by_cases x1 : a ≤ W
      · have d2 : decide (W < a) = false := by simpa using x1
        have d3 : decide (H < b) = true := by simp [x1] at hno; simpa using hno
        clear hno x1
        go_wp2_with ((with_reducible refine wpl_store_row rt24 rfl (.tmp 6) (.tmp 31) rfl (w.heap.size + 1 + 1 + 1) rfl #[.int .i64 0, .int .i64 0, .slice none 0 0] rfl (pic_one _ _ _ _ _) 24 ?_ #[.int .i64 0, .int .i64 0, .slice none 0 0] ?_ r1.out ?_); rfl; rfl; intro w5 hr5 hg5 hs5; simp only [Act.put])
        exact bodyPost_ret (res_row_tmp rt24 rfl _ _ (w.heap.size + 1 + 1 + 1) 24 _ rfl (.int .i64 1) rfl rfl hr5) rfl ⟨rfl, hb4.grown hg5 hb4.size (fun k hk => by cases hk; omega)⟩
      · have d2 : decide (W < a) = true := by simp; omega
        clear hno x1
        go_wp2_with ((with_reducible refine wpl_store_row rt24 rfl (.tmp 6) (.tmp 31) rfl (w.heap.size + 1 + 1 + 1) rfl #[.int .i64 0, .int .i64 0, .slice none 0 0] rfl (pic_one _ _ _ _ _) 24 ?_ #[.int .i64 0, .int .i64 0, .slice none 0 0] ?_ r1.out ?_); rfl; rfl; intro w5 hr5 hg5 hs5; simp only [Act.put])
        exact bodyPost_ret (res_row_tmp rt24 rfl _ _ (w.heap.size + 1 + 1 + 1) 24 _ rfl (.int .i64 1) rfl rfl hr5) rfl ⟨rfl, hb4.grown hg5 hb4.size (fun k hk => by cases hk; omega)⟩
    · have hs' : (okS a && okS b) = false := by simpa using hs
      rw [hs']
      clear hno hs hs'
      go_wp2_with ((with_reducible refine wpl_store_row rt24 rfl (.tmp 6) (.tmp 31) rfl (w.heap.size + 1 + 1 + 1) rfl #[.int .i64 0, .int .i64 0, .slice none 0 0] rfl (pic_one _ _ _ _ _) 24 ?_ #[.int .i64 0, .int .i64 0, .slice none 0 0] ?_ r1.out ?_); rfl; rfl; intro w5 hr5 hg5 hs5; simp only [Act.put])
      exact bodyPost_ret (res_row_tmp rt24 rfl _ _ (w.heap.size + 1 + 1 + 1) 24 _ rfl (.int .i64 1) rfl rfl hr5) rfl ⟨rfl, hb4.grown hg5 hb4.size (fun k hk => by cases hk; omega)⟩
  · have hm' : mayB W H n = false := by simpa using hm
    rw [hm']
    clear hno hm hm'
    go_wp2_with ((with_reducible refine wpl_store_row rt24 rfl (.tmp 6) (.tmp 31) rfl (w.heap.size + 1 + 1 + 1) rfl #[.int .i64 0, .int .i64 0, .slice none 0 0] rfl (pic_one _ _ _ _ _) 24 ?_ #[.int .i64 0, .int .i64 0, .slice none 0 0] ?_ r1.out ?_); rfl; rfl; intro w5 hr5 hg5 hs5; simp only [Act.put])
    exact bodyPost_ret (res_row_tmp rt24 rfl _ _ (w.heap.size + 1 + 1 + 1) 24 _ rfl (.int .i64 1) rfl rfl hr5) rfl ⟨rfl, hb2.grown hg5 hb2.size (fun k hk => by cases hk; omega)⟩
end Go.Proofs.Ytdjfjndmkkhknaa
