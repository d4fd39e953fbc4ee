/- The contracts of a type's kind. -/
import Derived.Test.YtmdcdmgbillehaaTyM
import Derived.Test.YtmdcdmgbillehaaPsh
import Derived.Test.YtmdcdmgbillehaaRes
import Derived.Test.YtmdcdmgbillehaaFrm
namespace Go.Proofs.Ytmdcdmgbillehaa
open Go.RowKit
open Go.Tin
set_option linter.unusedVariables false
set_option linter.unusedSimpArgs false


theorem wpl_index {P : Program} {ops : Array Oper} {rest : List Oper} {o : Oper} {a : Act} {w : World} {Q : Exit → Act → World → Prop} (hgd : o.guard = none) (t : TypeId) (x y : Operand) (ho : o.op = .index t x y)
    (vx vy : Value) (hx : a.eval x = vx) (hy : a.eval y = vy) (v : Value) (hrun : (Instr.index t vx vy).run P w = .ok v w) (h : wpList P ops Q rest (a.put o.dst v) w) : wpList P ops Q (o :: rest) a w := by
  refine wpList_plain hgd fun K hK => ?_
  unfold Oper.wp execOp
  simp only [ho, hx, hy, Sem.run_bind, Sem.run_pure, Result.andThen_ok, hrun]
  exact hK _ _ h
theorem wpl_field {P : Program} {ops : Array Oper} {rest : List Oper} {o : Oper} {a : Act} {w : World} {Q : Exit → Act → World → Prop} (hgd : Region.wanted o (yielded ops a.tmps) = true) (t : TypeId) (x : Operand) (i : Nat) (ho : o.op = .field t x i)
    (vx : Value) (hx : a.eval x = vx) (v : Value) (hrun : (Instr.field t vx i).run P w = .ok v w) (h : wpList P ops Q rest (a.put o.dst v) w) : wpList P ops Q (o :: rest) a w := by
  refine wpList_step fun K hK => ?_
  rw [if_pos hgd]
  unfold Oper.wp execOp
  simp only [ho, hx, Sem.run_bind, Sem.run_pure, Result.andThen_ok, hrun]
  exact hK _ _ h
theorem kd_0 (a b c : Value) (w : World) : (Instr.field 58 (.agg #[a, b, c]) 0).run Try.prog w = .ok a w := by kernel_rfl
theorem kd_1 (a b c : Value) (w : World) : (Instr.field 58 (.agg #[a, b, c]) 1).run Try.prog w = .ok b w := by kernel_rfl
theorem kd_2 (a b c : Value) (w : World) : (Instr.field 58 (.agg #[a, b, c]) 2).run Try.prog w = .ok c w := by kernel_rfl
theorem kdF0 (n : Int) (w : World) : (Instr.field 58 (.agg #[.int .i64 (szT n), .int .i64 (prT n), .int .i64 (isT n)]) 0).run Try.prog w = .ok (.int .i64 (szT n)) w := kd_0 _ _ _ _
theorem kdF1 (n : Int) (w : World) : (Instr.field 58 (.agg #[.int .i64 (szT n), .int .i64 (prT n), .int .i64 (isT n)]) 1).run Try.prog w = .ok (.int .i64 (prT n)) w := kd_1 _ _ _ _
theorem kdF2 (n : Int) (w : World) : (Instr.field 58 (.agg #[.int .i64 (szT n), .int .i64 (prT n), .int .i64 (isT n)]) 2).run Try.prog w = .ok (.int .i64 (isT n)) w := kd_2 _ _ _ _
def kdL : List Int := [0,0,0, 1,1,1, 1,1,1, 2,2,1, 4,4,1, 8,4,3, 1,1,2, 1,1,1, 2,2,2, 4,4,2, 8,4,4, 4,4,5, 8,8,5]
theorem rt72 : RT Try.prog 75 39 := RT.of Try.underlying75 rfl (by kernel_rfl)
theorem rtK : RT Try.prog 58 3 := RT.of Try.underlying58 rfl (by kernel_rfl)
theorem kd_idx (n : Nat) (hn : n < 13) (w : World) : (Instr.index 75 (.agg (arr .i64 kdL)) (.int .i64 (n : Int))).run Try.prog w = .ok (.agg #[.int .i64 (szT n), .int .i64 (prT n), .int .i64 (isT n)]) w := by
  rcases (by omega : n = 0 ∨ n = 1 ∨ n = 2 ∨ n = 3 ∨ n = 4 ∨ n = 5 ∨ n = 6 ∨ n = 7 ∨ n = 8 ∨ n = 9 ∨ n = 10 ∨ n = 11 ∨ n = 12) with rfl | rfl | rfl | rfl | rfl | rfl | rfl | rfl | rfl | rfl | rfl | rfl | rfl <;> kernel_rfl
set_option maxRecDepth 100000 in
theorem kinds_any (w : World) : Calls Try.prog 58 #[] w fun e w' => e = .returned (.agg (arr .i64 kdL)) ∧ Below w.heap.size w w' := by
  have HB := Lib.hid (fun o => ba (brefl w) o)
  have HR := Lib.hid (fun o => heap_alloc_new w o)
  go_enter Try.func58, Try.ntmps58
  go_wp2_with (first | (refine Tin.wpl_build rfl 75 _ rfl (.agg (arr .i64 kdL)) (by kernel_rfl) ?_; simp only [Act.put, List.setIfInBounds_toArray, List.set_cons_succ, List.set_cons_zero]) | ((with_reducible refine wpl_store_row rt72 ?_ (.tmp 0) (.tmp 13) ?_ (w.heap.size) ?_ (arr .i64 kdL) ?_ arr_one 75 ?_ _ ?_ (HR.out _) ?_); rfl; rfl; rfl; rfl; rfl; simp; intro w7 hr7 hg7 hs7; (try simp only [Act.put])))
  exact bodyPost_ret (res_row rt72 rfl _ _ w.heap.size 75 (arr .i64 kdL) rfl rfl hr7) rfl ⟨rfl, (HB.out _).grown hg7 (by simp) (fun k hk => by cases hk; exact Nat.le_refl _)⟩
set_option maxRecDepth 100000 in
theorem of_any (n : Int) (w : World) : Calls Try.prog 36 #[.int .i64 n] w fun e w' => e = .returned (.agg #[.int .i64 (szT n), .int .i64 (prT n), .int .i64 (isT n)]) ∧ Below w.heap.size w w' := by
  obtain ⟨W, hW⟩ : ∃ W, W = w.alloc (.cells #[.int .i64 0, .int .i64 0, .int .i64 0] 58) := ⟨_, rfl⟩
  have HB := Lib.hid (show Below w.heap.size w W by rw [hW]; exact ba (brefl w) (.cells #[.int .i64 0, .int .i64 0, .int .i64 0] 58))
  have HR := Lib.hid (show W.heap[w.heap.size]? = some (.cells #[.int .i64 0, .int .i64 0, .int .i64 0] 58 (0, 0)) by rw [hW]; exact heap_alloc_new w _)
  have HW := Lib.hid hW
  by_cases h0 : n < 0 ∨ 12 < n
  · have HK := Lib.hid (kd_no h0)
    by_cases h1 : n < 0
    · have d0 : decide (n < 0) = true := by simpa using h1
      clear h0 h1 hW
      go_enter Try.func36, Try.ntmps36
      go_wp2_with fail
      have hc : ((w.alloc (.cells #[.int .i64 0, .int .i64 0, .int .i64 0] 58))).heap[w.heap.size]? = some (.cells #[.int .i64 0, .int .i64 0, .int .i64 0] 58 (0, 0)) := heap_alloc_new w _
      exact bodyPost_ret (res_row rtK rfl _ _ w.heap.size 58 #[.int .i64 0, .int .i64 0, .int .i64 0] rfl rfl hc) rfl ⟨by rw [HK.out.1, HK.out.2.1, HK.out.2.2], ba (brefl w) _⟩
    · have d0 : decide (n < 0) = false := by simpa using h1
      have d1 : decide (12 < n) = true := by simp; omega
      clear h0 h1 hW
      go_enter Try.func36, Try.ntmps36
      go_wp2_with fail
      have hc : ((w.alloc (.cells #[.int .i64 0, .int .i64 0, .int .i64 0] 58))).heap[w.heap.size]? = some (.cells #[.int .i64 0, .int .i64 0, .int .i64 0] 58 (0, 0)) := heap_alloc_new w _
      exact bodyPost_ret (res_row rtK rfl _ _ w.heap.size 58 #[.int .i64 0, .int .i64 0, .int .i64 0] rfl rfl hc) rfl ⟨by rw [HK.out.1, HK.out.2.1, HK.out.2.2], ba (brefl w) _⟩
  · obtain ⟨m, rfl⟩ := Int.eq_ofNat_of_zero_le (show 0 ≤ n by omega)
    have hm : m < 13 := by omega
    have d0 : decide ((m : Int) < 0) = false := by simp
    have d1 : decide (12 < (m : Int)) = false := by simp; omega
    have HI := Lib.hid (kd_idx m hm)
    clear h0 hW
    go_enter Try.func36, Try.ntmps36
    go_wp2_with fail
    rw [← HW.out]
    refine (kinds_any _).mono ?_
    rintro e w1 ⟨rfl, hb⟩
    have HR1 := Lib.hid ((hb.block _ (row_lt HR.out)).trans HR.out)
    have HB1 := Lib.hid (HB.out.trans (hb.mono HB.out.size))
    clear hb HR HB HW
    go_wp2_with (first | ((with_reducible refine wpl_index ?_ 75 (.tmp 10) (.tmp 11) ?_ _ _ ?_ ?_ _ (HI.out _) ?_); rfl; rfl; rfl; rfl; simp only [Act.put, List.setIfInBounds_toArray, List.set_cons_succ, List.set_cons_zero]) | ((with_reducible refine wpl_store_row rtK ?_ (.tmp 2) (.tmp 12) ?_ (w.heap.size) ?_ #[.int .i64 (szT m), .int .i64 (prT m), .int .i64 (isT m)] ?_ ?_ 58 ?_ _ ?_ HR1.out ?_); rfl; rfl; rfl; rfl; (simp [Value.oneCell']); rfl; rfl; intro w7 hr7 hg7 hs7; (try simp only [Act.put])))
    exact bodyPost_ret (res_row rtK rfl _ _ w.heap.size 58 _ rfl rfl hr7) rfl ⟨rfl, HB1.out.grown hg7 HB1.out.size (fun k hk => by cases hk; exact Nat.le_refl _)⟩
theorem size_any (n : Int) (w : World) : Calls Try.prog 30 #[.int .i64 n] w fun e w' => e = .returned (.int .i64 (szT n)) ∧ Below w.heap.size w w' := by
  go_enter Try.func30, Try.ntmps30
  go_wp2_with fail
  refine (of_any n _).mono ?_
  rintro e w1 ⟨rfl, hb⟩
  go_wp2_with ((with_reducible refine wpl_field ?_ 58 (.tmp 4) 0 ?_ _ ?_ _ (kdF0 n _) ?_); rfl; rfl; rfl; simp only [Act.put, List.setIfInBounds_toArray, List.set_cons_succ, List.set_cons_zero])
  go_ret
  exact ⟨rfl, hb⟩
end Go.Proofs.Ytmdcdmgbillehaa
