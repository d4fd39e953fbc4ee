/- The chapter's examples hold (awake). -/
import Derived.Test.YtckkncblbagfmaaCfK
namespace Go.Proofs.Ytckkncblbagfmaa
open Go.RowKit
open Go.Tin
set_option linter.unusedVariables false
set_option linter.unusedSimpArgs false


def b3 : List Int := 3 :: List.replicate 63 0
def b18 : List Int := (List.replicate 64 0).set 26 1
theorem b3_len : b3.length = 64 := by decide
theorem b18_len : b18.length = 64 := by decide
theorem bld3 (w : World) : (Instr.build 33 #[(0, .int .i64 3)]).run Try.prog w = .ok (.agg (arr .i64 b3)) w := by kernel_rfl
theorem code3 : code b3 5 = [0, 2, 1, 2, 1, 0, 0, 0] ∧ cerr b3 5 = 0 := ⟨by kernel_rfl, by kernel_rfl⟩
theorem code18 : code b18 0 = [0, 0, 0, 0, 1, 240, 0, 0, 1, 17, 1, 1, 1, 0, 0, 0] ∧ cerr b18 0 = 0 := ⟨by kernel_rfl, by kernel_rfl⟩
theorem zig18 : zig 18 = 26 := by decide
theorem sz_ex : sz 0 = 0 ∧ sz (-1) = 1 ∧ sz 5 = 3 ∧ sz 32768 = -1 := ⟨by decide, by decide, by decide, by decide⟩
theorem ex_ex : exV (-5) = 2 ∧ exN (-5) = 3 ∧ exB (-5) = true ∧ vaN 2 3 = -5 ∧ vaB 2 3 = true := ⟨by decide, by decide, by decide, by decide, by decide⟩
theorem wf3 : ∀ z ∈ b3, (Lit.int .i64 z).wf = true := by
  intro z hz
  have h : b3.all (fun z => (Lit.int .i64 z).wf) = true := by kernel_rfl
  exact List.all_eq_true.1 h z hz
theorem wf18 : ∀ z ∈ b18, (Lit.int .i64 z).wf = true := by
  intro z hz
  have h : b18.all (fun z => (Lit.int .i64 z).wf) = true := by kernel_rfl
  exact List.all_eq_true.1 h z hz
theorem same_n (A A' : Option Addr) (n m c d : Nat) (zs ys : List Int) (he : zs = ys) (w : World) (hs : SlV w A (iv zs)) (ht : SlV w A' (iv ys)) (hz : zs.length = n * 4) (hy : ys.length = m * 4) (hn : n ≤ 1000000) (hm : m ≤ 1000000) :
    Calls Try.prog 16 #[.slice A n c, .slice A' m d] w fun e w' => e = .returned (.bool true) ∧ Below w.heap.size w w' := by
  have := same_any A A' n m c d zs ys w hs ht hz hy hn hm
  rwa [decide_eq_true he] at this
theorem size_n (v s : Int) (hs : sz v = s) (w : World) (wv : (Lit.int .i64 v).wf = true) : Calls Try.prog 9 #[.int .i64 v] w fun e w' => e = .returned (.int .i64 s) ∧ w = w' := by
  subst hs
  exact size_any v w wv

set_option maxRecDepth 100000 in
set_option maxHeartbeats 4000000 in
theorem awake_any (w : World) : Calls Try.prog 13 #[] w fun e w' => e = .returned (.bool true) ∧ Below w.heap.size w w' := by
  have HX := Lib.hid (fun W => extra_any (-5) W (by decide))
  have HV := Lib.hid (fun W => value_any 2 3 W (by decide) (by decide))
  rw [ex_ex.1, ex_ex.2.1, ex_ex.2.2.1] at HX
  rw [ex_ex.2.2.2.1, ex_ex.2.2.2.2] at HV
  have HC3 := Lib.hid (fun W => code_any b3 b3_len wf3 5 (by decide) W)
  have HC18 := Lib.hid (fun W => code_any b18 b18_len wf18 0 (by decide) W)
  rw [code3.1, code3.2] at HC3
  rw [code18.1, code18.2] at HC18
  have HBL := Lib.hid bld3
  have HL18 := Lib.hid b18_len
  have H18 := Lib.hid (show b18 = (List.replicate 64 0).set 26 1 from rfl)
  have HZ := Lib.hid (fun W => rat_any 18 (by decide) W)
  rw [zig18] at HZ
  generalize b3 = x3 at *
  generalize b18 = x18 at *
  go_enter Try.func13, Try.ntmps13
  go_wp2_with fail
  refine (HX.out w).mono ?_
  rintro e w1 ⟨rfl, hb1⟩
  have HB1 := Lib.hid (ba hb1 (.cells #[.int .i64 2, .int .i64 3] 23))
  have hg1 : w1.heap.size < (w1.alloc (.cells #[.int .i64 2, .int .i64 3] 23)).heap.size := by simp
  have R1 := Lib.hid (heap_alloc_new w1 (.cells #[.int .i64 2, .int .i64 3] 23))
  go_wp2_with fail
  refine (HV.out _).mono ?_
  rintro e w2 ⟨rfl, hb2⟩
  obtain ⟨g1, hgg⟩ : ∃ g1, g1 = w1.heap.size := ⟨_, rfl⟩
  rw [← hgg] at R1 hg1 ⊢
  have HB2 := Lib.hid (bt HB1.out hb2)
  have R2 := Lib.hid ((hb2.block _ hg1).trans R1.out)
  have hg2 := row_lt R2.out
  clear hb1 hb2 hg1 HB1 R1 hgg
  go_wp2_with ((with_reducible refine wpl_build ?_ 33 #[(0, .const (.int .i64 3))] ?_ (.agg (arr .i64 x3)) ?_ ?_); rfl; rfl; simp only [List.map_toArray, List.map_cons, List.map_nil, Act.eval]; exact HBL.out _; simp only [Act.put, List.setIfInBounds_toArray, List.set_cons_succ, List.set_cons_zero])
  refine (HC3.out w2).mono ?_
  rintro e w3 ⟨A3, n3, c3, rfl, hn3, ho3, hb3⟩
  obtain rfl : n3 = 2 := by simp at hn3; omega
  have HB3 := Lib.hid (bt HB2.out hb3)
  have S3 := Lib.hid (OwnV.sl' ho3).2.1
  have R3 := Lib.hid ((hb3.block _ hg2).trans R2.out)
  have hg3 := Nat.lt_of_lt_of_le hg2 hb3.size
  clear hn3 ho3 hb3 HB2 R2
  go_wp2_with fail
  generalize hW : w3.alloc _ = W4
  have RZ : W4.heap[w3.heap.size]? = some (.cells (arr .i64 (List.replicate 64 0)) 33 (0, 0)) := by rw [← hW]; exact heap_alloc_new w3 _
  have hal : Below w3.heap.size w3 W4 := by rw [← hW]; exact ba (brefl w3) _
  clear hW
  refine (HZ.out _).mono ?_
  rintro e w' ⟨rfl, rfl⟩
  obtain ⟨q, hq⟩ : ∃ q, q = w3.heap.size := ⟨_, rfl⟩
  rw [← hq] at RZ
  have hset := blk_set RZ 26 1
  rw [← H18.out] at hset
  have hb4 : Below w3.heap.size w3 (W4.setCell ⟨q, 26, none⟩ (.int .i64 1)) := hal.setCell (by show w3.heap.size ≤ q; omega) _
  have cz := blk_cell RZ 26 (by decide)
  rw [show nth (List.replicate 64 0) 26 = 0 by decide] at cz
  have fz := frozen_of_row _ _ 26 _ _ RZ
  have RS := Lib.hid hset
  have HB4 := Lib.hid (bt HB3.out hb4)
  have S4 := Lib.hid (S3.out.keep hb4)
  have R4 := Lib.hid ((hb4.block _ hg3).trans R3.out)
  rw [← hq]
  clear hset hb4 hal RZ HB3 S3 R3 hq
  go_wp2_with (with_reducible refine wpl_load_arr at27 rfl (.tmp 7) rfl q rfl 33 HL18.out RS.out ?_)
  generalize W4.setCell ⟨q, 26, none⟩ (.int .i64 1) = w5 at *
  have hg5 := row_lt R4.out
  refine (HC18.out w5).mono ?_
  rintro e w6 ⟨A6, n6, c6, rfl, hn6, ho6, hb6⟩
  obtain rfl : n6 = 4 := by simp at hn6; omega
  have HB6 := Lib.hid (bt HB4.out hb6)
  have S36 := Lib.hid (S4.out.keep hb6)
  have S6 := Lib.hid (OwnV.sl' ho6).2.1
  have R6 := Lib.hid ((hb6.block _ hg5).trans R4.out)
  clear hn6 ho6 hb6 HB4 S4 R4 cz fz
  go_wp2_with fail
  refine (size_n 0 0 sz_ex.1 w6 (by decide)).mono ?_
  rintro e w' ⟨rfl, rfl⟩
  go_wp2_with fail
  refine (size_n (-1) 1 sz_ex.2.1 w6 (by decide)).mono ?_
  rintro e w' ⟨rfl, rfl⟩
  go_wp2_with fail
  refine (size_n 5 3 sz_ex.2.2.1 w6 (by decide)).mono ?_
  rintro e w' ⟨rfl, rfl⟩
  go_wp2_with fail
  refine (size_n 32768 (-1) sz_ex.2.2.2 w6 (by decide)).mono ?_
  rintro e w' ⟨rfl, rfl⟩
  go_wp2_with (first | ((with_reducible refine wpl_load_row rt23 ?_ (.tmp 1) rfl g1 rfl 23 #[.int .i64 2, .int .i64 3] ?_ R6.out ?_); rfl; rfl; simp only [Act.put, List.setIfInBounds_toArray, List.set_cons_succ, List.set_cons_zero]) | ((with_reducible refine wpl_eql pairE ?_ (.tmp 46) (.tmp 47) 23 rfl rfl rfl (pair_q _ _ _ _) ?_); rfl; simp only [Act.put, List.setIfInBounds_toArray, List.set_cons_succ, List.set_cons_zero]))
  have ha6 := ba (brefl w6) (.cells #[.int .i64 0, .int .i64 2, .int .i64 1, .int .i64 2, .int .i64 1, .int .i64 0, .int .i64 0, .int .i64 0] 45)
  refine (same_n A3 _ 2 2 c3 2 [0, 2, 1, 2, 1, 0, 0, 0] [0, 2, 1, 2, 1, 0, 0, 0] rfl _ (S36.out.keep ha6) (SlV.new_ w6 _ #[.int .i64 0, .int .i64 2, .int .i64 1, .int .i64 2, .int .i64 1, .int .i64 0, .int .i64 0, .int .i64 0]) rfl rfl (by decide) (by decide)).mono ?_
  rintro e w7 ⟨rfl, hb7⟩
  have hb67 := bt ha6 hb7
  have HB7 := Lib.hid (bt HB6.out hb67)
  have S67 := Lib.hid (S6.out.keep hb67)
  clear ha6 hb7 hb67 HB6 S36 S6 R6
  go_wp2_with fail
  have ha7 := ba (brefl w7) (.cells #[.int .i64 0, .int .i64 0, .int .i64 0, .int .i64 0, .int .i64 1, .int .i64 240, .int .i64 0, .int .i64 0, .int .i64 1, .int .i64 17, .int .i64 1, .int .i64 1, .int .i64 1, .int .i64 0, .int .i64 0, .int .i64 0] 45)
  refine (same_n A6 _ 4 4 c6 4 [0, 0, 0, 0, 1, 240, 0, 0, 1, 17, 1, 1, 1, 0, 0, 0] [0, 0, 0, 0, 1, 240, 0, 0, 1, 17, 1, 1, 1, 0, 0, 0] rfl _ (S67.out.keep ha7) (SlV.new_ w7 _ #[.int .i64 0, .int .i64 0, .int .i64 0, .int .i64 0, .int .i64 1, .int .i64 240, .int .i64 0, .int .i64 0, .int .i64 1, .int .i64 17, .int .i64 1, .int .i64 1, .int .i64 1, .int .i64 0, .int .i64 0, .int .i64 0]) rfl rfl (by decide) (by decide)).mono ?_
  rintro e w8 ⟨rfl, hb8⟩
  have HB8 := Lib.hid (bt HB7.out (bt ha7 hb8))
  clear ha7 hb8 HB7 S67
  go_wp2_with fail
  go_ret
  exact ⟨rfl, HB8.out⟩
end Go.Proofs.Ytckkncblbagfmaa
