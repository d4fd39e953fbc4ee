/- The contracts of Cut and Pad. -/
import Derived.Test.YtdjfjndmkkhknaaD
namespace Go.Proofs.Ytdjfjndmkkhknaa
open Go.RowKit
open Go.Tin
set_option linter.unusedVariables false
set_option linter.unusedSimpArgs false

theorem hcf (f : FuncId) (fn : Func) (c : Code) (hf : Try.prog.funcs[f]? = some fn) (hname : (fn.name == "runtime.NumGoroutine") = false) (hb : fn.body = some c) (vs : Array Value) (W : World) : (callFunc f vs).run Try.prog W = .ok (.enter f vs) W := by
  have hne : ¬ fn.name = "runtime.NumGoroutine" := by simpa using hname
  simp [callFunc, Sem.run_bind, run_program, hf, hb, hne]

/-- May a picture be cut so? -/
def cutB (W H : Int) (n : Nat) (a b : Int) : Bool := mayB W H n && ((okS a && okS b) && (decide (a ≤ W) && decide (b ≤ H)))

set_option maxRecDepth 100000 in
set_option maxHeartbeats 2000000 in
theorem cut_no (W H a b : Int) (A : Option Addr) (n c : Nat) (w : World) (hno : cutB W H n a b = false) :
    Calls Try.prog 18 #[.agg #[.int .i64 W, .int .i64 H, .slice A n c], .int .i64 a, .int .i64 b] w fun e w' => e = .returned (.tuple #[.agg #[.int .i64 0, .int .i64 0, .slice none 0 0], .int .i64 1]) ∧ Below w.heap.size w w' := by
  go_enter Try.func18, Try.ntmps18
  go_wp2_with fail
  generalize hW0 : (w.alloc _).alloc _ = W0 at *
  have hb0 : Below w.heap.size w W0 := by rw [← hW0]; exact ba (ba (brefl w) _) _
  have hz0 : W0.heap.size = w.heap.size + 2 := by rw [← hW0]; simp
  have c0 : W0.cell? ⟨w.heap.size, 0, none⟩ = some (.int .i64 W) := by rw [← hW0]; simp [go_sem]
  have c1 : W0.cell? ⟨w.heap.size, 1, none⟩ = some (.int .i64 H) := by rw [← hW0]; simp [go_sem]
  have r0 : W0.heap[w.heap.size + 1]? = some (.cells #[.int .i64 0, .int .i64 0, .slice none 0 0] 24 (0, 0)) := by rw [← hW0]; exact heap_alloc2_new w _ _
  clear hW0
  refine (may_any W H A n c W0).mono ?_
  rintro e w1 ⟨rfl, hb1⟩
  obtain ⟨hc, hf⟩ := bcell hb1
  have k0 : w1.cell? ⟨w.heap.size, 0, none⟩ = some (.int .i64 W) := (hc _ _ (by omega)).trans c0
  have k1 : w1.cell? ⟨w.heap.size, 1, none⟩ = some (.int .i64 H) := (hc _ _ (by omega)).trans c1
  have r1 := Lib.hid ((hb1.block _ (show w.heap.size + 1 < _ by omega)).trans r0)
  have hb2 := bt hb0 hb1
  have hz1 := hb1.size
  clear hc hf c0 c1 r0 hb0 hb1
  unfold cutB at hno
  by_cases hm : mayB W H n = true
  · rw [hm]
    rw [hm, Bool.true_and] at hno
    clear hm
    go_wp2_with fail
    generalize hW3 : w1.alloc _ = W3 at *
    have hb3 : Below w1.heap.size w1 W3 := by rw [← hW3]; exact ba (brefl w1) _
    have hs3 : Sl .i64 W3 (some ⟨w1.heap.size, 0, none⟩) [a, b] := by rw [← hW3]; exact Sl.new_ _ _ _ _ rfl
    clear hW3
    refine (size_any (some ⟨w1.heap.size, 0, none⟩) 2 [a, b] W3 hs3 (by simp)).mono ?_
    rintro e w' ⟨rfl, rfl⟩
    rw [show [a, b].all okS = (okS a && okS b) by simp]
    have hb4 := bt hb2 hb3
    obtain ⟨hc, hf⟩ := bcell hb3
    have k0' : W3.cell? ⟨w.heap.size, 0, none⟩ = some (.int .i64 W) := (hc _ _ (by omega)).trans k0
    have k1' : W3.cell? ⟨w.heap.size, 1, none⟩ = some (.int .i64 H) := (hc _ _ (by omega)).trans k1
    have r3 := Lib.hid ((hb3.block _ (show w.heap.size + 1 < _ by omega)).trans r1.out)
    clear hc hf k0 k1 r1 hb2 hs3 hb3
    have r1 := r3
    by_cases hs : (okS a && okS b) = true
    · rw [hs]
      rw [hs, Bool.true_and] at hno
      clear hs
      by_cases x1 : a ≤ W
      · have d2 : decide (W < a) = false := by simpa using x1
        have d3 : decide (H < b) = true := by simp [x1] at hno; simpa using hno
        clear hno x1
        go_wp2_with ((with_reducible refine wpl_store_row rt24 rfl (.tmp 6) (.tmp 30) rfl (w.heap.size + 1) rfl #[.int .i64 0, .int .i64 0, .slice none 0 0] rfl (pic_one _ _ _ _ _) 24 ?_ #[.int .i64 0, .int .i64 0, .slice none 0 0] ?_ r1.out ?_); rfl; rfl; intro w5 hr5 hg5 hs5; simp only [Act.put])
        exact bodyPost_ret (res_row_tmp rt24 rfl _ _ (w.heap.size + 1) 24 _ rfl (.int .i64 1) rfl rfl hr5) rfl ⟨rfl, hb4.grown hg5 hb4.size (fun k hk => by cases hk; omega)⟩
      · have d2 : decide (W < a) = true := by simp; omega
        clear hno x1
        go_wp2_with ((with_reducible refine wpl_store_row rt24 rfl (.tmp 6) (.tmp 30) rfl (w.heap.size + 1) rfl #[.int .i64 0, .int .i64 0, .slice none 0 0] rfl (pic_one _ _ _ _ _) 24 ?_ #[.int .i64 0, .int .i64 0, .slice none 0 0] ?_ r1.out ?_); rfl; rfl; intro w5 hr5 hg5 hs5; simp only [Act.put])
        exact bodyPost_ret (res_row_tmp rt24 rfl _ _ (w.heap.size + 1) 24 _ rfl (.int .i64 1) rfl rfl hr5) rfl ⟨rfl, hb4.grown hg5 hb4.size (fun k hk => by cases hk; omega)⟩
    · have hs' : (okS a && okS b) = false := by simpa using hs
      rw [hs']
      clear hno hs hs'
      go_wp2_with ((with_reducible refine wpl_store_row rt24 rfl (.tmp 6) (.tmp 30) rfl (w.heap.size + 1) rfl #[.int .i64 0, .int .i64 0, .slice none 0 0] rfl (pic_one _ _ _ _ _) 24 ?_ #[.int .i64 0, .int .i64 0, .slice none 0 0] ?_ r1.out ?_); rfl; rfl; intro w5 hr5 hg5 hs5; simp only [Act.put])
      exact bodyPost_ret (res_row_tmp rt24 rfl _ _ (w.heap.size + 1) 24 _ rfl (.int .i64 1) rfl rfl hr5) rfl ⟨rfl, hb4.grown hg5 hb4.size (fun k hk => by cases hk; omega)⟩
  · have hm' : mayB W H n = false := by simpa using hm
    rw [hm']
    clear hno hm hm'
    go_wp2_with ((with_reducible refine wpl_store_row rt24 rfl (.tmp 6) (.tmp 30) rfl (w.heap.size + 1) rfl #[.int .i64 0, .int .i64 0, .slice none 0 0] rfl (pic_one _ _ _ _ _) 24 ?_ #[.int .i64 0, .int .i64 0, .slice none 0 0] ?_ r1.out ?_); rfl; rfl; intro w5 hr5 hg5 hs5; simp only [Act.put])
    exact bodyPost_ret (res_row_tmp rt24 rfl _ _ (w.heap.size + 1) 24 _ rfl (.int .i64 1) rfl rfl hr5) rfl ⟨rfl, hb2.grown hg5 hb2.size (fun k hk => by cases hk; omega)⟩

set_option maxRecDepth 100000 in
set_option maxHeartbeats 2000000 in
theorem cut_yes (W H : Int) (a b : Nat) (A : Option Addr) (l : List Int) (c : Nat) (w : World) (hsl : Sl .u8 w A l) (hlc : l.length ≤ c) (hyes : cutB W H l.length (a : Int) (b : Int) = true) :
    Calls Try.prog 18 #[.agg #[.int .i64 W, .int .i64 H, .slice A l.length c], .int .i64 (a : Int), .int .i64 (b : Int)] w fun e w' => ∃ v, e = .returned (.tuple #[.agg #[.int .i64 (a : Int), .int .i64 (b : Int), v], .int .i64 0]) ∧ Own .u8 5 w' w.heap.size v (rows (fun x y => col l (pos W (x : Int) (y : Int))) a b) ∧ Below w.heap.size w w' := by
  unfold cutB at hyes
  simp only [Bool.and_eq_true, decide_eq_true_eq] at hyes
  obtain ⟨hm, ⟨hsa, hsb⟩, x1, y1⟩ := hyes
  obtain ⟨hW, hH, hn⟩ := mayB_t hm
  obtain ⟨a1, a2⟩ := okS_t hsa
  obtain ⟨b1, b2⟩ := okS_t hsb
  have d2 : decide (W < (a : Int)) = false := by simpa using x1
  have d3 : decide (H < (b : Int)) = false := by simpa using y1
  have hall : [(a : Int), (b : Int)].all okS = true := by simp [hsa, hsb]
  have hcall : ∀ (Wd : World) (x y : Nat), Below w.heap.size w Wd → x < a → y < b → Calls Try.prog 24 (#[.agg #[.int .i64 W, .int .i64 H, .slice A l.length c]] ++ (#[.int .i64 (x : Int), .int .i64 (y : Int)] ++ #[])) Wd fun e w' => e = .returned (.agg (arr .u8 ((fun x y : Nat => col l (pos W (x : Int) (y : Int))) x y))) ∧ Below Wd.heap.size Wd w' :=
    fun Wd x y hb hx hy => at_any W H (x : Int) (y : Int) A l c Wd (hsl.keep hb) hlc hW hH hn ⟨by omega, by omega⟩ ⟨by omega, by omega⟩
  have HC := Lib.hid hcall
  clear hcall hn x1 y1 hsl
  go_enter Try.func18, Try.ntmps18
  go_wp2_with fail
  generalize hW0 : (w.alloc _).alloc _ = W0 at *
  have hb0 : Below w.heap.size w W0 := by rw [← hW0]; exact ba (ba (brefl w) _) _
  have hz0 : W0.heap.size = w.heap.size + 2 := by rw [← hW0]; simp
  have p0 : W0.heap[w.heap.size]? = some (.cells #[.int .i64 W, .int .i64 H, .slice A l.length c] 24 (0, 0)) := by rw [← hW0]; exact heap_alloc2_old w _ _
  have r0 : W0.heap[w.heap.size + 1]? = some (.cells #[.int .i64 0, .int .i64 0, .slice none 0 0] 24 (0, 0)) := by rw [← hW0]; exact heap_alloc2_new w _ _
  clear hW0
  refine (may_any W H A l.length c W0).mono ?_
  rw [hm]
  rintro e w1 ⟨rfl, hb1⟩
  have hz1 := hb1.size
  have p1 := (hb1.block _ (show w.heap.size < _ by omega)).trans p0
  have r1 := Lib.hid ((hb1.block _ (show w.heap.size + 1 < _ by omega)).trans r0)
  have k0 := row_cell p1 0 rfl
  have k1 := row_cell p1 1 rfl
  have P1 := Lib.hid p1
  have hb2 := bt hb0 hb1
  clear p0 p1 r0 hb0 hb1 hm
  go_wp2_with fail
  generalize hW3 : w1.alloc _ = W3 at *
  have hb3 : Below w1.heap.size w1 W3 := by rw [← hW3]; exact ba (brefl w1) _
  have hs3 : Sl .i64 W3 (some ⟨w1.heap.size, 0, none⟩) [(a : Int), (b : Int)] := by rw [← hW3]; exact Sl.new_ _ _ _ _ rfl
  clear hW3
  refine (size_any (some ⟨w1.heap.size, 0, none⟩) 2 [(a : Int), (b : Int)] W3 hs3 (by simp)).mono ?_
  rintro e w' ⟨rfl, rfl⟩
  rw [hall]
  have hb4 := bt hb2 hb3
  have p3 := (hb3.block _ (show w.heap.size < _ by omega)).trans P1.out
  have r3 := Lib.hid ((hb3.block _ (show w.heap.size + 1 < _ by omega)).trans r1.out)
  have q0 := row_cell p3 0 rfl
  have q1 := row_cell p3 1 rfl
  have q2 := row_cell p3 2 rfl
  have hz3 := hb3.size
  clear p3 P1 k0 k1 r1 hb2 hb3 hs3 hall
  go_wp2_with fail
  refine (made_any a b (by omega) (by omega) (by omega) (by omega) (fun x y => col l (pos W (x : Int) (y : Int))) (fun _ _ => rfl) 24 _ _ W3 (hcf 24 Try.f24 _ Try.func24 (by kernel_rfl) rfl) (fun Wd x y hb hx hy => HC.out Wd x y (bt hb4 hb) hx hy)).mono ?_
  rintro e w5 ⟨v, rfl, hown, hb5⟩
  obtain ⟨A5, n5, c5, rfl⟩ := own_form hown
  have r5 := Lib.hid ((hb5.block _ (show w.heap.size + 1 < _ by omega)).trans r3.out)
  go_wp2_with ((with_reducible refine wpl_store_row rt24 rfl (.tmp 6) (.tmp 36) rfl (w.heap.size + 1) rfl #[.int .i64 (a : Int), .int .i64 (b : Int), .slice A5 n5 c5] rfl (pic_one _ _ _ _ _) 24 ?_ #[.int .i64 0, .int .i64 0, .slice none 0 0] ?_ r5.out ?_); rfl; rfl; intro w6 hr6 hg6 hs6; simp only [Act.put])
  have hk := hown.kept hg6 (.inr (fun h => by have := (World.ownsRow.lt hown _ h).1; omega))
  exact bodyPost_ret (res_row_tmp rt24 rfl _ _ (w.heap.size + 1) 24 _ rfl (.int .i64 0) rfl rfl hr6) rfl ⟨_, rfl, hk.mono (by omega), (bt hb4 hb5).grown hg6 (bt hb4 hb5).size (fun k hk => by cases hk; omega)⟩

/-- May a picture be pad so? -/
def padB (W H : Int) (n : Nat) (a b : Int) : Bool := mayB W H n && ((okS a && okS b) && (decide (W ≤ a) && decide (H ≤ b)))

set_option maxRecDepth 100000 in
set_option maxHeartbeats 2000000 in
theorem pad_no (W H a b : Int) (A : Option Addr) (n c : Nat) (w : World) (hno : padB W H n a b = false) :
    Calls Try.prog 17 #[.agg #[.int .i64 W, .int .i64 H, .slice A n c], .int .i64 a, .int .i64 b] w fun e w' => e = .returned (.tuple #[.agg #[.int .i64 0, .int .i64 0, .slice none 0 0], .int .i64 1]) ∧ Below w.heap.size w w' := by
  go_enter Try.func17, Try.ntmps17
  go_wp2_with fail
  generalize hW0 : (w.alloc _).alloc _ = W0 at *
  have hb0 : Below w.heap.size w W0 := by rw [← hW0]; exact ba (ba (brefl w) _) _
  have hz0 : W0.heap.size = w.heap.size + 2 := by rw [← hW0]; simp
  have c0 : W0.cell? ⟨w.heap.size, 0, none⟩ = some (.int .i64 W) := by rw [← hW0]; simp [go_sem]
  have c1 : W0.cell? ⟨w.heap.size, 1, none⟩ = some (.int .i64 H) := by rw [← hW0]; simp [go_sem]
  have r0 : W0.heap[w.heap.size + 1]? = some (.cells #[.int .i64 0, .int .i64 0, .slice none 0 0] 24 (0, 0)) := by rw [← hW0]; exact heap_alloc2_new w _ _
  clear hW0
  refine (may_any W H A n c W0).mono ?_
  rintro e w1 ⟨rfl, hb1⟩
  obtain ⟨hc, hf⟩ := bcell hb1
  have k0 : w1.cell? ⟨w.heap.size, 0, none⟩ = some (.int .i64 W) := (hc _ _ (by omega)).trans c0
  have k1 : w1.cell? ⟨w.heap.size, 1, none⟩ = some (.int .i64 H) := (hc _ _ (by omega)).trans c1
  have r1 := Lib.hid ((hb1.block _ (show w.heap.size + 1 < _ by omega)).trans r0)
  have hb2 := bt hb0 hb1
  have hz1 := hb1.size
  clear hc hf c0 c1 r0 hb0 hb1
  unfold padB at hno
  by_cases hm : mayB W H n = true
  · rw [hm]
    rw [hm, Bool.true_and] at hno
    clear hm
    go_wp2_with fail
    generalize hW3 : w1.alloc _ = W3 at *
    have hb3 : Below w1.heap.size w1 W3 := by rw [← hW3]; exact ba (brefl w1) _
    have hs3 : Sl .i64 W3 (some ⟨w1.heap.size, 0, none⟩) [a, b] := by rw [← hW3]; exact Sl.new_ _ _ _ _ rfl
    clear hW3
    refine (size_any (some ⟨w1.heap.size, 0, none⟩) 2 [a, b] W3 hs3 (by simp)).mono ?_
    rintro e w' ⟨rfl, rfl⟩
    rw [show [a, b].all okS = (okS a && okS b) by simp]
    have hb4 := bt hb2 hb3
    obtain ⟨hc, hf⟩ := bcell hb3
    have k0' : W3.cell? ⟨w.heap.size, 0, none⟩ = some (.int .i64 W) := (hc _ _ (by omega)).trans k0
    have k1' : W3.cell? ⟨w.heap.size, 1, none⟩ = some (.int .i64 H) := (hc _ _ (by omega)).trans k1
    have r3 := Lib.hid ((hb3.block _ (show w.heap.size + 1 < _ by omega)).trans r1.out)
    clear hc hf k0 k1 r1 hb2 hs3 hb3
    have r1 := r3
    by_cases hs : (okS a && okS b) = true
    · rw [hs]
      rw [hs, Bool.true_and] at hno
      clear hs
      by_cases x1 : W ≤ a
      · have d2 : decide (a < W) = false := by simpa using x1
        have d3 : decide (b < H) = true := by simp [x1] at hno; simpa using hno
        clear hno x1
        go_wp2_with ((with_reducible refine wpl_store_row rt24 rfl (.tmp 6) (.tmp 30) rfl (w.heap.size + 1) rfl #[.int .i64 0, .int .i64 0, .slice none 0 0] rfl (pic_one _ _ _ _ _) 24 ?_ #[.int .i64 0, .int .i64 0, .slice none 0 0] ?_ r1.out ?_); rfl; rfl; intro w5 hr5 hg5 hs5; simp only [Act.put])
        exact bodyPost_ret (res_row_tmp rt24 rfl _ _ (w.heap.size + 1) 24 _ rfl (.int .i64 1) rfl rfl hr5) rfl ⟨rfl, hb4.grown hg5 hb4.size (fun k hk => by cases hk; omega)⟩
      · have d2 : decide (a < W) = true := by simp; omega
        clear hno x1
        go_wp2_with ((with_reducible refine wpl_store_row rt24 rfl (.tmp 6) (.tmp 30) rfl (w.heap.size + 1) rfl #[.int .i64 0, .int .i64 0, .slice none 0 0] rfl (pic_one _ _ _ _ _) 24 ?_ #[.int .i64 0, .int .i64 0, .slice none 0 0] ?_ r1.out ?_); rfl; rfl; intro w5 hr5 hg5 hs5; simp only [Act.put])
        exact bodyPost_ret (res_row_tmp rt24 rfl _ _ (w.heap.size + 1) 24 _ rfl (.int .i64 1) rfl rfl hr5) rfl ⟨rfl, hb4.grown hg5 hb4.size (fun k hk => by cases hk; omega)⟩
    · have hs' : (okS a && okS b) = false := by simpa using hs
      rw [hs']
      clear hno hs hs'
      go_wp2_with ((with_reducible refine wpl_store_row rt24 rfl (.tmp 6) (.tmp 30) rfl (w.heap.size + 1) rfl #[.int .i64 0, .int .i64 0, .slice none 0 0] rfl (pic_one _ _ _ _ _) 24 ?_ #[.int .i64 0, .int .i64 0, .slice none 0 0] ?_ r1.out ?_); rfl; rfl; intro w5 hr5 hg5 hs5; simp only [Act.put])
      exact bodyPost_ret (res_row_tmp rt24 rfl _ _ (w.heap.size + 1) 24 _ rfl (.int .i64 1) rfl rfl hr5) rfl ⟨rfl, hb4.grown hg5 hb4.size (fun k hk => by cases hk; omega)⟩
  · have hm' : mayB W H n = false := by simpa using hm
    rw [hm']
    clear hno hm hm'
    go_wp2_with ((with_reducible refine wpl_store_row rt24 rfl (.tmp 6) (.tmp 30) rfl (w.heap.size + 1) rfl #[.int .i64 0, .int .i64 0, .slice none 0 0] rfl (pic_one _ _ _ _ _) 24 ?_ #[.int .i64 0, .int .i64 0, .slice none 0 0] ?_ r1.out ?_); rfl; rfl; intro w5 hr5 hg5 hs5; simp only [Act.put])
    exact bodyPost_ret (res_row_tmp rt24 rfl _ _ (w.heap.size + 1) 24 _ rfl (.int .i64 1) rfl rfl hr5) rfl ⟨rfl, hb2.grown hg5 hb2.size (fun k hk => by cases hk; omega)⟩

set_option maxRecDepth 100000 in
set_option maxHeartbeats 2000000 in
theorem pad_yes (W H : Int) (a b : Nat) (A : Option Addr) (l : List Int) (c : Nat) (w : World) (hsl : Sl .u8 w A l) (hlc : l.length ≤ c) (hyes : padB W H l.length (a : Int) (b : Int) = true) :
    Calls Try.prog 17 #[.agg #[.int .i64 W, .int .i64 H, .slice A l.length c], .int .i64 (a : Int), .int .i64 (b : Int)] w fun e w' => ∃ v, e = .returned (.tuple #[.agg #[.int .i64 (a : Int), .int .i64 (b : Int), v], .int .i64 0]) ∧ Own .u8 5 w' w.heap.size v (rows (fun x y => col l (pos W (min (x : Int) (W - 1)) (min (y : Int) (H - 1)))) a b) ∧ Below w.heap.size w w' := by
  unfold padB at hyes
  simp only [Bool.and_eq_true, decide_eq_true_eq] at hyes
  obtain ⟨hm, ⟨hsa, hsb⟩, x1, y1⟩ := hyes
  obtain ⟨hW, hH, hn⟩ := mayB_t hm
  obtain ⟨a1, a2⟩ := okS_t hsa
  obtain ⟨b1, b2⟩ := okS_t hsb
  have d2 : decide ((a : Int) < W) = false := by simpa using x1
  have d3 : decide ((b : Int) < H) = false := by simpa using y1
  have hall : [(a : Int), (b : Int)].all okS = true := by simp [hsa, hsb]
  have hcall : ∀ (Wd : World) (x y : Nat), Below w.heap.size w Wd → x < a → y < b → Calls Try.prog 29 (#[.agg #[.int .i64 W, .int .i64 H, .slice A l.length c]] ++ (#[.int .i64 (x : Int), .int .i64 (y : Int)] ++ #[])) Wd fun e w' => e = .returned (.agg (arr .u8 ((fun x y : Nat => col l (pos W (min (x : Int) (W - 1)) (min (y : Int) (H - 1)))) x y))) ∧ Below Wd.heap.size Wd w' :=
    fun Wd x y hb hx hy => near_any W H (x : Int) (y : Int) A l c Wd (hsl.keep hb) hlc hW hH hn ⟨by omega, by omega⟩ ⟨by omega, by omega⟩
  have HC := Lib.hid hcall
  clear hcall hn x1 y1 hsl
  go_enter Try.func17, Try.ntmps17
  go_wp2_with fail
  generalize hW0 : (w.alloc _).alloc _ = W0 at *
  have hb0 : Below w.heap.size w W0 := by rw [← hW0]; exact ba (ba (brefl w) _) _
  have hz0 : W0.heap.size = w.heap.size + 2 := by rw [← hW0]; simp
  have p0 : W0.heap[w.heap.size]? = some (.cells #[.int .i64 W, .int .i64 H, .slice A l.length c] 24 (0, 0)) := by rw [← hW0]; exact heap_alloc2_old w _ _
  have r0 : W0.heap[w.heap.size + 1]? = some (.cells #[.int .i64 0, .int .i64 0, .slice none 0 0] 24 (0, 0)) := by rw [← hW0]; exact heap_alloc2_new w _ _
  clear hW0
  refine (may_any W H A l.length c W0).mono ?_
  rw [hm]
  rintro e w1 ⟨rfl, hb1⟩
  have hz1 := hb1.size
  have p1 := (hb1.block _ (show w.heap.size < _ by omega)).trans p0
  have r1 := Lib.hid ((hb1.block _ (show w.heap.size + 1 < _ by omega)).trans r0)
  have k0 := row_cell p1 0 rfl
  have k1 := row_cell p1 1 rfl
  have P1 := Lib.hid p1
  have hb2 := bt hb0 hb1
  clear p0 p1 r0 hb0 hb1 hm
  go_wp2_with fail
  generalize hW3 : w1.alloc _ = W3 at *
  have hb3 : Below w1.heap.size w1 W3 := by rw [← hW3]; exact ba (brefl w1) _
  have hs3 : Sl .i64 W3 (some ⟨w1.heap.size, 0, none⟩) [(a : Int), (b : Int)] := by rw [← hW3]; exact Sl.new_ _ _ _ _ rfl
  clear hW3
  refine (size_any (some ⟨w1.heap.size, 0, none⟩) 2 [(a : Int), (b : Int)] W3 hs3 (by simp)).mono ?_
  rintro e w' ⟨rfl, rfl⟩
  rw [hall]
  have hb4 := bt hb2 hb3
  have p3 := (hb3.block _ (show w.heap.size < _ by omega)).trans P1.out
  have r3 := Lib.hid ((hb3.block _ (show w.heap.size + 1 < _ by omega)).trans r1.out)
  have q0 := row_cell p3 0 rfl
  have q1 := row_cell p3 1 rfl
  have q2 := row_cell p3 2 rfl
  have hz3 := hb3.size
  clear p3 P1 k0 k1 r1 hb2 hb3 hs3 hall
  go_wp2_with fail
  refine (made_any a b (by omega) (by omega) (by omega) (by omega) (fun x y => col l (pos W (min (x : Int) (W - 1)) (min (y : Int) (H - 1)))) (fun _ _ => rfl) 29 _ _ W3 (hcf 29 Try.f29 _ Try.func29 (by kernel_rfl) rfl) (fun Wd x y hb hx hy => HC.out Wd x y (bt hb4 hb) hx hy)).mono ?_
  rintro e w5 ⟨v, rfl, hown, hb5⟩
  obtain ⟨A5, n5, c5, rfl⟩ := own_form hown
  have r5 := Lib.hid ((hb5.block _ (show w.heap.size + 1 < _ by omega)).trans r3.out)
  go_wp2_with ((with_reducible refine wpl_store_row rt24 rfl (.tmp 6) (.tmp 36) rfl (w.heap.size + 1) rfl #[.int .i64 (a : Int), .int .i64 (b : Int), .slice A5 n5 c5] rfl (pic_one _ _ _ _ _) 24 ?_ #[.int .i64 0, .int .i64 0, .slice none 0 0] ?_ r5.out ?_); rfl; rfl; intro w6 hr6 hg6 hs6; simp only [Act.put])
  have hk := hown.kept hg6 (.inr (fun h => by have := (World.ownsRow.lt hown _ h).1; omega))
  exact bodyPost_ret (res_row_tmp rt24 rfl _ _ (w.heap.size + 1) 24 _ rfl (.int .i64 0) rfl rfl hr6) rfl ⟨_, rfl, hk.mono (by omega), (bt hb4 hb5).grown hg6 (bt hb4 hb5).size (fun k hk => by cases hk; omega)⟩

end Go.Proofs.Ytdjfjndmkkhknaa
