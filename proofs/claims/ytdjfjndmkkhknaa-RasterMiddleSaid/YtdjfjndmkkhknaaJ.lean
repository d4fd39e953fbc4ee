/- The contract of Box where it may be. -/
import Derived.Test.YtdjfjndmkkhknaaI
namespace Go.Proofs.Ytdjfjndmkkhknaa
open Go.RowKit
open Go.Tin
set_option linter.unusedVariables false
set_option linter.unusedSimpArgs false

def boxT (l : List Int) (W H a b : Nat) (x y : Nat) : List Int := meanL l (W : Int) (bx x W a) (bw x W a) (bx y H b) (bw y H b)
theorem boxT_len (l : List Int) (W H a b x y : Nat) : (boxT l W H a b x y).length = 3 := by simp [boxT, meanL]

set_option maxRecDepth 100000 in
set_option maxHeartbeats 2000000 in
theorem box_yes (W H a b : Nat) (A : Option Addr) (l : List Int) (c : Nat) (w : World) (hsl : Sl .u8 w A l) (hlc : l.length ≤ c) (hby : Byts l) (hyes : cutB (W : Int) (H : Int) l.length (a : Int) (b : Int) = true) :
    Calls Try.prog 16 #[.agg #[.int .i64 (W : Int), .int .i64 (H : Int), .slice A l.length c], .int .i64 (a : Int), .int .i64 (b : Int)] w fun e w' => ∃ v, e = .returned (.tuple #[.agg #[.int .i64 (a : Int), .int .i64 (b : Int), v], .int .i64 0]) ∧ Own .u8 5 w' w.heap.size v (rows (boxT l W H a b) a b) ∧ Below w.heap.size w w' := by
  unfold cutB at hyes
  simp only [Bool.and_eq_true, decide_eq_true_eq] at hyes
  obtain ⟨hm, ⟨hsa, hsb⟩, x1, y1⟩ := hyes
  obtain ⟨a1, a2⟩ := okS_t hsa
  obtain ⟨b1, b2⟩ := okS_t hsb
  have d2 : decide ((W : Int) < (a : Int)) = false := by simpa using x1
  have d3 : decide ((H : Int) < (b : Int)) = false := by simpa using y1
  have d2n : decide (W < a) = false := by simp; omega
  have d3n : decide (H < b) = false := by simp; omega
  have hall : [(a : Int), (b : Int)].all okS = true := by simp [hsa, hsb]
  have haW : a ≤ W := by omega
  have hbH : b ≤ H := by omega
  have HM := Lib.hid hm
  have HS := Lib.hid hsl
  have HY := Lib.hid hby
  clear hsl hby x1 y1
  go_enter Try.func16, Try.ntmps16
  go_wp2_with fail
  obtain ⟨f0, f1, f2, f3⟩ := four w (.cells #[.int .i64 (W : Int), .int .i64 (H : Int), .slice A l.length c] 24) (.cells #[.int .i64 (a : Int)] 3) (.cells #[.int .i64 (b : Int)] 3) (.cells #[.int .i64 0, .int .i64 0, .slice none 0 0] 24)
  have hz0 : ((((w.alloc (.cells #[.int .i64 (W : Int), .int .i64 (H : Int), .slice A l.length c] 24)).alloc (.cells #[.int .i64 (a : Int)] 3)).alloc (.cells #[.int .i64 (b : Int)] 3)).alloc (.cells #[.int .i64 0, .int .i64 0, .slice none 0 0] 24)).heap.size = w.heap.size + 4 := by simp
  have hb0 := ba (ba (ba (ba (brefl w) (.cells #[.int .i64 (W : Int), .int .i64 (H : Int), .slice A l.length c] 24)) (.cells #[.int .i64 (a : Int)] 3)) (.cells #[.int .i64 (b : Int)] 3)) (.cells #[.int .i64 0, .int .i64 0, .slice none 0 0] 24)
  generalize (((w.alloc _).alloc _).alloc _).alloc _ = W0 at *
  refine (may_any (W : Int) (H : Int) A l.length c W0).mono ?_
  rw [hm]
  rintro e w1 ⟨rfl, hb1⟩
  have g0 := (hb1.block _ (show w.heap.size < _ by omega)).trans f0
  have g1 := (hb1.block _ (show w.heap.size + 1 < _ by omega)).trans f1
  have g2 := (hb1.block _ (show w.heap.size + 1 + 1 < _ by omega)).trans f2
  have g3 := (hb1.block _ (show w.heap.size + 1 + 1 + 1 < _ by omega)).trans f3
  have hb2 := bt hb0 hb1
  have hz1 := hb1.size
  clear f0 f1 f2 f3 hb0 hb1 hm
  have ka := row_cell g1 0 rfl
  have kb := row_cell g2 0 rfl
  have G0 := Lib.hid g0
  have G1 := Lib.hid g1
  have G2 := Lib.hid g2
  have G3 := Lib.hid g3
  clear g0 g1 g2 g3
  go_wp2_with fail
  generalize hW3 : w1.alloc _ = W3 at *
  have hb3 : Below w1.heap.size w1 W3 := by rw [← hW3]; exact ba (brefl w1) _
  have hs3 : Sl .i64 W3 (some ⟨w1.heap.size, 0, none⟩) [(a : Int), (b : Int)] := by rw [← hW3]; exact Sl.new_ _ _ _ _ rfl
  clear hW3
  refine (size_any (some ⟨w1.heap.size, 0, none⟩) 2 [(a : Int), (b : Int)] W3 hs3 (by simp)).mono ?_
  rintro e w' ⟨rfl, rfl⟩
  rw [hall]
  have hb4 := bt hb2 hb3
  have p0 := (hb3.block _ (show w.heap.size < _ by omega)).trans G0.out
  have p1 := (hb3.block _ (show w.heap.size + 1 < _ by omega)).trans G1.out
  have p2 := (hb3.block _ (show w.heap.size + 1 + 1 < _ by omega)).trans G2.out
  have p3 := (hb3.block _ (show w.heap.size + 1 + 1 + 1 < _ by omega)).trans G3.out
  have hz3 := hb3.size
  clear ka kb G0 G1 G2 G3 hb2 hb3 hs3 hall
  have q0 := row_cell p0 0 rfl
  have q1 := row_cell p0 1 rfl
  have q2 := row_cell p0 2 rfl
  have qa := row_cell p1 0 rfl
  have qb := row_cell p2 0 rfl
  have n0 : w.heap.size ≠ W3.heap.size := by omega
  have n1 : w.heap.size + 1 ≠ W3.heap.size := by omega
  have n2 : w.heap.size + 1 + 1 ≠ W3.heap.size := by omega
  have P0 := Lib.hid p0
  have P1 := Lib.hid p1
  have P2 := Lib.hid p2
  have P3 := Lib.hid p3
  clear p0 p1 p2 p3
  go_wp2_with ((with_reducible refine wpl_store_row rt46 rfl (.tmp 8) (.tmp 33) rfl W3.heap.size rfl #[.int .i64 (W : Int), .int .i64 (H : Int), .slice A l.length c] rfl (pic_one _ _ _ _ _) 46 ?_ #[.int .i64 0, .int .i64 0, .slice none 0 0] ?_ (heap_alloc_new W3 _) ?_); rfl; rfl; intro w4 hr4 hg4 hs4; have hb5 : Below W3.heap.size W3 w4 := (ba (brefl W3) _).grown hg4 (by simp) (fun k hk => by cases hk; exact Nat.le_refl _); have qa4 := row_cell ((hb5.block _ (show w.heap.size + 1 < _ by omega)).trans P1.out) 0 rfl; have qb4 := row_cell ((hb5.block _ (show w.heap.size + 1 + 1 < _ by omega)).trans P2.out) 0 rfl; simp only [Act.put])
  have hz4 : W3.heap.size < w4.heap.size := by rw [hs4]; simp
  have hcall : ∀ (Wd : World) (x y : Nat), Below w4.heap.size w4 Wd → x < a → y < b → Calls Try.prog 27 (#[] ++ (#[.int .i64 (x : Int), .int .i64 (y : Int)] ++ #[.pointer (some ⟨W3.heap.size, 0, none⟩), .pointer (some ⟨w.heap.size, 0, none⟩), .pointer (some ⟨w.heap.size + 1, 0, none⟩), .pointer (some ⟨w.heap.size + 1 + 1, 0, none⟩)])) Wd
      fun e w' => e = .returned (.agg (arr .u8 (boxT l W H a b x y))) ∧ Below Wd.heap.size Wd w' := fun Wd x y hb hx hy => by
    have hzd := hb.size
    exact box1_any W H a b x y W3.heap.size w.heap.size (w.heap.size + 1) (w.heap.size + 1 + 1) A l c Wd (HS.out.keep (bt (bt hb4 hb5) hb)) hlc HY.out HM.out hx haW hy hbH (by omega) (by omega) (by omega) (by omega)
      ((hb.block _ hz4).trans hr4) ((hb.block _ (by omega)).trans ((hb5.block _ (by omega)).trans P0.out)) ((hb.block _ (by omega)).trans ((hb5.block _ (by omega)).trans P1.out)) ((hb.block _ (by omega)).trans ((hb5.block _ (by omega)).trans P2.out))
  refine (made_any a b (by omega) (by omega) (by omega) (by omega) (boxT l W H a b) (boxT_len l W H a b) 27 _ _ w4 (hcf 27 Try.f27 _ Try.func27 (by kernel_rfl) rfl) hcall).mono ?_
  rintro e w5 ⟨v, rfl, hown, hb6⟩
  obtain ⟨A5, n5, c5, rfl⟩ := own_form hown
  have r5 := Lib.hid ((hb6.block _ (show w.heap.size + 1 + 1 + 1 < _ by omega)).trans ((hb5.block _ (show w.heap.size + 1 + 1 + 1 < _ by omega)).trans P3.out))
  have hb7 := bt (bt hb4 hb5) hb6
  have hz5 := hb5.size
  clear hcall hr4 hg4 qa4 qb4 q0 q1 q2 qa qb
  go_wp2_with ((with_reducible refine wpl_store_row rt24 rfl (.tmp 6) (.tmp 37) rfl (w.heap.size + 1 + 1 + 1) rfl #[.int .i64 (a : Int), .int .i64 (b : Int), .slice A5 n5 c5] rfl (pic_one _ _ _ _ _) 24 ?_ #[.int .i64 0, .int .i64 0, .slice none 0 0] ?_ r5.out ?_); rfl; rfl; intro w6 hr6 hg6 hs6; simp only [Act.put])
  have hk := hown.kept hg6 (.inr (fun h => by have := (World.ownsRow.lt hown _ h).1; omega))
  exact bodyPost_ret (res_row_tmp rt24 rfl _ _ (w.heap.size + 1 + 1 + 1) 24 _ rfl (.int .i64 0) rfl rfl hr6) rfl ⟨_, rfl, hk.mono (by omega), hb7.grown hg6 hb7.size (fun k hk => by cases hk; omega)⟩
end Go.Proofs.Ytdjfjndmkkhknaa
