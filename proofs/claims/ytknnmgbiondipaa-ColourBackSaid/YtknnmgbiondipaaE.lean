/- The law ColourBack of the law file, walked: it returns true for any three bytes. No condition beyond the types. -/
import Derived.Test.YtknnmgbiondipaaC
import Derived.Test.YtknnmgbiondipaaD
namespace Go.Proofs.Ytknnmgbiondipaa
open Go.RowKit
set_option linter.unusedVariables false

/-- What the three variables hold at place k: a number told, one back, and the one that it was. -/
def Cells3 (W : World) (b1 b2 b3 : Nat) : Prop :=
  ∀ k : Nat, k < 3 → ∃ X B V : Int, W.cell? ⟨b1, k, none⟩ = some (.int .i64 X) ∧ W.cell? ⟨b2, k, none⟩ = some (.int .i64 B) ∧ W.cell? ⟨b3, k, none⟩ = some (.int .i64 V) ∧
    (0 ≤ X ∧ X ≤ 255) ∧ (0 ≤ B ∧ B ≤ 255) ∧ (B - V ≤ 1 ∧ V - B ≤ 1)

set_option maxHeartbeats 1000000 in
theorem back (r g b : Int) (w : World) (w0 : (Lit.int .u8 r).wf = true) (w1 : (Lit.int .u8 g).wf = true) (w2 : (Lit.int .u8 b).wf = true) :
    Calls Try.prog 5 #[.int .u8 r, .int .u8 g, .int .u8 b] w fun e w' => e = .returned (.bool true) ∧ Below w.heap.size w w' := by
  have heq := eq3
  have hr := Go.bounds_u8 w0
  have hg := Go.bounds_u8 w1
  have hb := Go.bounds_u8 w2
  clear w0 w1 w2
  go_enter Try.func5, Try.ntmps5
  go_wp2_with fail
  refine (lluma_any _ _ _ _).mono ?_
  rintro e w1 ⟨rfl, hb1⟩
  go_wp2_with fail
  refine (lpaint_any _ _ _ _).mono ?_
  rintro e w2 ⟨rfl, hb2⟩
  obtain ⟨hc, hf⟩ := Tin.bcell hb2
  have hz := hb2.size
  simp only [World.size_alloc] at hz
  go_wp2_with fail
  have hY := lum_bd r g b
  have hP := pai_bd (lumY r g b) (lumB r g b) (lumR r g b)
  have hB := back_ok r g b hr.1 hr.2 hg.1 hg.2 hb.1 hb.2
  generalize hWd : ((w2.alloc _).alloc _) = W
  have hC : Cells3 W w1.heap.size w2.heap.size (w2.heap.size + 1) := by
    intro k hk
    have old : ∀ (o : Nat) (v : Value), (w1.alloc (Obj.cells #[Value.int IntKind.i64 (lumY r g b), Value.int IntKind.i64 (lumB r g b), Value.int IntKind.i64 (lumR r g b)] 23)).cell? ⟨w1.heap.size, o, none⟩ = some v → W.cell? ⟨w1.heap.size, o, none⟩ = some v := fun o v h => by
      rw [← hWd, World.cell?_alloc_lt _ _ _ (by simp; omega), World.cell?_alloc_lt _ _ _ (by show w1.heap.size < _; omega), hc _ _ (by simp), h]
    have hk3 : k = 0 ∨ k = 1 ∨ k = 2 := by omega
    rcases hk3 with rfl | rfl | rfl
    · exact ⟨lumY r g b, paiR (lumY r g b) (lumB r g b) (lumR r g b), r, old _ _ (by simp [go_sem]), by rw [← hWd]; simp [go_sem], by rw [← hWd]; simp [go_sem], hY.1, hP.1, hB.1⟩
    · exact ⟨lumB r g b, paiG (lumY r g b) (lumB r g b) (lumR r g b), g, old _ _ (by simp [go_sem]), by rw [← hWd]; simp [go_sem], by rw [← hWd]; simp [go_sem], hY.2.1, hP.2.1, hB.2.1⟩
    · exact ⟨lumR r g b, paiB (lumY r g b) (lumB r g b) (lumR r g b), b, old _ _ (by simp [go_sem]), by rw [← hWd]; simp [go_sem], by rw [← hWd]; simp [go_sem], hY.2.2, hP.2.2, hB.2.2⟩
  have hbel : Below w.heap.size w W := by
    rw [← hWd]
    exact Tin.ba (Tin.ba (Tin.bt (Tin.ba hb1 _) hb2) _) _
  clear hWd hY hP hB hc hf hz
  go_loopw [10] (fun i wr => ∃ k n : Nat, k ≤ 3 ∧ i = .int .i64 k ∧ wr = W.drewN n) (fun i _ => 3 - (intOf i).toNat)
  case atStart => exact ⟨0, 0, by omega, rfl, rfl⟩
  case round =>
    obtain ⟨k, n, hk, rfl, rfl⟩ := hrel
    by_cases hlt : k < 3
    · obtain ⟨X, B, V, c1, c2, c3, bX, bB, bV⟩ := hC k hlt
      have s1 : IntKind.i64.wrap (B - V) = B - V := IntWalk.i64_in _ (by omega)
      have s2 : IntKind.i64.wrap (V - B) = V - B := IntWalk.i64_in _ (by omega)
      have s3 : (1 < if B - V < V - B then V - B else B - V) = False := by simp only [eq_iff_iff, iff_false]; split <;> omega
      go_wp2_with fail
      go_quiet (fail)
      go_wp2_with fail
      go_roundw
      case rel => exact ⟨k + 1, _, by omega, by go_num, rfl⟩
      case measure => simp [intOf]; omega
    · have hk3 : k = 3 := by omega
      subst hk3
      go_wp2_with fail
      have g1 := lum_grey r hr.1 hr.2
      have g2 := pai_grey r hr.1 hr.2
      refine (lluma_any _ _ _ _).mono ?_
      rw [g1.1, g1.2.1, g1.2.2]
      rintro e w3 ⟨rfl, hb3⟩
      clear g1
      go_wp2_with fail
      refine (lpaint_any _ _ _ _).mono ?_
      rw [g2.1, g2.2.1, g2.2.2]
      rintro e w4 ⟨rfl, hb4⟩
      clear g2
      go_wp2_with fail
      refine (awake_any _).mono ?_
      rintro e w5 ⟨rfl, hb5⟩
      go_wp2_with fail
      go_ret
      exact ⟨rfl, Tin.bt (Tin.bt (Tin.bt (below_drewN hbel n) hb3) hb4) hb5⟩
end Go.Proofs.Ytknnmgbiondipaa
