/- The contract of half: seven digits of a cosine, and its sign. -/
import Derived.Test.YtmfipjpmfigjaaaCnD
namespace Go.Proofs.Ytmfipjpmfigjaaa
open Go.RowKit
open Go.Tin
set_option linter.unusedVariables false
set_option linter.unusedSimpArgs false


theorem ret2 {a a' b b' : Int} (h : a' = a) (h2 : b' = b) : Ending.returned (.tuple #[.int .i64 a, .int .i64 b]) = .returned (.tuple #[.int .i64 a', .int .i64 b']) := by rw [h, h2]
theorem dig_cell (w : World) (j : Nat) (hj : j < 9) : (w.alloc (.cells #[.int .i64 0, .int .i64 4903926, .int .i64 4619397, .int .i64 4157348, .int .i64 3535533, .int .i64 2777851, .int .i64 1913417, .int .i64 975451, .int .i64 0] 36)).cell? ⟨w.heap.size, j, none⟩ = some (.int .i64 (nth digL j)) := by
  have h := heap_alloc_new w (.cells (arr .i64 digL) 36)
  exact row_cell h j (arr_get j hj)

set_option maxRecDepth 100000 in
set_option maxHeartbeats 2000000 in
theorem half_any (u x : Nat) (hu : u < 8) (hx : x < 8) (w : World) : Calls Try.prog 16 #[.int .i64 (u : Int), .int .i64 (x : Int)] w fun e w' => e = .returned (.tuple #[.int .i64 (halfN u x), .int .i64 (halfS u x)]) ∧ Below w.heap.size w w' := by
  have hB := ba (brefl w) (.cells #[.int .i64 0, .int .i64 4903926, .int .i64 4619397, .int .i64 4157348, .int .i64 3535533, .int .i64 2777851, .int .i64 1913417, .int .i64 975451, .int .i64 0] 36)
  by_cases h0 : u = 0
  · subst h0
    have HN := Lib.hid (show halfN 0 x = 3535533 from rfl)
    have HS := Lib.hid (show halfS 0 x = 1 from rfl)
    go_enter Try.func16, Try.ntmps16
    go_wp2_with fail
    go_ret2
    exact ⟨ret2 HN.out HS.out, hB⟩
  · have hu0 : ((u : Int) == 0) = false := by simp; omega
    obtain ⟨P, hP⟩ : ∃ P : Nat, P = (2 * x + 1) * u := ⟨_, rfl⟩
    have hP105 : P ≤ 105 := by
      rw [hP]
      have h1 : (2 * x + 1) * u ≤ 15 * u := Nat.mul_le_mul_right u (by omega)
      omega
    have eP : (2 * (x : Int) + 1) * (u : Int) = (P : Int) := by
      rw [hP, Int.natCast_mul]
      simp
    have hK : halfK u x = P % 32 := by unfold halfK; rw [hP]
    obtain ⟨K, hKK⟩ : ∃ K : Nat, K = P % 32 := ⟨_, rfl⟩
    have hK32 : K < 32 := by omega
    have eK : (P : Int) % 32 = (K : Int) := by omega
    rw [← hKK] at hK
    clear hKK hP
    have hN : halfN u x = if K ≤ 8 then nth digL K else if K ≤ 16 then nth digL (16 - K) else if K ≤ 24 then nth digL (K - 16) else nth digL (32 - K) := by unfold halfN; rw [if_neg h0, hK]
    have hS : halfS u x = if K ≤ 8 then 1 else if K ≤ 24 then -1 else 1 := by unfold halfS; rw [if_neg h0, hK]
    clear hK h0
    by_cases k8 : K ≤ 8
    · rw [if_pos k8] at hN hS
      have HN := Lib.hid hN
      have HS := Lib.hid hS
      have i1 : (K : Int) ≤ 8 := by omega
      have c0 := dig_cell w K (by omega)
      clear hN hS
      go_enter Try.func16, Try.ntmps16
      go_wp2_with fail
      go_ret2
      exact ⟨ret2 HN.out HS.out, hB⟩
    · rw [if_neg k8] at hN hS
      by_cases k16 : K ≤ 16
      · rw [if_pos k16] at hN
        rw [if_pos (by omega)] at hS
        have HN := Lib.hid hN
        have HS := Lib.hid hS
        have i1 : (8 : Int) < (K : Int) := by omega
        have i2 : (K : Int) ≤ 16 := by omega
        have e2 : (16 : Int) - (K : Int) = ((16 - K : Nat) : Int) := by omega
        have c0 := dig_cell w (16 - K) (by omega)
        clear hN hS
        go_enter Try.func16, Try.ntmps16
        go_wp2_with fail
        go_ret2
        exact ⟨ret2 HN.out HS.out, hB⟩
      · rw [if_neg k16] at hN
        by_cases k24 : K ≤ 24
        · rw [if_pos k24] at hN hS
          have HN := Lib.hid hN
          have HS := Lib.hid hS
          have i1 : (16 : Int) < (K : Int) := by omega
          have i2 : (K : Int) ≤ 24 := by omega
          have e2 : (K : Int) - 16 = ((K - 16 : Nat) : Int) := by omega
          have c0 := dig_cell w (K - 16) (by omega)
          clear hN hS
          go_enter Try.func16, Try.ntmps16
          go_wp2_with fail
          go_ret2
          exact ⟨ret2 HN.out HS.out, hB⟩
        · rw [if_neg k24] at hN hS
          have HN := Lib.hid hN
          have HS := Lib.hid hS
          have i1 : (24 : Int) < (K : Int) := by omega
          have e2 : (32 : Int) - (K : Int) = ((32 - K : Nat) : Int) := by omega
          have c0 := dig_cell w (32 - K) (by omega)
          clear hN hS
          go_enter Try.func16, Try.ntmps16
          go_wp2_with fail
          go_ret2
          exact ⟨ret2 HN.out HS.out, hB⟩
end Go.Proofs.Ytmfipjpmfigjaaa
