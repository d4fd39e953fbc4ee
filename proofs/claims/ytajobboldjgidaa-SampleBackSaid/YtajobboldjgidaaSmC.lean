/- A plane's sample near a place. -/
import Derived.Test.YtajobboldjgidaaSmB
namespace Go.Proofs.Ytajobboldjgidaa
open Go.RowKit
open Go.Tin
set_option linter.unusedVariables false
set_option linter.unusedSimpArgs false


/-- Where the sample near a place is. -/
def npos (W H x y : Int) : Nat := (min y (H - 1) * W + min x (W - 1)).toNat
def nearV (W H : Int) (v : List Int) (x y : Int) : Int := nth v (npos W H x y)
theorem npos_facts {W H x y : Int} {n : Nat} (hW : 1 ≤ W ∧ W ≤ 4096) (hH : 1 ≤ H ∧ H ≤ 4096) (hn : (n : Int) = W * H) (hx : 0 ≤ x) (hy : 0 ≤ y) :
    (min y (H - 1) * W + min x (W - 1) = (npos W H x y : Int) ∧ npos W H x y < n) ∧ 0 ≤ min y (H - 1) * W ∧ min y (H - 1) * W ≤ 16777216 := by
  have a1 : 0 ≤ min y (H - 1) := by omega
  have a2 : min y (H - 1) ≤ H - 1 := by omega
  have b1 : 0 ≤ min x (W - 1) := by omega
  have b2 : min x (W - 1) ≤ W - 1 := by omega
  have h1 : 0 ≤ min y (H - 1) * W := Int.mul_nonneg a1 (by omega)
  have h2 : min y (H - 1) * W ≤ (H - 1) * W := Int.mul_le_mul_of_nonneg_right a2 (by omega)
  have h3 : (H - 1) * W = W * H - W := by rw [Int.sub_mul, Int.one_mul, Int.mul_comm]
  have h5 := (mulP_bd hW hH).2
  unfold npos
  generalize min y (H - 1) * W = m at *
  generalize min x (W - 1) = k at *
  refine ⟨⟨by omega, by omega⟩, h1, by omega⟩
theorem near_bd {W H : Int} {v : List Int} (hv : v.all okV = true) (x y : Int) : 0 ≤ nearV W H v x y ∧ nearV W H v x y ≤ 255 := by
  unfold nearV
  generalize npos W H x y = p
  by_cases hp : p < v.length
  · have h := List.all_eq_true.1 hv v[p] (List.getElem_mem hp)
    unfold okV at h
    simp only [Bool.and_eq_true, decide_eq_true_eq] at h
    simpa [nth, List.getD_eq_getElem?_getD, hp] using h
  · simp [nth, List.getD_eq_getElem?_getD, List.getElem?_eq_none (Nat.le_of_not_lt hp)]
set_option maxRecDepth 100000 in
set_option maxHeartbeats 2000000 in
theorem near_any (W H x y : Int) (A : Option Addr) (c : Nat) (v : List Int) (w : World) (hs : Sl .i64 w A v) (hW : 1 ≤ W ∧ W ≤ 4096) (hH : 1 ≤ H ∧ H ≤ 4096) (hn : (v.length : Int) = W * H) (hx : 0 ≤ x ∧ x ≤ 100000) (hy : 0 ≤ y ∧ y ≤ 100000) :
    Calls Try.prog 35 #[plA W H A v.length c, .int .i64 x, .int .i64 y] w fun e w' => e = .returned (.int .i64 (nearV W H v x y)) ∧ Below w.heap.size w w' := by
  obtain ⟨⟨hp, hl⟩, m0, m1⟩ := npos_facts hW hH hn hx.1 hy.1
  have HE := Lib.hid (show nearV W H v x y = nth v (npos W H x y) from rfl)
  obtain ⟨b, off, rfl, hlt, hcell⟩ := hs.at_ (by omega)
  generalize npos W H x y = p at *
  have q0 : w.cell? ⟨b, off + p, none⟩ = some (.int .i64 (nth v p)) := hcell p (by omega)
  have hne : b ≠ w.heap.size := by omega
  have hmx : ∀ a b : Int, (if a < b then a else b) = min a b := by intro a b; split <;> omega
  obtain ⟨x0, x1⟩ := hx
  obtain ⟨y0, y1⟩ := hy
  obtain ⟨hW0, hW1⟩ := hW
  obtain ⟨hH0, hH1⟩ := hH
  clear hcell hn hs
  go_enter Try.func35, Try.ntmps35
  go_wp2_with fail
  go_ret
  exact ⟨ret_int (by rw [HE.out]), ba (brefl w) _⟩
set_option maxRecDepth 100000 in
set_option maxHeartbeats 2000000 in
theorem rnear_any (W H x y : Int) (A : Option Addr) (c : Nat) (v : List Int) (w : World) (hs : Sl .i64 w A v) (hW : 1 ≤ W ∧ W ≤ 4096) (hH : 1 ≤ H ∧ H ≤ 4096) (hn : (v.length : Int) = W * H) (hx : 0 ≤ x ∧ x ≤ 100000) (hy : 0 ≤ y ∧ y ≤ 100000) :
    Calls Try.prog 40 #[plA W H A v.length c, .int .i64 x, .int .i64 y] w fun e w' => e = .returned (.int .i64 (nearV W H v x y)) ∧ Below w.heap.size w w' := by
  obtain ⟨⟨hp, hl⟩, m0, m1⟩ := npos_facts hW hH hn hx.1 hy.1
  have HE := Lib.hid (show nearV W H v x y = nth v (npos W H x y) from rfl)
  obtain ⟨b, off, rfl, hlt, hcell⟩ := hs.at_ (by omega)
  generalize npos W H x y = p at *
  have q0 : w.cell? ⟨b, off + p, none⟩ = some (.int .i64 (nth v p)) := hcell p (by omega)
  have hne : b ≠ w.heap.size := by omega
  obtain ⟨x0, x1⟩ := hx
  obtain ⟨y0, y1⟩ := hy
  obtain ⟨hW0, hW1⟩ := hW
  obtain ⟨hH0, hH1⟩ := hH
  clear hcell hn hs
  rw [Int.mul_comm] at m0 m1 hp
  by_cases hxW : W ≤ x
  · rw [show min x (W - 1) = W - 1 by omega] at hp
    by_cases hyH : H ≤ y
    · rw [show min y (H - 1) = H - 1 by omega] at hp m0 m1
      go_enter Try.func40, Try.ntmps40
      go_wp2_with fail
      go_ret
      exact ⟨ret_int (by rw [HE.out]), ba (brefl w) _⟩
    · rw [show min y (H - 1) = y by omega] at hp m0 m1
      have iy : y < H := by omega
      clear hyH
      go_enter Try.func40, Try.ntmps40
      go_wp2_with fail
      go_ret
      exact ⟨ret_int (by rw [HE.out]), ba (brefl w) _⟩
  · rw [show min x (W - 1) = x by omega] at hp
    have ix : x < W := by omega
    clear hxW
    by_cases hyH : H ≤ y
    · rw [show min y (H - 1) = H - 1 by omega] at hp m0 m1
      go_enter Try.func40, Try.ntmps40
      go_wp2_with fail
      go_ret
      exact ⟨ret_int (by rw [HE.out]), ba (brefl w) _⟩
    · rw [show min y (H - 1) = y by omega] at hp m0 m1
      have iy : y < H := by omega
      clear hyH
      go_enter Try.func40, Try.ntmps40
      go_wp2_with fail
      go_ret
      exact ⟨ret_int (by rw [HE.out]), ba (brefl w) _⟩
end Go.Proofs.Ytajobboldjgidaa
