/- The contracts of the reference of Scaled, of flat and scaled. -/
import Derived.Test.YtaahphocoedmdaaQuF
namespace Go.Proofs.Ytaahphocoedmdaa
open Go.RowKit
open Go.Tin
set_option linter.unusedVariables false
set_option linter.unusedSimpArgs false


theorem other1 {w : World} {g k i : Nat} {v : Value} (h : k ≠ g) : (w.setCell ⟨g, i, none⟩ v).heap[k]? = w.heap[k]? := heap_setCell_other w ⟨g, i, none⟩ k v (by show k ≠ g; exact h)
theorem other2 {w : World} {g k i : Nat} {v v' : Value} (h : k ≠ g) : ((w.setCell ⟨g, i, none⟩ v).setCell ⟨g, i, none⟩ v').heap[k]? = w.heap[k]? := (other1 h).trans (other1 h)
theorem told1 {w : World} {g : Nat} {G : Int → Int → Int} {a b : List Int} (i : Nat) (hg : w.heap[g]? = some (.cells (arr .i64 (eachT G a b i)) 23 (0, 0))) (v : Int) (hv : v = G (nth a i) (nth b i)) (hi : i < 64) :
    (w.setCell ⟨g, i, none⟩ (.int .i64 v)).heap[g]? = some (.cells (arr .i64 (eachT G a b (i + 1))) 23 (0, 0)) := by
  subst hv
  unfold eachT
  rw [← tell_set 64 _ i hi]
  exact blk_set hg i _
theorem told2 {w : World} {g : Nat} {G : Int → Int → Int} {a b : List Int} (i : Nat) (hg : w.heap[g]? = some (.cells (arr .i64 (eachT G a b i)) 23 (0, 0))) (u v : Int) (hv : v = G (nth a i) (nth b i)) (hi : i < 64) :
    ((w.setCell ⟨g, i, none⟩ (.int .i64 u)).setCell ⟨g, i, none⟩ (.int .i64 v)).heap[g]? = some (.cells (arr .i64 (eachT G a b (i + 1))) 23 (0, 0)) := by
  subst hv
  unfold eachT
  rw [← tell_set 64 _ i hi]
  have h := blk_set (blk_set hg i u) i (G (nth a i) (nth b i))
  rw [List.set_set] at h
  exact h
set_option maxRecDepth 100000 in
set_option maxHeartbeats 4000000 in
theorem rscaled_any (q : List Int) (hq : q.length = 64) (n : Int) (w : World) (hyes : scB q n = true) :
    Calls Try.prog 13 #[.agg (arr .i64 q), .int .i64 n] w fun e w' => e = .returned (.agg (arr .i64 (eachL (fun x _ => scaleI (byI n) x) q q))) ∧ Below w.heap.size w w' := by
  have HQ := Lib.hid hq
  unfold scB at hyes
  simp only [Bool.and_eq_true, decide_eq_true_eq] at hyes
  obtain ⟨h1, n0, n1⟩ := hyes
  obtain ⟨s0, s1⟩ := byI_bd n0 n1
  have HY := Lib.hid (fun i (hi : i < 64) => inL_t h1 i (by omega))
  have HL := Lib.hid (eachL_len (fun x _ => scaleI (byI n) x) q q)
  have HN : byI n = if n < 50 then 5000 / n else 200 - 2 * n := rfl
  have HN1 := Lib.hid (show n < 50 → byI n = 5000 / n from fun h => by unfold byI; rw [if_pos h])
  have HN2 := Lib.hid (show ¬ n < 50 → byI n = 200 - 2 * n from fun h => by unfold byI; rw [if_neg h])
  clear hq h1 HN
  generalize byI n = s at *
  go_enter Try.func13, Try.ntmps13
  by_cases hn : n < 50
  · have e1 := HN1.out hn
    subst e1
    go_wp2_with fail
    generalize hW0 : ((w.alloc _).alloc _).alloc _ = W0 at *
    obtain ⟨g0, g1, g2, hB0, hz0⟩ : W0.heap[w.heap.size]? = some (.cells (arr .i64 q) 23 (0, 0)) ∧ W0.heap[w.heap.size + 1]? = some (.cells (arr .i64 zer) 23 (0, 0)) ∧ W0.heap[w.heap.size + 2]? = some (.cells (arr .i64 zer) 23 (0, 0)) ∧ Below w.heap.size w W0 ∧ W0.heap.size = w.heap.size + 3 := by
      rw [← hW0]
      exact alloc3 w (.cells (arr .i64 q) 23) (.cells (arr .i64 zer) 23) (.cells (arr .i64 zer) 23)
    have e0 : eachT (fun x _ => scaleI (5000 / n) x) q q 0 = zer := tell_zero _ _
    rw [← e0] at g2
    clear hW0 e0
    go_loopw [7] (fun s7 wr => ∃ (i : Nat), i ≤ 64 ∧ s7 = .int .i64 (i : Int) ∧ wr.heap[w.heap.size]? = some (.cells (arr .i64 q) 23 (0, 0)) ∧ wr.heap[w.heap.size + 1]? = some (.cells (arr .i64 zer) 23 (0, 0)) ∧ wr.heap[w.heap.size + 2]? = some (.cells (arr .i64 (eachT (fun x _ => scaleI (5000 / n) x) q q i)) 23 (0, 0)) ∧ Below w.heap.size w wr ∧ w.heap.size + 3 ≤ wr.heap.size) (fun s7 _ => 64 - (intOf s7).toNat)
    case atStart => exact ⟨0, by omega, rfl, g0, g1, g2, hB0, by omega⟩
    case round =>
      clear g0 g1 g2 hB0 hz0
      obtain ⟨i, hi, rfl, g0, g1, g2, hB, hz⟩ := hrel
      by_cases hi64 : i < 64
      · have i1 : (i : Int) < 64 := by omega
        have k0 := row_cell g0 i (arr_get i (by rw [HQ.out]; exact hi64))
        obtain ⟨x0, x1⟩ := HY.out i hi64
        have G0 := Lib.hid g0
        have G1 := Lib.hid g1
        have G2 := Lib.hid g2
        clear g0 g1 g2
        have c3 : wr.cell? ⟨w.heap.size + 1 + 1, i, none⟩ = some (.int .i64 0) := by
          rw [row_cell (g := w.heap.size + 2) G2.out i (arr_get i (by simp; exact hi64))]
          unfold eachT
          rw [nth_tell _ _ _ _ hi64, if_neg (by omega)]
        have f3 : wr.frozen? ⟨w.heap.size + 1 + 1, i, none⟩ = false := frozen_of_row wr (w.heap.size + 2) i _ _ G2.out
        obtain ⟨b0, b1⟩ := prod_bd (M := 255) (show -255 ≤ nth q i by omega) x1 s0 s1 (by decide)
        have b2 : 0 ≤ nth q i * (5000 / n) := Int.mul_nonneg (by omega) s0
        go_wp2_with fail
        · go_roundw
          case rel => exact ⟨i + 1, by omega, by go_num, (other2 (by omega)).trans G0.out, (other2 (by omega)).trans G1.out, told2 (g := w.heap.size + 2) i G2.out _ _ (show 1 = scaleI (5000 / n) (nth q i) by unfold scaleI; omega) (by omega), bset (bset hB _ _ _ (by omega)) _ _ _ (by omega), by simpa [World.setCell] using hz⟩
          case measure => simp [intOf]; omega
        · go_roundw
          case rel => exact ⟨i + 1, by omega, by go_num, (other2 (by omega)).trans G0.out, (other2 (by omega)).trans G1.out, told2 (g := w.heap.size + 2) i G2.out _ _ (show 255 = scaleI (5000 / n) (nth q i) by unfold scaleI; omega) (by omega), bset (bset hB _ _ _ (by omega)) _ _ _ (by omega), by simpa [World.setCell] using hz⟩
          case measure => simp [intOf]; omega
        · go_roundw
          case rel => exact ⟨i + 1, by omega, by go_num, (other1 (by omega)).trans G0.out, (other1 (by omega)).trans G1.out, told1 (g := w.heap.size + 2) i G2.out _ (show _ = scaleI (5000 / n) (nth q i) by unfold scaleI; omega) (by omega), bset hB _ _ _ (by omega), by simpa [World.setCell] using hz⟩
          case measure => simp [intOf]; omega
      · obtain rfl : i = 64 := by omega
        have G1 := Lib.hid g1
        have e5 : eachT (fun x _ => scaleI (5000 / n) x) q q 64 = eachL (fun x _ => scaleI (5000 / n) x) q q := tell_all _ _
        rw [e5] at g2
        have G2 := Lib.hid g2
        clear g0 g1 g2 e5
        go_wp2_with (first | ((with_reducible refine wpl_load_row rtB ?_ (.tmp 6) ?_ (w.heap.size + 2) ?_ 23 (arr .i64 (eachL (fun x _ => scaleI (5000 / n) x) q q)) ?_ ?_ ?_); rfl; rfl; rfl; simp [HL.out]; exact G2.out; simp only [Act.put, List.setIfInBounds_toArray, List.set_cons_succ, List.set_cons_zero]) | ((with_reducible refine wpl_store_row rtB ?_ (.tmp 4) (.tmp 40) ?_ (w.heap.size + 1) ?_ (arr .i64 (eachL (fun x _ => scaleI (5000 / n) x) q q)) ?_ arr_one 23 ?_ _ ?_ G1.out ?_); rfl; rfl; rfl; rfl; simp [HL.out]; simp [zer_len]; intro w6 hr6 hg6 hs6; (try simp only [Act.put])))
        exact bodyPost_ret (res_arr at27 rfl _ _ (w.heap.size + 1) 23 rfl HL.out hr6) rfl ⟨rfl, hB.grown hg6 hB.size (fun k hk => by cases hk; omega)⟩

  · have e1 := HN2.out hn
    subst e1
    go_wp2_with fail
    generalize hW0 : ((w.alloc _).alloc _).alloc _ = W0 at *
    obtain ⟨g0, g1, g2, hB0, hz0⟩ : W0.heap[w.heap.size]? = some (.cells (arr .i64 q) 23 (0, 0)) ∧ W0.heap[w.heap.size + 1]? = some (.cells (arr .i64 zer) 23 (0, 0)) ∧ W0.heap[w.heap.size + 2]? = some (.cells (arr .i64 zer) 23 (0, 0)) ∧ Below w.heap.size w W0 ∧ W0.heap.size = w.heap.size + 3 := by
      rw [← hW0]
      exact alloc3 w (.cells (arr .i64 q) 23) (.cells (arr .i64 zer) 23) (.cells (arr .i64 zer) 23)
    have e0 : eachT (fun x _ => scaleI (200 - 2 * n) x) q q 0 = zer := tell_zero _ _
    rw [← e0] at g2
    clear hW0 e0
    go_loopw [7] (fun s7 wr => ∃ (i : Nat), i ≤ 64 ∧ s7 = .int .i64 (i : Int) ∧ wr.heap[w.heap.size]? = some (.cells (arr .i64 q) 23 (0, 0)) ∧ wr.heap[w.heap.size + 1]? = some (.cells (arr .i64 zer) 23 (0, 0)) ∧ wr.heap[w.heap.size + 2]? = some (.cells (arr .i64 (eachT (fun x _ => scaleI (200 - 2 * n) x) q q i)) 23 (0, 0)) ∧ Below w.heap.size w wr ∧ w.heap.size + 3 ≤ wr.heap.size) (fun s7 _ => 64 - (intOf s7).toNat)
    case atStart => exact ⟨0, by omega, rfl, g0, g1, g2, hB0, by omega⟩
    case round =>
      clear g0 g1 g2 hB0 hz0
      obtain ⟨i, hi, rfl, g0, g1, g2, hB, hz⟩ := hrel
      by_cases hi64 : i < 64
      · have i1 : (i : Int) < 64 := by omega
        have k0 := row_cell g0 i (arr_get i (by rw [HQ.out]; exact hi64))
        obtain ⟨x0, x1⟩ := HY.out i hi64
        have G0 := Lib.hid g0
        have G1 := Lib.hid g1
        have G2 := Lib.hid g2
        clear g0 g1 g2
        have c3 : wr.cell? ⟨w.heap.size + 1 + 1, i, none⟩ = some (.int .i64 0) := by
          rw [row_cell (g := w.heap.size + 2) G2.out i (arr_get i (by simp; exact hi64))]
          unfold eachT
          rw [nth_tell _ _ _ _ hi64, if_neg (by omega)]
        have f3 : wr.frozen? ⟨w.heap.size + 1 + 1, i, none⟩ = false := frozen_of_row wr (w.heap.size + 2) i _ _ G2.out
        obtain ⟨b0, b1⟩ := prod_bd (M := 255) (show -255 ≤ nth q i by omega) x1 s0 s1 (by decide)
        have b2 : 0 ≤ nth q i * (200 - 2 * n) := Int.mul_nonneg (by omega) s0
        go_wp2_with fail
        · go_roundw
          case rel => exact ⟨i + 1, by omega, by go_num, (other2 (by omega)).trans G0.out, (other2 (by omega)).trans G1.out, told2 (g := w.heap.size + 2) i G2.out _ _ (show 1 = scaleI (200 - 2 * n) (nth q i) by unfold scaleI; omega) (by omega), bset (bset hB _ _ _ (by omega)) _ _ _ (by omega), by simpa [World.setCell] using hz⟩
          case measure => simp [intOf]; omega
        · go_roundw
          case rel => exact ⟨i + 1, by omega, by go_num, (other2 (by omega)).trans G0.out, (other2 (by omega)).trans G1.out, told2 (g := w.heap.size + 2) i G2.out _ _ (show 255 = scaleI (200 - 2 * n) (nth q i) by unfold scaleI; omega) (by omega), bset (bset hB _ _ _ (by omega)) _ _ _ (by omega), by simpa [World.setCell] using hz⟩
          case measure => simp [intOf]; omega
        · go_roundw
          case rel => exact ⟨i + 1, by omega, by go_num, (other1 (by omega)).trans G0.out, (other1 (by omega)).trans G1.out, told1 (g := w.heap.size + 2) i G2.out _ (show _ = scaleI (200 - 2 * n) (nth q i) by unfold scaleI; omega) (by omega), bset hB _ _ _ (by omega), by simpa [World.setCell] using hz⟩
          case measure => simp [intOf]; omega
      · obtain rfl : i = 64 := by omega
        have G1 := Lib.hid g1
        have e5 : eachT (fun x _ => scaleI (200 - 2 * n) x) q q 64 = eachL (fun x _ => scaleI (200 - 2 * n) x) q q := tell_all _ _
        rw [e5] at g2
        have G2 := Lib.hid g2
        clear g0 g1 g2 e5
        go_wp2_with (first | ((with_reducible refine wpl_load_row rtB ?_ (.tmp 6) ?_ (w.heap.size + 2) ?_ 23 (arr .i64 (eachL (fun x _ => scaleI (200 - 2 * n) x) q q)) ?_ ?_ ?_); rfl; rfl; rfl; simp [HL.out]; exact G2.out; simp only [Act.put, List.setIfInBounds_toArray, List.set_cons_succ, List.set_cons_zero]) | ((with_reducible refine wpl_store_row rtB ?_ (.tmp 4) (.tmp 40) ?_ (w.heap.size + 1) ?_ (arr .i64 (eachL (fun x _ => scaleI (200 - 2 * n) x) q q)) ?_ arr_one 23 ?_ _ ?_ G1.out ?_); rfl; rfl; rfl; rfl; simp [HL.out]; simp [zer_len]; intro w6 hr6 hg6 hs6; (try simp only [Act.put])))
        exact bodyPost_ret (res_arr at27 rfl _ _ (w.heap.size + 1) 23 rfl HL.out hr6) rfl ⟨rfl, hB.grown hg6 hB.size (fun k hk => by cases hk; omega)⟩
end Go.Proofs.Ytaahphocoedmdaa
