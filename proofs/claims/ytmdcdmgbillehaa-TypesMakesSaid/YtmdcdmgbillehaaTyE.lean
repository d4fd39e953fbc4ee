/- The contract of the reference's May. -/
import Derived.Test.YtmdcdmgbillehaaTyD
namespace Go.Proofs.Ytmdcdmgbillehaa
open Go.RowKit
open Go.Tin
set_option linter.unusedVariables false
set_option linter.unusedSimpArgs false


set_option maxRecDepth 100000 in
set_option maxHeartbeats 4000000 in
theorem rmay_any (t c : Int) (A : Option Addr) (l : List Int) (cap : Nat) (w : World) (hs : Sl .u8 w A l) (hl : l.length ≤ 1000000000) (hby : Byts l) :
    Calls Try.prog 33 #[.agg #[.int .i64 t, .int .i64 c, .slice A l.length cap]] w fun e w' => e = .returned (.bool (mayV t c l)) ∧ Below w.heap.size w w' := by
  obtain ⟨W, hW⟩ : ∃ W, W = w.alloc (.cells #[.int .i64 t, .int .i64 c, .slice A l.length cap] 27) := ⟨_, rfl⟩
  have HBX := Lib.hid (show Below w.heap.size w W by rw [hW]; exact ba (brefl w) _)
  have HRX := Lib.hid (show W.heap[w.heap.size]? = some (.cells #[.int .i64 t, .int .i64 c, .slice A l.length cap] 27 (0, 0)) by rw [hW]; exact heap_alloc_new w _)
  have HS := Lib.hid (hs.keep HBX.out)
  have HBY := Lib.hid hby
  have HCL := Lib.hid (show ∀ (V : World), Below W.heap.size W V → ∀ j v, (#[.int .i64 t, .int .i64 c, .slice A l.length cap] : Array Value)[j]? = some v → V.cell? ⟨w.heap.size, j, none⟩ = some v from fun V h j v hj => row_cell ((h.block _ (row_lt HRX.out)).trans HRX.out) j hj)
  have HSc := Lib.hid (szT_cases t)
  have HKF := Lib.hid (fun h => mayV_f (t := t) (c := c) (l := l) h)
  have HK2 := Lib.hid (mayV_iff t c l)
  have HB2 := Lib.hid (ud' HBX.out)
  have kb0 : ∀ p : Bel W.heap.size W.drew, p.w'.cell? ⟨w.heap.size, 0, none⟩ = some (.int .i64 t) := fun p => HCL.out _ (ud p.h) 0 _ rfl
  have kb1 : ∀ p : Bel W.heap.size W.drew, p.w'.cell? ⟨w.heap.size, 1, none⟩ = some (.int .i64 c) := fun p => HCL.out _ (ud p.h) 1 _ rfl
  have kb2 : ∀ p : Bel W.heap.size W.drew, p.w'.cell? ⟨w.heap.size, 2, none⟩ = some (.slice A l.length cap) := fun p => HCL.out _ (ud p.h) 2 _ rfl
  clear hs hby
  go_enter Try.func33, Try.ntmps33
  go_wp2_with fail
  rw [← hW]
  clear hW
  refine Tin.reg_begin W.heap.size 26 (by rfl) (by kernel_rfl) ?_
  refine Tin.reg_quiets [0, 1] _ 24 rfl (by simp only [Tin.pick, List.map_cons, List.map_nil, Array.getD_eq_getD_getElem?, List.getElem?_toArray, List.getElem?_cons_zero, List.getElem?_cons_succ, Option.getD_some]; rfl) (by kernel_rfl) (by kernel_rfl) ?_
  repeat (first | go_big_quiet_step (fail))
  refine wpQuiet_nil ?_
  refine Tin.reg_one 2 _ rfl (by kernel_rfl) ?_
  try simp only [List.getElem_toArray, List.getElem_cons_succ, List.getElem_cons_zero]
  go_wp2_with fail
  refine (rsize_any t _).mono ?_
  rintro e w1 ⟨rfl, rfl⟩
  go_wp2_with fail
  refine ⟨W.heap.size, brefl W.drew, Nat.le_refl _, ?_⟩
  by_cases h1 : szT t = 0
  · have d1 : (szT t == 0) = true := by simpa using h1
    have HK := Lib.hid (HKF.out (fun h => h.1 h1))
    clear h1
    refine Tin.reg_quiets [3, 4, 5, 6, 7, 8, 9, 10, 11, 12, 13, 14, 15, 16, 17, 18, 19, 20, 21] _ 4 rfl (by simp only [Tin.pick, List.map_cons, List.map_nil, Array.getD_eq_getD_getElem?, List.getElem?_toArray, List.getElem?_cons_zero, List.getElem?_cons_succ, Option.getD_some]; rfl) (by kernel_rfl) (by kernel_rfl) ?_
    repeat (first | go_big_quiet_step (fail))
    refine wpQuiet_nil ?_
    refine Tin.reg_one 22 _ rfl (by kernel_rfl) ?_
    try simp only [List.getElem_toArray, List.getElem_cons_succ, List.getElem_cons_zero]
    go_wp2_with fail
    refine ⟨W.heap.size, brefl W.drew, Nat.le_refl _, ?_⟩
    refine Tin.reg_quiets [23, 24, 25] _ 0 rfl (by simp only [Tin.pick, List.map_cons, List.map_nil, Array.getD_eq_getD_getElem?, List.getElem?_toArray, List.getElem?_cons_zero, List.getElem?_cons_succ, Option.getD_some]; rfl) (by kernel_rfl) (by kernel_rfl) ?_
    repeat (first | go_big_quiet_step (fail))
    refine wpQuiet_nil ?_
    refine Tin.reg_done (by kernel_rfl) ?_
    go_wp2_with fail
    go_ret
    exact ⟨by rw [HK.out]; rfl, HB2.out⟩

  have d1 : (szT t == 0) = false := by simpa using h1
  by_cases h2 : c < 1
  · have d2 : decide (c < 1) = true := by simpa using h2
    have HK := Lib.hid (HKF.out (fun h => by omega))
    clear h1 h2
    refine Tin.reg_quiets [3, 4, 5, 6, 7, 8, 9, 10, 11, 12, 13, 14, 15, 16, 17, 18, 19, 20, 21] _ 4 rfl (by simp only [Tin.pick, List.map_cons, List.map_nil, Array.getD_eq_getD_getElem?, List.getElem?_toArray, List.getElem?_cons_zero, List.getElem?_cons_succ, Option.getD_some]; rfl) (by kernel_rfl) (by kernel_rfl) ?_
    repeat (first | go_big_quiet_step (fail))
    refine wpQuiet_nil ?_
    refine Tin.reg_one 22 _ rfl (by kernel_rfl) ?_
    try simp only [List.getElem_toArray, List.getElem_cons_succ, List.getElem_cons_zero]
    go_wp2_with fail
    refine ⟨W.heap.size, brefl W.drew, Nat.le_refl _, ?_⟩
    refine Tin.reg_quiets [23, 24, 25] _ 0 rfl (by simp only [Tin.pick, List.map_cons, List.map_nil, Array.getD_eq_getD_getElem?, List.getElem?_toArray, List.getElem?_cons_zero, List.getElem?_cons_succ, Option.getD_some]; rfl) (by kernel_rfl) (by kernel_rfl) ?_
    repeat (first | go_big_quiet_step (fail))
    refine wpQuiet_nil ?_
    refine Tin.reg_done (by kernel_rfl) ?_
    go_wp2_with fail
    go_ret
    exact ⟨by rw [HK.out]; rfl, HB2.out⟩

  have d2 : decide (c < 1) = false := by simpa using h2
  by_cases h3 : 65536 < c
  · have d3 : decide (65536 < c) = true := by simpa using h3
    have HK := Lib.hid (HKF.out (fun h => by omega))
    clear h1 h2 h3
    refine Tin.reg_quiets [3, 4, 5, 6, 7, 8, 9, 10, 11, 12, 13, 14, 15, 16, 17, 18, 19, 20, 21] _ 4 rfl (by simp only [Tin.pick, List.map_cons, List.map_nil, Array.getD_eq_getD_getElem?, List.getElem?_toArray, List.getElem?_cons_zero, List.getElem?_cons_succ, Option.getD_some]; rfl) (by kernel_rfl) (by kernel_rfl) ?_
    repeat (first | go_big_quiet_step (fail))
    refine wpQuiet_nil ?_
    refine Tin.reg_one 22 _ rfl (by kernel_rfl) ?_
    try simp only [List.getElem_toArray, List.getElem_cons_succ, List.getElem_cons_zero]
    go_wp2_with fail
    refine ⟨W.heap.size, brefl W.drew, Nat.le_refl _, ?_⟩
    refine Tin.reg_quiets [23, 24, 25] _ 0 rfl (by simp only [Tin.pick, List.map_cons, List.map_nil, Array.getD_eq_getD_getElem?, List.getElem?_toArray, List.getElem?_cons_zero, List.getElem?_cons_succ, Option.getD_some]; rfl) (by kernel_rfl) (by kernel_rfl) ?_
    repeat (first | go_big_quiet_step (fail))
    refine wpQuiet_nil ?_
    refine Tin.reg_done (by kernel_rfl) ?_
    go_wp2_with fail
    go_ret
    exact ⟨by rw [HK.out]; rfl, HB2.out⟩

  have d3 : decide (65536 < c) = false := by simpa using h3
  have HP := Lib.hid (show 0 ≤ c * szT t ∧ c * szT t ≤ 1000000 by
    rcases HSc.out with ⟨h, _⟩ | ⟨_, _, h | h | h | h⟩ <;> rw [h] <;> omega)
  have p0 := HP.out.1
  have p1 := HP.out.2
  refine Tin.reg_quiets [3, 4, 5, 6, 7, 8, 9, 10, 11, 12, 13, 14, 15, 16, 17, 18, 19, 20, 21] _ 4 rfl (by simp only [Tin.pick, List.map_cons, List.map_nil, Array.getD_eq_getD_getElem?, List.getElem?_toArray, List.getElem?_cons_zero, List.getElem?_cons_succ, Option.getD_some]; rfl) (by kernel_rfl) (by kernel_rfl) ?_
  repeat (first | go_big_quiet_step (fail))
  refine wpQuiet_nil ?_
  refine Tin.reg_one 22 _ rfl (by kernel_rfl) ?_
  try simp only [List.getElem_toArray, List.getElem_cons_succ, List.getElem_cons_zero]
  go_wp2_with fail
  refine (rsize_any t _).mono ?_
  rintro e w1 ⟨rfl, rfl⟩
  go_wp2_with fail
  refine ⟨W.heap.size, brefl W.drew, Nat.le_refl _, ?_⟩
  by_cases h4 : (l.length : Int) = c * szT t
  case neg =>
    have d4 : ((l.length : Int) != c * szT t) = true := by simpa using h4
    have HK := Lib.hid (HKF.out (fun h => h4 h.2.2.2.1))
    clear h1 h2 h3 h4
    refine Tin.reg_quiets [23, 24, 25] _ 0 rfl (by simp only [Tin.pick, List.map_cons, List.map_nil, Array.getD_eq_getD_getElem?, List.getElem?_toArray, List.getElem?_cons_zero, List.getElem?_cons_succ, Option.getD_some]; rfl) (by kernel_rfl) (by kernel_rfl) ?_
    repeat (first | go_big_quiet_step (fail))
    refine wpQuiet_nil ?_
    refine Tin.reg_done (by kernel_rfl) ?_
    go_wp2_with fail
    go_ret
    exact ⟨by rw [HK.out]; rfl, HB2.out⟩
  have d4 : ((l.length : Int) != c * szT t) = false := by simpa using h4
  have hl1 : 1 ≤ l.length := by
    rcases HSc.out with ⟨h, _⟩ | ⟨_, _, h | h | h | h⟩
    · exact absurd h h1
    all_goals rw [h] at h4; omega
  refine Tin.reg_quiets [23, 24, 25] _ 0 rfl (by simp only [Tin.pick, List.map_cons, List.map_nil, Array.getD_eq_getD_getElem?, List.getElem?_toArray, List.getElem?_cons_zero, List.getElem?_cons_succ, Option.getD_some]; rfl) (by kernel_rfl) (by kernel_rfl) ?_
  repeat (first | go_big_quiet_step (fail))
  refine wpQuiet_nil ?_
  refine Tin.reg_done (by kernel_rfl) ?_
  have HK3 := Lib.hid (show (t ≠ 2 → mayV t c l = true) ∧ (t = 2 → mayV t c l = txB l) from ⟨fun h5 => HK2.out.2 ⟨h1, by omega, by omega, h4, fun h => absurd h h5⟩, fun h5 => by
    cases hx : txB l with
    | true => exact HK2.out.2 ⟨h1, by omega, by omega, h4, fun _ => hx⟩
    | false => exact HKF.out (fun h => by rw [h.2.2.2.2 h5] at hx; cases hx)⟩)
  have HTX := Lib.hid (tx_iff (l := l) (by omega))
  clear h1 h2 h3 h4 d1 d2 d3 d4 kb0 kb1 kb2 p0 p1 HP
  go_wp2_with fail
  have HS0 := Lib.hid (show Below W.heap.size W W.drew from ud' (brefl W))
  go_loopw [3] (fun s3 wr => ∃ i : Nat, i ≤ l.length ∧ s3 = .int .i64 (i : Int) ∧ (t ≠ 2 → i = 0) ∧ (∀ j, j < i → (nth l j = 0 ↔ j + 1 = l.length)) ∧ Below W.heap.size W wr) (fun s3 _ => l.length - (intOf s3).toNat)
  case atStart => exact ⟨0, by omega, rfl, fun _ => rfl, fun j hj => by omega, HS0.out⟩
  case round =>
    obtain ⟨i, hi, rfl, ht0, hev, hb⟩ := hrel
    have HT0 := Lib.hid ht0
    have HEV := Lib.hid hev
    have HB := Lib.hid hb
    clear ht0 hev hb
    have k0 := HCL.out _ HB.out 0 _ rfl
    have k2 := HCL.out _ HB.out 2 _ rfl
    by_cases h5 : t = 2
    case neg =>
      have hi0 := HT0.out h5
      subst hi0
      have d5 : (t == 2) = false := by simpa using h5
      have i1 : (0 : Int) < (l.length : Int) := by omega
      have HK := Lib.hid (HK3.out.1 h5)
      clear h5
      go_wp2_with fail
      go_ret
      exact ⟨by rw [HK.out]; rfl, HBX.out.trans (HB.out.mono HBX.out.size)⟩
    have d5 : (t == 2) = true := by simpa using h5
    by_cases hil : i < l.length
    case neg =>
      obtain rfl : i = l.length := by omega
      have HK := Lib.hid ((HK3.out.2 h5).trans (HTX.out.2 HEV.out))
      clear h5
      go_wp2_with fail
      go_ret
      exact ⟨by rw [HK.out]; rfl, HBX.out.trans (HB.out.mono HBX.out.size)⟩
    have i1 : (i : Int) < (l.length : Int) := by omega
    obtain ⟨b, off, rfl, hbl, hcl⟩ := HS.out.at_ (by omega)
    have kb2 : ∀ p : Bel W.heap.size wr.drew, p.w'.cell? ⟨w.heap.size, 2, none⟩ = some (.slice (some ⟨b, off, none⟩) l.length cap) := fun p => HCL.out _ (HB.out.trans (ud p.h)) 2 _ rfl
    have kx : ∀ p : Bel W.heap.size wr.drew, p.w'.cell? ⟨b, off + i, none⟩ = some (.int .u8 (nth l i)) := fun p => ((HB.out.trans (ud p.h)).cell (p := ⟨b, off + i, none⟩) hbl).trans (hcl i hil)
    have hj : (0 : Int) ≤ (l.length : Int) - 1 := by omega
    by_cases hx : (nth l i = 0 ↔ i + 1 = l.length)
    · have HX := Lib.hid (show (!((nth l i == 0) == ((i : Int) == (l.length : Int) - 1))) = false by
        have : (nth l i == 0) = ((i : Int) == (l.length : Int) - 1) := by
          rw [Bool.eq_iff_iff]
          simp only [beq_iff_eq]
          rw [hx]
          omega
        rw [this]
        simp)
      have hx' := HX.out
      have HXI := Lib.hid hx
      clear h5 hx hcl
      generalize nth l i = X at kx hx'
      go_wp2_with fail
      refine Tin.reg_begin W.heap.size 13 (by rfl) (by kernel_rfl) ?_
      refine Tin.reg_quiets [0, 1, 2, 3, 4, 5, 6, 7, 8, 9, 10, 11, 12] _ 0 rfl (by simp only [Tin.pick, List.map_cons, List.map_nil, Array.getD_eq_getD_getElem?, List.getElem?_toArray, List.getElem?_cons_zero, List.getElem?_cons_succ, Option.getD_some]; rfl) (by kernel_rfl) (by kernel_rfl) ?_
      repeat (first | go_big_quiet_step (fail))
      refine wpQuiet_nil ?_
      refine Tin.reg_done (by kernel_rfl) ?_
      go_wp2_with fail
      go_roundw
      case rel => exact ⟨i + 1, by omega, by go_num, (fun h => absurd (by simpa using d5) h), (fun j hj => by
        by_cases hji : j = i
        · subst hji; exact HXI.out
        · exact HEV.out j (by omega)), ud' HB.out⟩
      case measure => simp [intOf]; omega
    · have hx' : (!((nth l i == 0) == ((i : Int) == (l.length : Int) - 1))) = true := by
        have : ¬ (nth l i == 0) = ((i : Int) == (l.length : Int) - 1) := by
          rw [Bool.eq_iff_iff]
          simp only [beq_iff_eq]
          intro h
          apply hx
          rw [h]
          omega
        simpa using this
      have HK := Lib.hid (show mayV t c l = false by
        rw [HK3.out.2 h5]
        cases hh : txB l with
        | false => rfl
        | true => exact absurd (HTX.out.1 hh i hil) hx)
      clear h5 hx hcl
      generalize nth l i = X at kx hx'
      go_wp2_with fail
      refine Tin.reg_begin W.heap.size 13 (by rfl) (by kernel_rfl) ?_
      refine Tin.reg_quiets [0, 1, 2, 3, 4, 5, 6, 7, 8, 9, 10, 11, 12] _ 0 rfl (by simp only [Tin.pick, List.map_cons, List.map_nil, Array.getD_eq_getD_getElem?, List.getElem?_toArray, List.getElem?_cons_zero, List.getElem?_cons_succ, Option.getD_some]; rfl) (by kernel_rfl) (by kernel_rfl) ?_
      repeat (first | go_big_quiet_step (fail))
      refine wpQuiet_nil ?_
      refine Tin.reg_done (by kernel_rfl) ?_
      go_wp2_with fail
      go_ret
      exact ⟨by rw [HK.out]; rfl, HBX.out.trans ((ud' HB.out).mono HBX.out.size)⟩
end Go.Proofs.Ytmdcdmgbillehaa
