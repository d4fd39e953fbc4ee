/- The contract of May. -/
import Derived.Test.YtmdcdmgbillehaaTyB
namespace Go.Proofs.Ytmdcdmgbillehaa
open Go.RowKit
open Go.Tin
set_option linter.unusedVariables false
set_option linter.unusedSimpArgs false


theorem ud {B : Nat} {w x : World} (h : Below B w.drew x) : Below B w x := ⟨h.os, h.tape, h.output, h.size, h.block⟩
theorem ud' {B : Nat} {w x : World} (h : Below B w x) : Below B w x.drew := ⟨h.os, h.tape, h.output, h.size, h.block⟩
theorem mayV_iff (t c : Int) (l : List Int) : mayV t c l = true ↔ (szT t ≠ 0 ∧ 1 ≤ c ∧ c ≤ 65536 ∧ (l.length : Int) = c * szT t ∧ (t = 2 → txB l = true)) := by
  unfold mayV
  simp only [Bool.and_eq_true, Bool.or_eq_true, decide_eq_true_eq]
  constructor
  · rintro ⟨h1, h2, h3, h4, h5⟩
    exact ⟨h1, h2, h3, h4, fun h => h5.resolve_left (fun hn => hn h)⟩
  · rintro ⟨h1, h2, h3, h4, h5⟩
    exact ⟨h1, h2, h3, h4, by by_cases h : t = 2; exact .inr (h5 h); exact .inl h⟩
theorem mayV_f {t c : Int} {l : List Int} (h : ¬ (szT t ≠ 0 ∧ 1 ≤ c ∧ c ≤ 65536 ∧ (l.length : Int) = c * szT t ∧ (t = 2 → txB l = true))) : mayV t c l = false := by
  rw [← mayV_iff] at h
  simpa using h
set_option maxRecDepth 100000 in
set_option maxHeartbeats 4000000 in
theorem vmay_any (t c : Int) (A : Option Addr) (l : List Int) (cap : Nat) (w : World) (hs : Sl .u8 w A l) (hl : l.length ≤ 1000000000) (hby : Byts l) :
    Calls Try.prog 32 #[.agg #[.int .i64 t, .int .i64 c, .slice A l.length cap]] w fun e w' => e = .returned (.bool (mayV t c l)) ∧ Below w.heap.size w w' := by
  have HBX := Lib.hid (ba (brefl w) (.cells #[.int .i64 t, .int .i64 c, .slice A l.length cap] 27))
  have HRX := Lib.hid (heap_alloc_new w (.cells #[.int .i64 t, .int .i64 c, .slice A l.length cap] 27))
  have HS := Lib.hid hs
  have HBY := Lib.hid hby
  clear hs hby
  have b0 := row_cell HRX.out 0 rfl
  go_enter Try.func32, Try.ntmps32
  go_wp2_with fail
  refine (of_any t _).mono ?_
  rintro e w1 ⟨rfl, hb⟩
  have HR1 := Lib.hid ((hb.block _ (row_lt HRX.out)).trans HRX.out)
  have HB1 := Lib.hid (HBX.out.trans (hb.mono HBX.out.size))
  clear hb HBX HRX b0
  have hlt : w.heap.size < w1.heap.size := row_lt HR1.out
  have HB2 := Lib.hid (ba HB1.out (.cells #[.int .i64 (szT t), .int .i64 (prT t), .int .i64 (isT t)] 58))
  have al := fun (j : Nat) (v : Value) (hv : w1.cell? ⟨w.heap.size, j, none⟩ = some v) => (World.cell?_alloc_lt w1 (.cells #[.int .i64 (szT t), .int .i64 (prT t), .int .i64 (isT t)] 58) ⟨w.heap.size, j, none⟩ hlt).trans hv
  have b0 := al 0 (.int .i64 t) (row_cell HR1.out 0 rfl)
  have b1 := al 1 (.int .i64 c) (row_cell HR1.out 1 rfl)
  have b2 := al 2 (.slice A l.length cap) (row_cell HR1.out 2 rfl)
  clear al
  have HSc := Lib.hid (szT_cases t)
  have HKF := Lib.hid (fun h => mayV_f (t := t) (c := c) (l := l) h)
  have HK2 := Lib.hid (mayV_iff t c l)
  by_cases h1 : szT t = 0
  · have d1 : (szT t == 0) = true := by simpa using h1
    have HK := Lib.hid (HKF.out (fun h => h.1 h1))
    clear h1
    go_wp2_with fail
    go_ret
    exact ⟨by rw [HK.out]; rfl, HB2.out⟩
  have d1 : (szT t == 0) = false := by simpa using h1
  by_cases h2 : c < 1
  · have d2 : decide (c < 1) = true := by simpa using h2
    have HK := Lib.hid (HKF.out (fun h => by omega))
    clear h1 h2
    go_wp2_with fail
    go_ret
    exact ⟨by rw [HK.out]; rfl, HB2.out⟩
  have d2 : decide (c < 1) = false := by simpa using h2
  by_cases h3 : 65536 < c
  · have d3 : decide (65536 < c) = true := by simpa using h3
    have HK := Lib.hid (HKF.out (fun h => by omega))
    clear h1 h2 h3
    go_wp2_with fail
    go_ret
    exact ⟨by rw [HK.out]; rfl, HB2.out⟩
  have d3 : decide (65536 < c) = false := by simpa using h3
  have HP := Lib.hid (show 0 ≤ c * szT t ∧ c * szT t ≤ 1000000 by
    rcases HSc.out with ⟨h, _⟩ | ⟨_, _, h | h | h | h⟩ <;> rw [h] <;> omega)
  have p0 := HP.out.1
  have p1 := HP.out.2
  by_cases h4 : (l.length : Int) = c * szT t
  case neg =>
    have d4 : ((l.length : Int) != c * szT t) = true := by simpa using h4
    have HK := Lib.hid (HKF.out (fun h => h4 h.2.2.2.1))
    clear h1 h2 h3 h4
    go_wp2_with fail
    go_ret
    exact ⟨by rw [HK.out]; rfl, HB2.out⟩
  have d4 : ((l.length : Int) != c * szT t) = false := by simpa using h4
  have hl1 : 1 ≤ l.length := by
    rcases HSc.out with ⟨h, _⟩ | ⟨_, _, h | h | h | h⟩
    · exact absurd h h1
    all_goals rw [h] at h4; omega
  by_cases h5 : t = 2
  case neg =>
    have d5 : (t != 2) = true := by simpa using h5
    have HK := Lib.hid (HK2.out.2 ⟨h1, by omega, by omega, h4, fun h => absurd h h5⟩)
    clear h1 h2 h3 h4 h5
    go_wp2_with fail
    generalize (w1.alloc (.cells #[.int .i64 (szT t), .int .i64 (prT t), .int .i64 (isT t)] 58)) = W at *
    have hltW : w.heap.size < W.heap.size := Nat.lt_of_not_le fun hh => by rw [World.cell?, Array.getElem?_eq_none hh] at b0; simp at b0
    have kb0 : ∀ p : Bel W.heap.size W.drew, p.w'.cell? ⟨w.heap.size, 0, none⟩ = some (.int .i64 t) := fun p => ((ud p.h).cell (p := ⟨w.heap.size, 0, none⟩) hltW).trans b0
    have kb2 : ∀ p : Bel W.heap.size W.drew, p.w'.cell? ⟨w.heap.size, 2, none⟩ = some (.slice A l.length cap) := fun p => ((ud p.h).cell (p := ⟨w.heap.size, 2, none⟩) hltW).trans b2
    refine Tin.reg_begin W.heap.size 14 (by rfl) (by kernel_rfl) ?_
    refine Tin.reg_quiets [0, 1, 2, 3, 4, 5, 7, 8, 9, 10] _ 4 rfl (by simp only [Tin.pick, List.map_cons, List.map_nil, Array.getD_eq_getD_getElem?, List.getElem?_toArray, List.getElem?_cons_zero, List.getElem?_cons_succ, Option.getD_some]; rfl) (by kernel_rfl) (by kernel_rfl) ?_
    repeat (first | go_big_quiet_step (fail))
    refine wpQuiet_nil ?_
    refine Tin.reg_one 6 _ rfl (by kernel_rfl) ?_
    try simp only [List.getElem_toArray, List.getElem_cons_succ, List.getElem_cons_zero]
    go_wp2_with fail
    refine ⟨W.heap.size, brefl W.drew, Nat.le_refl _, ?_⟩
    refine Tin.reg_quiets [11, 12, 13] _ 0 rfl (by simp only [Tin.pick, List.map_cons, List.map_nil, Array.getD_eq_getD_getElem?, List.getElem?_toArray, List.getElem?_cons_zero, List.getElem?_cons_succ, Option.getD_some]; rfl) (by kernel_rfl) (by kernel_rfl) ?_
    repeat (first | go_big_quiet_step (fail))
    refine wpQuiet_nil ?_
    refine Tin.reg_done (by kernel_rfl) ?_
    go_wp2_with fail
    go_ret
    exact ⟨by rw [HK.out]; rfl, ud' HB2.out⟩
  have d5 : (t != 2) = false := by simpa using h5
  have HK := Lib.hid (show mayV t c l = decide (ix0 l = (l.length : Int) - 1) by
    have h6 := HK2.out
    cases hm : mayV t c l with
    | true => exact (h6.1 hm |>.2.2.2.2 h5).symm
    | false =>
      have : ¬ txB l = true := fun hx => by
        have := h6.2 ⟨h1, by omega, by omega, h4, fun _ => hx⟩
        rw [hm] at this
        cases this
      unfold txB at this
      simpa using this)
  have HX := Lib.hid (ix0_bd l)
  clear h1 h2 h3 h4 h5
  go_wp2_with fail
  generalize (w1.alloc (.cells #[.int .i64 (szT t), .int .i64 (prT t), .int .i64 (isT t)] 58)) = W at *
  have hltW : w.heap.size < W.heap.size := Nat.lt_of_not_le fun hh => by rw [World.cell?, Array.getElem?_eq_none hh] at b0; simp at b0
  have kb0 : ∀ p : Bel W.heap.size W.drew, p.w'.cell? ⟨w.heap.size, 0, none⟩ = some (.int .i64 t) := fun p => ((ud p.h).cell (p := ⟨w.heap.size, 0, none⟩) hltW).trans b0
  have kb2 : ∀ p : Bel W.heap.size W.drew, p.w'.cell? ⟨w.heap.size, 2, none⟩ = some (.slice A l.length cap) := fun p => ((ud p.h).cell (p := ⟨w.heap.size, 2, none⟩) hltW).trans b2
  have HSW := Lib.hid (HS.out.keep (ud' HB2.out))
  refine Tin.reg_begin W.heap.size 14 (by rfl) (by kernel_rfl) ?_
  refine Tin.reg_quiets [0, 1, 2, 3, 4, 5, 7, 8, 9, 10] _ 4 rfl (by simp only [Tin.pick, List.map_cons, List.map_nil, Array.getD_eq_getD_getElem?, List.getElem?_toArray, List.getElem?_cons_zero, List.getElem?_cons_succ, Option.getD_some]; rfl) (by kernel_rfl) (by kernel_rfl) ?_
  repeat (first | go_big_quiet_step (fail))
  refine wpQuiet_nil ?_
  refine Tin.reg_one 6 _ rfl (by kernel_rfl) ?_
  try simp only [List.getElem_toArray, List.getElem_cons_succ, List.getElem_cons_zero]
  go_wp2_with fail
  refine (ixb_any A l cap _ HSW.out HBY.out).mono ?_
  rintro e w2 ⟨rfl, rfl⟩
  go_wp2_with fail
  refine ⟨W.heap.size, brefl W.drew, Nat.le_refl _, ?_⟩
  refine Tin.reg_quiets [11, 12, 13] _ 0 rfl (by simp only [Tin.pick, List.map_cons, List.map_nil, Array.getD_eq_getD_getElem?, List.getElem?_toArray, List.getElem?_cons_zero, List.getElem?_cons_succ, Option.getD_some]; rfl) (by kernel_rfl) (by kernel_rfl) ?_
  repeat (first | go_big_quiet_step (fail))
  refine wpQuiet_nil ?_
  refine Tin.reg_done (by kernel_rfl) ?_
  go_wp2_with fail
  go_ret
  exact ⟨by rw [HK.out]; rfl, ud' HB2.out⟩
end Go.Proofs.Ytmdcdmgbillehaa
