/- The walk of CosineNear. -/
import Derived.Test.YtmfipjpmfigjaaaCnS
import Derived.Test.YtmfipjpmfigjaaaCnA
namespace Go.Proofs.Ytmfipjpmfigjaaa
open Go.RowKit
open Go.Tin
set_option linter.unusedVariables false
set_option linter.unusedSimpArgs false


set_option maxRecDepth 100000 in
set_option maxHeartbeats 4000000 in
theorem near_any (l : List Int) (w : World) (hl : l.length = 64) (hw : ∀ z ∈ l, (Lit.int .i64 z).wf = true) : Calls Try.prog 5 #[.agg (arr .i64 l)] w fun e w' => e = .returned (.bool true) ∧ Below w.heap.size w w' := by
  clear hw
  have HL := Lib.hid hl
  have FW := forward_any
  go_enter Try.func5, Try.ntmps5
  have q0 := heap_alloc_new w (.cells (arr .i64 l) 26)
  have hB := ba (brefl w) (.cells (arr .i64 l) 26)
  have e0 : w.heap.size < (w.alloc (.cells (arr .i64 l) 26)).heap.size := by simp
  have H0 := Lib.hid q0
  clear q0
  go_wp2_with ((with_reducible refine wpl_load_row rt26 ?_ (.tmp 1) rfl (w.heap.size) rfl 26 _ ?_ H0.out ?_); rfl; simp [HL.out]; simp only [Act.put, List.setIfInBounds_toArray, List.set_cons_succ, List.set_cons_zero])
  generalize w.alloc _ = W0 at *
  refine Calls.mono (samples_any l hl W0) ?_
  rintro e w0 ⟨rfl, hb0⟩
  replace H0 := Lib.hid ((hb0.block _ e0).trans H0.out)
  replace e0 := Nat.lt_of_lt_of_le e0 hb0.size
  replace hB := bt hB hb0
  by_cases hany : l.any outB = true
  · rw [hany]
    go_wp2_with fail
    refine Calls.mono (awake_any _) ?_
    rintro e wz ⟨rfl, hbz⟩
    go_wp2_with fail
    go_ret
    exact ⟨rfl, bt hB hbz⟩
  · have hno : l.any outB = false := by simpa using hany
    clear hany
    rw [hno]
    obtain ⟨hC, hE, -, -⟩ := of_samples l hno
    have hbd := out_bd l hno
    have HBd := Lib.hid hbd
    have CL := Lib.hid (full_len 64 (refF fwdF l))
    have HT := Lib.hid (fun u v hu hv => near_tests l hbd _ rfl u v hu hv)
    clear hbd hno
    generalize hCdef : full 64 (refF fwdF l) = C at *
    clear hCdef
    go_wp2_with ((with_reducible refine wpl_load_row rt26 ?_ (.tmp 1) rfl (w.heap.size) rfl 26 _ ?_ H0.out ?_); rfl; simp [HL.out]; simp only [Act.put, List.setIfInBounds_toArray, List.set_cons_succ, List.set_cons_zero])
    refine Calls.mono (FW l hl _) ?_
    rw [hC, hE]
    clear hC hE FW hl
    rintro e w1 ⟨rfl, hb1⟩
    replace H0 := Lib.hid ((hb1.block _ e0).trans H0.out)
    replace e0 := Nat.lt_of_lt_of_le e0 hb1.size
    replace hB := bt hB hb1
    clear hb0 hb1
    go_wp2_with (with_reducible refine wpl_store_arr at26 rfl (.tmp 3) (.tmp 26) rfl w1.heap.size rfl rfl 26 (CL.out) _ rfl (heap_alloc_new _ _) ?_; intro w1x hrx hgx hsx; have hbx : Below w1.heap.size w1 w1x := (ba (brefl w1) _).grown hgx (by simp) (fun k hk => by cases hk; exact Nat.le_refl _); have e3 : w1.heap.size < w1x.heap.size := (by rw [hsx]; simp); replace H0 := Lib.hid ((hbx.block _ e0).trans H0.out); replace e0 := Nat.lt_of_lt_of_le e0 hbx.size; replace hB := bt hB hbx; have K3 := Lib.hid hrx; clear hrx hgx hsx hbx; simp only [Act.put])
    generalize hg3 : w1.heap.size = g3 at *
    have hbr := brefl w1x
    go_loopw [5] (fun s5 wr => ∃ (v : Nat), v ≤ 8 ∧ s5 = .int .i64 (v : Int) ∧ Below w1x.heap.size w1x wr) (fun s5 _ => 8 - (intOf s5).toNat)
    case atStart => exact ⟨0, by omega, rfl, hbr⟩
    case round =>
      clear hbr
      obtain ⟨v, hv, rfl, hbv⟩ := hrel
      by_cases hv8 : v < 8
      · have v1 : (v : Int) < 8 := by omega
        go_wp2_with fail
        go_loopw [6] (fun s6 wr => ∃ (u : Nat), u ≤ 8 ∧ s6 = .int .i64 (u : Int) ∧ Below w1x.heap.size w1x wr) (fun s6 _ => 8 - (intOf s6).toNat)
        case atStart => exact ⟨0, by omega, rfl, hbv⟩
        case round =>
          clear hbv
          obtain ⟨u, hu, rfl, hbu⟩ := hrel
          by_cases hu8 : u < 8
          · have u1 : (u : Int) < 8 := by omega
            go_wp2_with fail
            go_loopw [7, 8, 9] (fun s7 s8 s9 wr => ∃ (y : Nat), y ≤ 8 ∧ s7 = .int .i64 (sumLo l u v y) ∧ s8 = .int .i64 (sumHi l u v y) ∧ s9 = .int .i64 (y : Int) ∧ Below w1x.heap.size w1x wr) (fun _ _ s9 _ => 8 - (intOf s9).toNat)
            case atStart => exact ⟨0, by omega, rfl, rfl, rfl, hbu⟩
            case round =>
              clear hbu
              obtain ⟨y, hy, rfl, rfl, rfl, hby⟩ := hrel
              have hs := sum_bd l HBd.out u v y hu8 hv8 hy
              obtain ⟨⟨p1, p2⟩, p3, p4⟩ := hs
              by_cases hy8 : y < 8
              · have y1 : (y : Int) < 8 := by omega
                go_wp2_with fail
                go_loopw [7, 8, 10] (fun s7 s8 s10 wr => ∃ (x : Nat), x ≤ 8 ∧ s7 = .int .i64 (sumLo l u v y + rowLo l u v y x) ∧ s8 = .int .i64 (sumHi l u v y + rowHi l u v y x) ∧ s10 = .int .i64 (x : Int) ∧ Below w1x.heap.size w1x wr) (fun _ _ s10 _ => 8 - (intOf s10).toNat)
                case atStart => exact ⟨0, by omega, by simp [rowLo, S], by simp [rowHi, S], rfl, hby⟩
                case round =>
                  clear hby
                  obtain ⟨x, hx, rfl, rfl, rfl, hbx⟩ := hrel
                  have hr := row_bd l HBd.out u v y x hu8 hv8 hy8 hx
                  obtain ⟨⟨r1, r2⟩, r3, r4⟩ := hr
                  by_cases hx8 : x < 8
                  · have x1 : (x : Int) < 8 := by omega
                    have hT := loT_bd l HBd.out u v x y hu8 hv8 hx8 hy8
                    have hM := term_bd _ (HBd.out (8 * y + x)) u v x y hu8 hv8 hx8 hy8
                    have hI := term_if l u v x y
                    have HN := Lib.hid (row_next l u v y x)
                    obtain ⟨⟨t1, t2⟩, t3, t4⟩ := hT
                    rw [hI.1] at t1 t2
                    rw [hI.2] at t3 t4
                    have HI := Lib.hid hI
                    clear hI
                    have hd1 := half_bd u hu8 x hx8
                    have hd2 := half_bd v hv8 y hy8
                    obtain ⟨n1, n2, -⟩ := hd1
                    obtain ⟨n3, n4, -⟩ := hd2
                    have hh := HBd.out (8 * y + x)
                    obtain ⟨z1, z2⟩ := hh
                    unfold least1 most1 at hM t1 t2 t3 t4
                    obtain ⟨⟨m1, m2⟩, ⟨m3, m4⟩, ⟨m5, m6⟩, ⟨m7, m8⟩, ⟨m9, m10⟩, m11, m12⟩ := hM
                    go_wp2_with fail
                    refine Calls.mono (half_any u x hu8 hx8 _) ?_
                    rintro e wa ⟨rfl, hba⟩
                    replace hbx := bt hbx hba
                    go_wp2_with fail
                    refine Calls.mono (half_any v y hv8 hy8 _) ?_
                    rintro e wb ⟨rfl, hbb⟩
                    replace hbx := bt hbx hbb
                    have k0 : wb.cell? ⟨w.heap.size, 8 * y + x, none⟩ = some (.int .i64 (nth l (8 * y + x))) := (hbx.cell (p := ⟨w.heap.size, 8 * y + x, none⟩) e0).trans (blk_cell H0.out (8 * y + x) (by rw [HL.out]; omega))
                    go_wp2_with fail
                    go_roundw
                    case rel => exact ⟨x + 1, by omega, by rw [HN.out.1, Int.add_assoc]; rfl, by rw [HN.out.2, Int.add_assoc]; rfl, by go_num, hbx⟩
                    case measure => simp [intOf]; omega
                  · obtain rfl : x = 8 := by omega
                    have HN := Lib.hid (sum_next l u v y)
                    go_wp2_with fail
                    go_roundw
                    case rel => exact ⟨y + 1, by omega, by rw [HN.out.1], by rw [HN.out.2], by go_num, hbx⟩
                    case measure => simp [intOf]; omega
              · obtain rfl : y = 8 := by omega
                have hq := HT.out u v hu8 hv8
                obtain ⟨q1, q2, q3, q4, q5, q6⟩ := hq
                have k3 : wr.cell? ⟨g3, 8 * v + u, none⟩ = some (.int .i64 (nth C (8 * v + u))) := (hby.cell (p := ⟨g3, 8 * v + u, none⟩) e3).trans (blk_cell K3.out (8 * v + u) (by rw [CL.out]; omega))
                generalize sumLo l u v 8 = A at *
                generalize sumHi l u v 8 = B at *
                generalize nth C (8 * v + u) = c at *
                have d1 : decide (c < -1024) = false := decide_eq_false (by omega)
                have d2 : decide (1023 < c) = false := decide_eq_false (by omega)
                have d6 : decide (8 * B + 500000000000000 < 8 * c * 100000000000000) = false := decide_eq_false (by omega)
                have d7 : decide (8 * c * 100000000000000 < 8 * A - 500000000000000) = false := decide_eq_false (by omega)
                by_cases huv : u + v = 0
                · have d3 : decide (1016 < c) = false := decide_eq_false (by have := q3 huv; omega)
                  have f3 : ((u : Int) + (v : Int) == 0) = true := by simp; omega
                  have f4 : decide (0 < (u : Int) + (v : Int)) = false := decide_eq_false (by omega)
                  clear q3 q4 q5 q6
                  go_wp2_with fail
                  go_roundw
                  case rel => exact ⟨u + 1, by omega, by go_num, hby⟩
                  case measure => simp [intOf]; omega
                · have f3 : ((u : Int) + (v : Int) == 0) = false := by simp; omega
                  have f4 : decide (0 < (u : Int) + (v : Int)) = true := decide_eq_true (by omega)
                  have d5 : decide (c < -1023) = false := decide_eq_false (by have := q4 (by omega); omega)
                  clear q3 q4 q5 q6
                  go_wp2_with fail
                  go_roundw
                  case rel => exact ⟨u + 1, by omega, by go_num, hby⟩
                  case measure => simp [intOf]; omega
          · obtain rfl : u = 8 := by omega
            go_wp2_with fail
            go_roundw
            case rel => exact ⟨v + 1, by omega, by go_num, hbu⟩
            case measure => simp [intOf]; omega
      · obtain rfl : v = 8 := by omega
        replace hB := bt hB hbv
        go_wp2_with fail
        refine Calls.mono (awake_any _) ?_
        rintro e wz ⟨rfl, hbz⟩
        go_wp2_with fail
        go_ret
        exact ⟨rfl, bt hB hbz⟩
end Go.Proofs.Ytmfipjpmfigjaaa
