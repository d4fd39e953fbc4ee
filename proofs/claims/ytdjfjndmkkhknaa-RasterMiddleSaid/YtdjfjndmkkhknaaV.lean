/- The walk of RasterMiddle. -/
import Derived.Test.YtdjfjndmkkhknaaU
namespace Go.Proofs.Ytdjfjndmkkhknaa
open Go.RowKit
open Go.Tin
set_option linter.unusedVariables false
set_option linter.unusedSimpArgs false

theorem fit_laws {w h u v : Int} (hw : 1 ≤ w) (hh : 1 ≤ h) (hu : 1 ≤ u) (hv : 1 ≤ v) : 1 ≤ fitA w h u v ∧ fitA w h u v ≤ min u w ∧ 1 ≤ fitB w h u v ∧ fitB w h u v ≤ min v h ∧ (fitA w h u v = min u w ∨ fitB w h u v = min v h) := by
  unfold fitA fitB
  by_cases h1 : w ≤ u ∧ h ≤ v
  · rw [if_pos h1, if_pos h1]
    omega
  · rw [if_neg h1, if_neg h1]
    by_cases h2 : h * u ≤ w * v
    · rw [if_pos h2, if_pos h2]
      have huw : u ≤ w := by
        refine Int.not_lt.1 fun hlt => h1 ⟨by omega, Int.not_lt.1 fun hvh => ?_⟩
        have e1 : h * w < h * u := Int.mul_lt_mul_of_pos_left hlt (by omega)
        have e2 : w * v ≤ w * h := Int.mul_le_mul_of_nonneg_left (by omega) (by omega)
        rw [Int.mul_comm w h] at e2
        omega
      have d1 : h * u / w ≤ h := by
        have : h * u / w ≤ h * w / w := Int.ediv_le_ediv (by omega) (Int.mul_le_mul_of_nonneg_left huw (by omega))
        rwa [Int.mul_ediv_cancel _ (by omega)] at this
      have d2 : h * u / w ≤ v := by
        have : h * u / w ≤ w * v / w := Int.ediv_le_ediv (by omega) h2
        rwa [Int.mul_ediv_cancel_left _ (by omega)] at this
      omega
    · rw [if_neg h2, if_neg h2]
      have hvh : v ≤ h := by
        refine Int.not_lt.1 fun hlt => h1 ⟨Int.not_lt.1 fun huw => ?_, by omega⟩
        have e1 : w * h < w * v := Int.mul_lt_mul_of_pos_left hlt (by omega)
        have e2 : h * u ≤ h * w := Int.mul_le_mul_of_nonneg_left (by omega) (by omega)
        rw [Int.mul_comm h w] at e2
        omega
      have d1 : w * v / h ≤ w := by
        have : w * v / h ≤ w * h / h := Int.ediv_le_ediv (by omega) (Int.mul_le_mul_of_nonneg_left hvh (by omega))
        rwa [Int.mul_ediv_cancel _ (by omega)] at this
      have d2 : w * v / h ≤ u := by
        have : w * v / h ≤ h * u / h := Int.ediv_le_ediv (by omega) (by omega)
        rwa [Int.mul_ediv_cancel_left _ (by omega)] at this
      omega
/-- The middle of numbers lies between the least and the greatest. -/
theorem mean_mid {lo hi S n : Int} (hn : 0 < n) (h1 : lo * n ≤ S) (h2 : S ≤ hi * n) : lo ≤ (2 * S + n) / (2 * n) ∧ (2 * S + n) / (2 * n) ≤ hi := by
  have e1 : lo * (2 * n) = 2 * (lo * n) := by rw [← Int.mul_assoc, Int.mul_comm lo 2, Int.mul_assoc]
  have e2 : (hi + 1) * (2 * n) = 2 * (hi * n) + 2 * n := by rw [Int.add_mul, Int.one_mul, ← Int.mul_assoc, Int.mul_comm hi 2, Int.mul_assoc]
  constructor
  · exact (Int.le_ediv_iff_mul_le (by omega)).2 (by omega)
  · have : (2 * S + n) / (2 * n) < hi + 1 := Int.ediv_lt_of_lt_mul (by omega) (by omega)
    omega
theorem lo_next {lo S v n : Int} (hn : 0 ≤ n) (h : lo * n ≤ S) : min lo v * (n + 1) ≤ S + v := by
  rw [Int.mul_add, Int.mul_one]
  have h1 : min lo v * n ≤ lo * n := Int.mul_le_mul_of_nonneg_right (Int.min_le_left _ _) hn
  omega
theorem hi_next {hi S v n : Int} (hn : 0 ≤ n) (h : S ≤ hi * n) : S + v ≤ max hi v * (n + 1) := by
  rw [Int.mul_add, Int.mul_one]
  have h1 : hi * n ≤ max hi v * n := Int.mul_le_mul_of_nonneg_right (Int.le_max_left _ _) hn
  omega
/-- What is known of the least and the greatest number so far. -/
def Mid (lo hi S n : Int) : Prop := (0 ≤ lo ∧ lo < 256) ∧ (0 ≤ hi ∧ hi < 256) ∧ lo * n ≤ S ∧ S ≤ hi * n
theorem Mid.start : Mid 255 0 0 0 := ⟨by omega, by omega, by omega, by omega⟩
theorem Mid.next {lo hi S n v : Int} (h : Mid lo hi S n) (hn : 0 ≤ n) (hv : 0 ≤ v ∧ v < 256) : Mid (min lo v) (max hi v) (S + v) (n + 1) := by
  obtain ⟨h1, h2, h3, h4⟩ := h
  exact ⟨by omega, by omega, lo_next hn h3, hi_next hn h4⟩

set_option maxRecDepth 100000 in
set_option maxHeartbeats 8000000 in
theorem middle_any (W H : Int) (A : Option Addr) (len cap : Nat) (zs : List Int) (a b : Int) (w : World) (wW : (Lit.int .i64 W).wf = true) (wH : (Lit.int .i64 H).wf = true) (hrow : IsRow .u8 w A len cap zs) (wa : (Lit.int .i64 a).wf = true) (wb : (Lit.int .i64 b).wf = true) :
    Calls Try.prog 6 #[.agg #[.int .i64 W, .int .i64 H, .slice A len cap], .int .i64 a, .int .i64 b] w fun e w' => e = .returned (.bool true) ∧ Below w.heap.size w w' := by
  obtain ⟨hsl, hln, hlc, hcm, hwf⟩ := Sl.of_row hrow
  have hby := byts_of hwf
  generalize zs.take len = l at *
  subst hln
  generalize cap = c at *
  have HS := Lib.hid hsl
  have HY := Lib.hid hby
  have hlm : l.length ≤ 9223372036854775807 := Nat.le_trans hlc (Nat.le_trans hcm (by decide))
  clear hrow hsl hby hwf wW wH wa wb hcm
  by_cases hm : mayB W H l.length = true
  · obtain ⟨P, Q, rfl, rfl, p1, p2, q1, q2, hlq⟩ := natSize hm
    have HLQ := Lib.hid hlq
    clear hlq
    go_enter Try.func6, Try.ntmps6
    have hB := ba (brefl w) (.cells #[.int .i64 (P : Int), .int .i64 (Q : Int), .slice A l.length c] 24)
    have lX : w.heap.size < (w.alloc (.cells #[.int .i64 (P : Int), .int .i64 (Q : Int), .slice A l.length c] 24)).heap.size := by simp
    have hrw := heap_alloc_new w (.cells #[.int .i64 (P : Int), .int .i64 (Q : Int), .slice A l.length c] 24)
    have k0 := row_cell hrw 0 rfl
    have k1 := row_cell hrw 1 rfl
    have k2 := row_cell hrw 2 rfl
    have HX := Lib.hid hrw
    clear hrw
    by_cases hbig : 3000 < (l.length : Int)
    · go_wp2_with fail
      refine Calls.mono (awake_any _) ?_
      rintro e wz ⟨rfl, hbz⟩
      go_wp2_with fail
      go_ret
      exact ⟨rfl, bt hB hbz⟩
    · by_cases ha : 60 < a
      · go_wp2_with fail
        refine Calls.mono (awake_any _) ?_
        rintro e wz ⟨rfl, hbz⟩
        go_wp2_with fail
        go_ret
        exact ⟨rfl, bt hB hbz⟩
      · by_cases hb : 60 < b
        · go_wp2_with fail
          refine Calls.mono (awake_any _) ?_
          rintro e wz ⟨rfl, hbz⟩
          go_wp2_with fail
          go_ret
          exact ⟨rfl, bt hB hbz⟩
        · by_cases ha1 : a < 1
          · go_wp2_with fail
            refine Calls.mono (awake_any _) ?_
            rintro e wz ⟨rfl, hbz⟩
            go_wp2_with fail
            go_ret
            exact ⟨rfl, bt hB hbz⟩
          · by_cases hb1 : b < 1
            · go_wp2_with fail
              refine Calls.mono (awake_any _) ?_
              rintro e wz ⟨rfl, hbz⟩
              go_wp2_with fail
              go_ret
              exact ⟨rfl, bt hB hbz⟩
            · go_wp2_with fail
              refine Calls.mono (may_any (P : Int) (Q : Int) A l.length c _) ?_
              rw [hm]
              rintro e w1 ⟨rfl, hb1⟩
              clear k0 k1 k2
              replace HX := Lib.hid ((hb1.block _ lX).trans HX.out)
              replace lX := Nat.lt_of_lt_of_le lX hb1.size
              replace hB := bt hB hb1
              have kX0 := row_cell HX.out 0 rfl
              have kX1 := row_cell HX.out 1 rfl
              go_wp2_with (first | ((with_reducible refine wpl_load_row rt24 ?_ (.tmp 3) rfl (w.heap.size) rfl 24 _ ?_ HX.out ?_); rfl; rfl; simp only [Act.put, List.setIfInBounds_toArray, List.set_cons_succ, List.set_cons_zero]))
              clear kX0 kX1
              rename_i Kr hKr Ko hKo
              have HKr := Lib.hid hKr
              clear hKr
              have o1 : okS (P : Int) = true := okS_mk (by omega) (by omega)
              have o2 : okS (Q : Int) = true := okS_mk (by omega) (by omega)
              have o3 : okS a = true := okS_mk (by omega) (by omega)
              have o4 : okS b = true := okS_mk (by omega) (by omega)
              have hfl := fit_laws (w := (P : Int)) (h := (Q : Int)) (u := a) (v := b) (by omega) (by omega) (by omega) (by omega)
              have hfit := fit_yes (P : Int) (Q : Int) a b w1 o1 o2 o3 o4
              generalize fitA (P : Int) (Q : Int) a b = FA at *
              generalize fitB (P : Int) (Q : Int) a b = FB at *
              obtain ⟨f1, f2, f3, f4, f5⟩ := hfl
              obtain ⟨m, rfl⟩ := Int.eq_ofNat_of_zero_le (show 0 ≤ FA by omega)
              obtain ⟨k, rfl⟩ := Int.eq_ofNat_of_zero_le (show 0 ≤ FB by omega)
              refine Calls.mono hfit ?_
              clear hfit o1 o2 o3 o4
              rintro e w2 ⟨rfl, hb2⟩
              have m1 : 1 ≤ m := by omega
              have k1 : 1 ≤ k := by omega
              have mP : m ≤ P := by omega
              have kQ : k ≤ Q := by omega
              have m60 : m ≤ 60 := by omega
              have k60 : k ≤ 60 := by omega
              replace HX := Lib.hid ((hb2.block _ lX).trans HX.out)
              replace lX := Nat.lt_of_lt_of_le lX hb2.size
              replace hB := bt hB hb2
              have K5 : (m : Int) = min a (P : Int) ∨ ((m : Int) < min a (P : Int) ∧ (k : Int) = min b (Q : Int)) := by omega
              clear f5
              have n1 : decide ((m : Int) < 1) = false := decide_eq_false (by omega)
              have n2 : decide ((k : Int) < 1) = false := decide_eq_false (by omega)
              have n3 : decide (min a (P : Int) < (m : Int)) = false := decide_eq_false (by omega)
              have n4 : decide (min b (Q : Int) < (k : Int)) = false := decide_eq_false (by omega)
              go_wp2_with fail
              refine HKr.out _ _ ?_
              clear HKr
              refine wp_seq_k fun K4 hK4 => ?_
              have HK4 := Lib.hid hK4
              clear hK4
              have tail4 : ∀ (u4 u5 u10 u11 u12 u13 u14 u15 u16 u17 u18 u19 u20 u21 u22 u23 u24 u25 u26 u27 u28 u29 u30 u31 u32 u33 u34 u35 u36 u37 u38 u39 u40 u41 u42 u43 u44 u45 u46 u47 u48 u49 u50 u51 u52 u53 u54 u55 u56 u57 u58 u59 u60 u61 u62 u63 u64 u65 u66 u67 u68 u69 u70 u71 u72 u73 u74 u75 u76 u77 u78 u79 u80 u81 u82 u83 u84 u85 u86 u87 u88 u89 u90 u91 u92 u93 u94 u95 u96 u97 u98 u99 u100 u101 u102 u103 u104 u105 u106 u107 u108 u109 u110 u111 u112 u113 u114 u115 u116 u117 u118 u119 u120 u121 u122 u123 u124 u125 u126 u127 u128 u129 u130 u131 u132 u133 u134 u135 u136 u137 u138 u139 u140 u141 u142 u143 u144 u145 u146 u147 u148 u149 u150 u151 u152 u153 u154 u155 u156 u157 u158 u159 u160 u161 u162 u163 u164 u165 u166 u167 u168 u169 u170 u171 u172 u173 u174 u175 u176 u177 u178 u179 u180 u181 u182 u183 u184 u185 u186 u187 u188 u189 u190 u191 u192 u193 u194 u195 u196 u197 u198 u199 u200 u201 u202 u203 u204 u205 u206 u207 u208 u209 u210 u211 u212 u213 u214 u215 u216 u217 u218 u219 : Value), K4 { tmps := #[.agg #[.int .i64 (P : Int), .int .i64 (Q : Int), .slice A l.length c], .int .i64 a, .int .i64 b, .pointer (some ⟨w.heap.size, 0, none⟩), u4, u5, .bool false, .int .i64 (m : Int), .int .i64 (k : Int), .int .i64 0, u10, u11, u12, u13, u14, u15, u16, u17, u18, u19, u20, u21, u22, u23, u24, u25, u26, u27, u28, u29, u30, u31, u32, u33, u34, u35, u36, u37, u38, u39, u40, u41, u42, u43, u44, u45, u46, u47, u48, u49, u50, u51, u52, u53, u54, u55, u56, u57, u58, u59, u60, u61, u62, u63, u64, u65, u66, u67, u68, u69, u70, u71, u72, u73, u74, u75, u76, u77, u78, u79, u80, u81, u82, u83, u84, u85, u86, u87, u88, u89, u90, u91, u92, u93, u94, u95, u96, u97, u98, u99, u100, u101, u102, u103, u104, u105, u106, u107, u108, u109, u110, u111, u112, u113, u114, u115, u116, u117, u118, u119, u120, u121, u122, u123, u124, u125, u126, u127, u128, u129, u130, u131, u132, u133, u134, u135, u136, u137, u138, u139, u140, u141, u142, u143, u144, u145, u146, u147, u148, u149, u150, u151, u152, u153, u154, u155, u156, u157, u158, u159, u160, u161, u162, u163, u164, u165, u166, u167, u168, u169, u170, u171, u172, u173, u174, u175, u176, u177, u178, u179, u180, u181, u182, u183, u184, u185, u186, u187, u188, u189, u190, u191, u192, u193, u194, u195, u196, u197, u198, u199, u200, u201, u202, u203, u204, u205, u206, u207, u208, u209, u210, u211, u212, u213, u214, u215, u216, u217, u218, u219], defers := [] } w2 := by
                intros
                refine HK4.out _ _ ?_
                clear HK4 K5 n1 n2 n3 n4 f1 f2 f3 f4
                have hcb : cutB (P : Int) (Q : Int) l.length (m : Int) (k : Int) = true := by
                  unfold cutB
                  rw [hm, okS_mk (by omega) (by omega), okS_mk (by omega) (by omega), decide_eq_true (by omega), decide_eq_true (by omega)]
                  rfl
                have hL : boxR l (P : Int) (Q : Int) (m : Int) (k : Int) = rows (boxT l P Q m k) m k := by unfold boxR; rw [if_pos hcb]; rfl
                have hbx := fun (Wd : World) (hb : Below w.heap.size w Wd) => box_ok (P : Int) (Q : Int) (m : Int) (k : Int) A l c Wd (HS.out.keep hb) hlc HY.out hcb
                rw [hL] at hbx
                have hLn : (rows (boxT l P Q m k) m k).length = 3 * m * k := rows_len _ (fun x y => boxT_len l P Q m k x y) m k
                have hLc := fun x y (hx : x < m) (hy : y < k) => col_rows (boxT l P Q m k) (fun x y => boxT_len l P Q m k x y) m k x y hx hy
                generalize rows (boxT l P Q m k) m k = L at *
                have hmb : mayB (m : Int) (k : Int) L.length = true := mayB_mk m k _ m1 (by omega) k1 (by omega) hLn
                have q3 : (L.length : Int) = 3 * (m : Int) * (k : Int) := by rw [hLn]; push_cast; rfl
                have q4 : ((L.length : Int) != 3 * (m : Int) * (k : Int)) = false := by simpa using q3
                have q5 : 0 ≤ 3 * (m : Int) * (k : Int) := by rw [← q3]; omega
                have q6 : 3 * (m : Int) * (k : Int) ≤ 10800 := by
                  rw [← q3, hLn]
                  have : 3 * m * k ≤ 180 * 60 := Nat.mul_le_mul (by omega) k60
                  omega
                have HBX := Lib.hid hbx
                have HLC := Lib.hid hLc
                have HMB := Lib.hid hmb
                clear hbx hLc q3 hLn hL hmb
                go_wp2_with (first | ((with_reducible refine wpl_load_row rt24 ?_ (.tmp 3) rfl (w.heap.size) rfl 24 _ ?_ HX.out ?_); rfl; rfl; simp only [Act.put, List.setIfInBounds_toArray, List.set_cons_succ, List.set_cons_zero]))
                refine Calls.mono (HBX.out _ hB) ?_
                rintro e w3 ⟨A10, c10, rfl, S10, hc10, hb3⟩
                replace HX := Lib.hid ((hb3.block _ lX).trans HX.out)
                replace lX := Nat.lt_of_lt_of_le lX hb3.size
                replace hB := bt hB hb3
                have hal := ba (brefl w3) (.cells #[.int .i64 (m : Int), .int .i64 (k : Int), .slice A10 L.length c10] 24)
                replace HX := Lib.hid ((hal.block _ lX).trans HX.out)
                replace S10 := S10.keep hal
                replace lX := Nat.lt_of_lt_of_le lX hal.size
                replace hB := bt hB hal
                have Hb := Lib.hid (heap_alloc_new w3 (.cells #[.int .i64 (m : Int), .int .i64 (k : Int), .slice A10 L.length c10] 24))
                have lb : w3.heap.size < (w3.alloc (.cells #[.int .i64 (m : Int), .int .i64 (k : Int), .slice A10 L.length c10] 24)).heap.size := by simp
                clear hal
                have kb0 := row_cell Hb.out 0 rfl
                have kb1 := row_cell Hb.out 1 rfl
                have kb2 := row_cell Hb.out 2 rfl
                go_wp2_with fail
                clear kb0 kb1 kb2 q4
                generalize hgg10 : w3.heap.size = g10 at *
                generalize w3.alloc _ = W3 at *
                have hbr := brefl W3
                go_loopw [12] (fun s12 wr => ∃ (y : Nat), y ≤ k ∧ s12 = .int .i64 (y : Int) ∧ Below W3.heap.size W3 wr) (fun s12 _ => k - (intOf s12).toNat)
                case atStart => exact ⟨0, by omega, rfl, hbr⟩
                case round =>
                  clear hbr
                  obtain ⟨y, hy, rfl, hy3⟩ := hrel
                  by_cases hyk : y < k
                  · have y1 : (y : Int) < (k : Int) := by omega
                    go_wp2_with fail
                    go_loopw [13] (fun s13 wr => ∃ (x : Nat), x ≤ m ∧ s13 = .int .i64 (x : Int) ∧ Below W3.heap.size W3 wr) (fun s13 _ => m - (intOf s13).toNat)
                    case atStart => exact ⟨0, by omega, rfl, hy3⟩
                    case round =>
                      clear hy3
                      obtain ⟨x, hx, rfl, hx3⟩ := hrel
                      by_cases hxm : x < m
                      · have x1 : (x : Int) < (m : Int) := by omega
                        have Hb3 := Lib.hid ((hx3.block _ lb).trans Hb.out)
                        have hat : atB (m : Int) (k : Int) (x : Int) (y : Int) L.length = true := by
                          unfold atB
                          rw [HMB.out, decide_eq_true (by omega), decide_eq_true (by omega), decide_eq_true x1, decide_eq_true y1]
                          rfl
                        have hca := rat_yes (m : Int) (k : Int) (x : Int) (y : Int) A10 L c10 wr (S10.keep hx3) hc10 hat
                        rw [HLC.out x y hxm hyk] at hca
                        have HCA := Lib.hid hca
                        clear hca hat
                        go_wp2_with ((with_reducible refine wpl_load_row rt24 ?_ (.tmp 10) rfl g10 rfl 24 _ ?_ Hb3.out ?_); rfl; rfl; simp only [Act.put, List.setIfInBounds_toArray, List.set_cons_succ, List.set_cons_zero])
                        refine Calls.mono HCA.out ?_
                        rintro e w4 ⟨rfl, hb4⟩
                        have hb34 := bt hx3 hb4
                        go_wp2_with (with_reducible refine wpl_store_arr at27 rfl (.tmp 14) (.tmp 148) rfl w4.heap.size rfl rfl 27 (boxT_len l P Q m k x y) _ rfl (heap_alloc_new _ _) ?_; intro w5 hr5 hg5 hs5; simp only [Act.put])
                        have hb5 : Below w4.heap.size w4 w5 := (ba (brefl w4) _).grown hg5 (by simp) (fun k hk => by cases hk; exact Nat.le_refl _)
                        have hb35 := bt hb34 hb5
                        have lc5 : w4.heap.size < w5.heap.size := by rw [hs5]; simp
                        have HC := Lib.hid hr5
                        clear HCA Hb3 hr5 hg5 hs5
                        generalize hgc : w4.heap.size = gc at *
                        have hbr5 := brefl w5
                        go_loopw [16] (fun s16 wr => ∃ (t : Nat), t ≤ 3 ∧ s16 = .int .i64 (t : Int) ∧ Below w5.heap.size w5 wr) (fun s16 _ => 3 - (intOf s16).toNat)
                        case atStart => exact ⟨0, by omega, rfl, hbr5⟩
                        case round =>
                          clear hbr5
                          obtain ⟨t, ht, rfl, ht5⟩ := hrel
                          by_cases ht3 : t < 3
                          · have t1 : (t : Int) < 3 := by omega
                            obtain ⟨xx1, xx2, xx3, xx4, ⟨xx5, xx6⟩, xx7, xx8⟩ := bx_facts hxm mP p2
                            obtain ⟨yy1, yy2, yy3, yy4, ⟨yy5, yy6⟩, yy7, yy8⟩ := bx_facts hyk kQ q2
                            have HMF := Lib.hid (boxT_nth l P Q m k x y t ht3)
                            have hN := mk_bd (bw x P m) (bw y Q k) xx1 yy1 (by omega) (by omega)
                            have hFE := Lib.hid (meanF_eq l (P : Int) (bx x P m) (bw x P m) (bx y Q k) (bw y Q k) t)
                            generalize hBx : bx x P m = bX at *
                            generalize hBw : bw x P m = mX at *
                            generalize hCx : bx y Q k = bY at *
                            generalize hCw : bw y Q k = mY at *
                            have X3 := Lib.hid xx3
                            have X4 := Lib.hid xx4
                            have Y3 := Lib.hid yy3
                            have Y4 := Lib.hid yy4
                            have xq : 0 ≤ (x : Int) * (P : Int) / (m : Int) ∧ (x : Int) * (P : Int) / (m : Int) ≤ 4096 := by rw [xx3]; omega
                            have yq : 0 ≤ (y : Int) * (Q : Int) / (k : Int) ∧ (y : Int) * (Q : Int) / (k : Int) ≤ 4096 := by rw [yy3]; omega
                            have xr : 0 ≤ ((x : Int) + 1) * (P : Int) / (m : Int) ∧ ((x : Int) + 1) * (P : Int) / (m : Int) ≤ 4096 := by rw [xx4]; omega
                            have yr : 0 ≤ ((y : Int) + 1) * (Q : Int) / (k : Int) ∧ ((y : Int) + 1) * (Q : Int) / (k : Int) ≤ 4096 := by rw [yy4]; omega
                            have xm : bX + mX ≤ 4096 := by omega
                            have ym : bY + mY ≤ 4096 := by omega
                            have m0 : 0 < (m : Int) := by omega
                            have k0 : 0 < (k : Int) := by omega
                            have mi : (m : Int) ≤ 60 := by omega
                            have ki : (k : Int) ≤ 60 := by omega
                            clear xx3 xx4 yy3 yy4
                            have hbw := bt hB (bt hb35 ht5)
                            have hXw := (( bt hb35 ht5).block _ lX).trans HX.out
                            have kX1 := row_cell hXw 1 rfl
                            clear hXw
                            go_wp2_with fail
                            clear kX1
                            have lgc := Nat.lt_of_lt_of_le lc5 ht5.size
                            have hrr := brefl wr
                            obtain ⟨w6, rfl⟩ : ∃ w6, w6 = wr := ⟨wr, rfl⟩
                            go_loopw [17, 18, 19] (fun s17 s18 s19 wr => ∃ (j : Nat) (lo hi : Int), j ≤ mY ∧ s17 = .int .u8 lo ∧ s18 = .int .u8 hi ∧ s19 = .int .i64 ((bY : Int) + (j : Int)) ∧ Mid lo hi (bsum l (P : Int) t bX mX bY j) ((mX : Int) * (j : Int)) ∧ Below w6.heap.size w6 wr) (fun _ _ s19 _ => mY + bY - (intOf s19).toNat)
                            case atStart => exact ⟨0, 255, 0, by omega, rfl, rfl, by rw [Y3.out]; simp, by simpa [bsum] using Mid.start, hrr⟩
                            case round =>
                              clear hrr
                              obtain ⟨j, lo, hi, hj, rfl, rfl, rfl, hM, hj6⟩ := hrel
                              have lXr := Nat.lt_of_lt_of_le lX (Nat.le_trans hb35.size ht5.size)
                              have hXr := Lib.hid ((hj6.block _ lXr).trans (((bt hb35 ht5).block _ lX).trans HX.out))
                              have q0 := row_cell hXr.out 0 rfl
                              have q1 := row_cell hXr.out 1 rfl
                              by_cases hjm : j < mY
                              · have j1 : (bY : Int) + (j : Int) < ((y : Int) + 1) * (Q : Int) / (k : Int) := by rw [Y4.out]; omega
                                go_wp2_with fail
                                clear q0 q1
                                obtain ⟨w7, rfl⟩ : ∃ w7, w7 = wr := ⟨wr, rfl⟩
                                go_loopw [17, 18, 20] (fun s17 s18 s20 wr => ∃ (i : Nat) (lo hi : Int), i ≤ mX ∧ s17 = .int .u8 lo ∧ s18 = .int .u8 hi ∧ s20 = .int .i64 ((bX : Int) + (i : Int)) ∧ Mid lo hi (bsum l (P : Int) t bX mX bY j + rsum l (P : Int) t (bY + j) bX i) ((mX : Int) * (j : Int) + (i : Int)) ∧ Below w6.heap.size w6 wr) (fun _ _ s20 _ => mX + bX - (intOf s20).toNat)
                                case atStart => exact ⟨0, lo, hi, by omega, rfl, rfl, by rw [X3.out]; simp, by simpa [rsum] using hM, hj6⟩
                                case round =>
                                  clear hM hj6 hXr
                                  obtain ⟨i, lo, hi, him, rfl, rfl, rfl, hM, hi6⟩ := hrel
                                  have hXr := Lib.hid ((hi6.block _ lXr).trans (((bt hb35 ht5).block _ lX).trans HX.out))
                                  have q0 := row_cell hXr.out 0 rfl
                                  have q1 := row_cell hXr.out 1 rfl
                                  by_cases hii : i < mX
                                  · have i1 : (bX : Int) + (i : Int) < ((x : Int) + 1) * (P : Int) / (m : Int) := by rw [X4.out]; omega
                                    have hbw7 := bt hbw hi6
                                    have hat : atB (P : Int) (Q : Int) ((bX : Int) + (i : Int)) ((bY : Int) + (j : Int)) l.length = true := by
                                      unfold atB
                                      rw [hm, decide_eq_true (by omega), decide_eq_true (by omega), decide_eq_true (by omega), decide_eq_true (by omega)]
                                      rfl
                                    have HCA := Lib.hid (rat_yes (P : Int) (Q : Int) ((bX : Int) + (i : Int)) ((bY : Int) + (j : Int)) A l c wr (HS.out.keep hbw7) hlc hat)
                                    have hv := HY.out (pp (P : Int) (bX + i) (bY + j) + t)
                                    have hlo := hM.1
                                    have hhi := hM.2.1
                                    clear hat
                                    go_wp2_with ((with_reducible refine wpl_load_row rt24 ?_ (.tmp 3) rfl w.heap.size rfl 24 _ ?_ hXr.out ?_); rfl; rfl; simp only [Act.put, List.setIfInBounds_toArray, List.set_cons_succ, List.set_cons_zero])
                                    clear q0 q1
                                    refine Calls.mono HCA.out ?_
                                    rintro e w8 ⟨rfl, hb8⟩
                                    go_wp2_with (with_reducible refine wpl_store_arr at27 rfl (.tmp 21) (.tmp 195) rfl w8.heap.size rfl rfl 27 (col_len l _) _ rfl (heap_alloc_new _ _) ?_; intro w9 hr9 hg9 hs9; simp only [Act.put])
                                    have hb9 : Below w8.heap.size w8 w9 := (ba (brefl w8) _).grown hg9 (by simp) (fun k hk => by cases hk; exact Nat.le_refl _)
                                    have hb69 := bt (bt hi6 hb8) hb9
                                    have ld : w8.heap.size < w9.heap.size := by rw [hs9]; simp
                                    have hcc : nth (col l (pos (P : Int) ((bX : Int) + (i : Int)) ((bY : Int) + (j : Int)))) t = nth l (pp (P : Int) (bX + i) (bY + j) + t) := by
                                      rcases (by omega : t = 0 ∨ t = 1 ∨ t = 2) with rfl | rfl | rfl <;> rfl
                                    have kd : ∀ p : Bel w9.heap.size w9.drew, p.w'.cell? ⟨w8.heap.size, t, none⟩ = some (.int .u8 (nth l (pp (P : Int) (bX + i) (bY + j) + t))) := fun p => by
                                      rw [← hcc]
                                      exact (p.h.cell (p := ⟨w8.heap.size, t, none⟩) ld).trans (blk_cell hr9 t (by rw [col_len]; exact ht3))
                                    clear hcc HCA hr9 hg9 hs9
                                    refine Tin.reg_begin w9.heap.size 12 (by rfl) (by kernel_rfl) ?_
                                    refine Tin.reg_quiets [0, 1, 2, 3, 4, 5, 6, 7, 8, 9, 10, 11] _ 0 rfl (by simp only [Tin.pick, List.map_cons, List.map_nil, Array.getD_eq_getD_getElem?, List.getElem?_toArray, List.getElem?_cons_zero, List.getElem?_cons_succ, Option.getD_some]; rfl) (by kernel_rfl) (by kernel_rfl) ?_
                                    repeat (first | go_big_quiet_step (fail))
                                    refine wpQuiet_nil ?_
                                    refine Tin.reg_done (by kernel_rfl) ?_
                                    go_wp2_with fail
                                    go_roundw
                                    case rel => exact ⟨i + 1, min lo _, max hi _, by omega, rfl, rfl, by go_num, by rw [rsum, ← Int.add_assoc, show ((i + 1 : Nat) : Int) = (i : Int) + 1 from rfl, ← Int.add_assoc]; exact hM.next (by have := Int.mul_nonneg (show (0 : Int) ≤ (mX : Int) by omega) (show (0 : Int) ≤ (j : Int) by omega); omega) hv, ⟨hb69.os, hb69.tape, hb69.output, hb69.size, hb69.block⟩⟩
                                    case measure => simp [intOf]; omega
                                  · obtain rfl : i = mX := by omega
                                    have i1 : ((x : Int) + 1) * (P : Int) / (m : Int) ≤ (bX : Int) + (i : Int) := by rw [X4.out]; omega
                                    go_wp2_with fail
                                    go_roundw
                                    case rel => exact ⟨j + 1, lo, hi, by omega, rfl, rfl, by go_num, by rw [bsum, show ((j + 1 : Nat) : Int) = (j : Int) + 1 from rfl, Int.mul_add, Int.mul_one]; exact hM, hi6⟩
                                    case measure => simp [intOf]; omega
                              · obtain rfl : j = mY := by omega
                                have j1 : ((y : Int) + 1) * (Q : Int) / (k : Int) ≤ (bY : Int) + (j : Int) := by rw [Y4.out]; omega
                                have hmid := mean_mid hN.1 hM.2.2.1 hM.2.2.2
                                rw [← hFE.out] at hmid
                                have hlo := hM.1
                                have hhi := hM.2.1
                                have kc : wr.cell? ⟨gc, t, none⟩ = some (.int .u8 (meanF l (P : Int) bX mX bY j t)) := by
                                  rw [← HMF.out]
                                  exact (hj6.cell (p := ⟨gc, t, none⟩) lgc).trans ((ht5.cell (p := ⟨gc, t, none⟩) lc5).trans (blk_cell HC.out t (by rw [boxT_len]; exact ht3)))
                                obtain ⟨md1, md2⟩ := hmid
                                generalize meanF l (P : Int) bX mX bY j t = F at *
                                go_wp2_with fail
                                go_roundw
                                case rel => exact ⟨t + 1, by omega, by go_num, bt ht5 hj6⟩
                                case measure => simp [intOf]; omega
                          · obtain rfl : t = 3 := by omega
                            go_wp2_with fail
                            go_roundw
                            case rel => exact ⟨x + 1, by omega, by go_num, bt hb35 ht5⟩
                            case measure => simp [intOf]; omega
                      · obtain rfl : x = m := by omega
                        go_wp2_with fail
                        go_roundw
                        case rel => exact ⟨y + 1, by omega, by go_num, hx3⟩
                        case measure => simp [intOf]; omega
                  · obtain rfl : y = k := by omega
                    replace hB := bt hB hy3
                    go_wp2_with fail
                    refine Calls.mono (awake_any _) ?_
                    rintro e wz ⟨rfl, hbz⟩
                    go_wp2_with fail
                    go_ret
                    exact ⟨rfl, bt hB hbz⟩
              have kX0 := row_cell HX.out 0 rfl
              have kX1 := row_cell HX.out 1 rfl
              rcases K5 with x5 | ⟨x5, x6⟩
              · have d5 : ((m : Int) != min a (P : Int)) = false := by simpa using x5
                clear x5
                go_wp2_with (first | ((with_reducible refine wpl_load_row rt24 ?_ (.tmp 3) rfl (w.heap.size) rfl 24 _ ?_ HX.out ?_); rfl; rfl; simp only [Act.put, List.setIfInBounds_toArray, List.set_cons_succ, List.set_cons_zero]))
                all_goals exact tail4 _ _ _ _ _ _ _ _ _ _ _ _ _ _ _ _ _ _ _ _ _ _ _ _ _ _ _ _ _ _ _ _ _ _ _ _ _ _ _ _ _ _ _ _ _ _ _ _ _ _ _ _ _ _ _ _ _ _ _ _ _ _ _ _ _ _ _ _ _ _ _ _ _ _ _ _ _ _ _ _ _ _ _ _ _ _ _ _ _ _ _ _ _ _ _ _ _ _ _ _ _ _ _ _ _ _ _ _ _ _ _ _ _ _ _ _ _ _ _ _ _ _ _ _ _ _ _ _ _ _ _ _ _ _ _ _ _ _ _ _ _ _ _ _ _ _ _ _ _ _ _ _ _ _ _ _ _ _ _ _ _ _ _ _ _ _ _ _ _ _ _ _ _ _ _ _ _ _ _ _ _ _ _ _ _ _ _ _ _ _ _ _ _ _ _ _ _ _ _ _ _ _ _ _ _ _ _ _ _ _ _ _
              · have d5 : ((m : Int) != min a (P : Int)) = true := by simp; omega
                have d6 : ((k : Int) != min b (Q : Int)) = false := by simpa using x6
                clear x5 x6
                go_wp2_with (first | ((with_reducible refine wpl_load_row rt24 ?_ (.tmp 3) rfl (w.heap.size) rfl 24 _ ?_ HX.out ?_); rfl; rfl; simp only [Act.put, List.setIfInBounds_toArray, List.set_cons_succ, List.set_cons_zero]))
                all_goals exact tail4 _ _ _ _ _ _ _ _ _ _ _ _ _ _ _ _ _ _ _ _ _ _ _ _ _ _ _ _ _ _ _ _ _ _ _ _ _ _ _ _ _ _ _ _ _ _ _ _ _ _ _ _ _ _ _ _ _ _ _ _ _ _ _ _ _ _ _ _ _ _ _ _ _ _ _ _ _ _ _ _ _ _ _ _ _ _ _ _ _ _ _ _ _ _ _ _ _ _ _ _ _ _ _ _ _ _ _ _ _ _ _ _ _ _ _ _ _ _ _ _ _ _ _ _ _ _ _ _ _ _ _ _ _ _ _ _ _ _ _ _ _ _ _ _ _ _ _ _ _ _ _ _ _ _ _ _ _ _ _ _ _ _ _ _ _ _ _ _ _ _ _ _ _ _ _ _ _ _ _ _ _ _ _ _ _ _ _ _ _ _ _ _ _ _ _ _ _ _ _ _ _ _ _ _ _ _ _ _ _ _ _ _
  · have hm' : mayB W H l.length = false := by simpa using hm
    clear hm
    go_enter Try.func6, Try.ntmps6
    have hB := ba (brefl w) (.cells #[.int .i64 W, .int .i64 H, .slice A l.length c] 24)
    have lX : w.heap.size < (w.alloc (.cells #[.int .i64 W, .int .i64 H, .slice A l.length c] 24)).heap.size := by simp
    have hrw := heap_alloc_new w (.cells #[.int .i64 W, .int .i64 H, .slice A l.length c] 24)
    have k0 := row_cell hrw 0 rfl
    have k1 := row_cell hrw 1 rfl
    have k2 := row_cell hrw 2 rfl
    have HX := Lib.hid hrw
    clear hrw
    by_cases hbig : 3000 < (l.length : Int)
    · go_wp2_with fail
      refine Calls.mono (awake_any _) ?_
      rintro e wz ⟨rfl, hbz⟩
      go_wp2_with fail
      go_ret
      exact ⟨rfl, bt hB hbz⟩
    · by_cases ha : 60 < a
      · go_wp2_with fail
        refine Calls.mono (awake_any _) ?_
        rintro e wz ⟨rfl, hbz⟩
        go_wp2_with fail
        go_ret
        exact ⟨rfl, bt hB hbz⟩
      · by_cases hb : 60 < b
        · go_wp2_with fail
          refine Calls.mono (awake_any _) ?_
          rintro e wz ⟨rfl, hbz⟩
          go_wp2_with fail
          go_ret
          exact ⟨rfl, bt hB hbz⟩
        · by_cases ha1 : a < 1
          · go_wp2_with fail
            refine Calls.mono (awake_any _) ?_
            rintro e wz ⟨rfl, hbz⟩
            go_wp2_with fail
            go_ret
            exact ⟨rfl, bt hB hbz⟩
          · by_cases hb1 : b < 1
            · go_wp2_with fail
              refine Calls.mono (awake_any _) ?_
              rintro e wz ⟨rfl, hbz⟩
              go_wp2_with fail
              go_ret
              exact ⟨rfl, bt hB hbz⟩
            · go_wp2_with fail
              clear k0 k1 k2
              refine Calls.mono (may_any W H A l.length c _) ?_
              rw [hm']
              rintro e w1 ⟨rfl, hb1⟩
              replace hB := bt hB hb1
              go_wp2_with fail
              refine Calls.mono (awake_any _) ?_
              rintro e wz ⟨rfl, hbz⟩
              go_wp2_with fail
              go_ret
              exact ⟨rfl, bt hB hbz⟩
end Go.Proofs.Ytdjfjndmkkhknaa
