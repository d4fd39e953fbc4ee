/- The walk of RasterDoes. -/
import Derived.Test.YtdjfjndmkkhknaaQ
import Derived.Test.YtdjfjndmkkhknaaR
import Derived.Test.YtdjfjndmkkhknaaL
import Derived.Test.YtdjfjndmkkhknaaM
namespace Go.Proofs.Ytdjfjndmkkhknaa
open Go.RowKit
open Go.Tin
set_option linter.unusedVariables false
set_option linter.unusedSimpArgs false

theorem rbox_i (W H a b : Int) (A : Option Addr) (l : List Int) (c : Nat) (w : World) (hsl : Sl .u8 w A l) (hby : Byts l) (hc : cutB W H l.length a b = true) :
    Calls Try.prog 20 #[.agg #[.int .i64 W, .int .i64 H, .slice A l.length c], .int .i64 a, .int .i64 b] w fun e w' => ∃ A' n' c', e = .returned (.agg #[.int .i64 a, .int .i64 b, .slice A' n' c']) ∧ Own .u8 5 w' w.heap.size (.slice A' n' c') (boxR l W H a b) ∧ Below w.heap.size w w' := by
  have h2 := hc
  unfold cutB at h2
  simp only [Bool.and_eq_true, decide_eq_true_eq] at h2
  obtain ⟨hm, ⟨ha, hb⟩, haW, hbH⟩ := h2
  obtain ⟨hW, hH, _⟩ := mayB_t hm
  have ha := okS_t ha
  have hb := okS_t hb
  unfold boxR
  rw [if_pos hc]
  obtain ⟨m, rfl⟩ := Int.eq_ofNat_of_zero_le (show 0 ≤ a by omega)
  obtain ⟨k, rfl⟩ := Int.eq_ofNat_of_zero_le (show 0 ≤ b by omega)
  obtain ⟨P, rfl⟩ := Int.eq_ofNat_of_zero_le (show 0 ≤ W by omega)
  obtain ⟨Q, rfl⟩ := Int.eq_ofNat_of_zero_le (show 0 ≤ H by omega)
  refine (rbox_any P Q m k A l c w hsl hby hm (by omega) (by omega) (by omega) (by omega)).mono ?_
  rintro e w' ⟨v, rfl, hown, hb⟩
  obtain ⟨A', n', c', rfl⟩ := own_form hown
  exact ⟨A', n', c', rfl, hown, hb⟩
theorem rpad_i (W H a b : Int) (A : Option Addr) (l : List Int) (c : Nat) (w : World) (hsl : Sl .u8 w A l) (hby : Byts l) (hm : mayB W H l.length = true) (ha : okS a = true) (hb : okS b = true) :
    Calls Try.prog 21 #[.agg #[.int .i64 W, .int .i64 H, .slice A l.length c], .int .i64 a, .int .i64 b] w fun e w' => ∃ A' n' c', e = .returned (.agg #[.int .i64 a, .int .i64 b, .slice A' n' c']) ∧ Own .u8 5 w' w.heap.size (.slice A' n' c') (rows (padT l W H) a.toNat b.toNat) ∧ Below w.heap.size w w' := by
  have ha := okS_t ha
  have hb := okS_t hb
  obtain ⟨m, rfl⟩ := Int.eq_ofNat_of_zero_le (show 0 ≤ a by omega)
  obtain ⟨k, rfl⟩ := Int.eq_ofNat_of_zero_le (show 0 ≤ b by omega)
  refine (rpad_any W H m k A l c w hsl hby hm (by omega) (by omega)).mono ?_
  rintro e w' ⟨v, rfl, hown, hb⟩
  obtain ⟨A', n', c', rfl⟩ := own_form hown
  exact ⟨A', n', c', rfl, hown, hb⟩
theorem cutR_pad (l : List Int) (W H a b : Int) (hc : cutB W H l.length a b = true) : cutR l W H a b = rows (padT l W H) a.toNat b.toNat := by
  have h2 := hc
  unfold cutB at h2
  simp only [Bool.and_eq_true, decide_eq_true_eq] at h2
  obtain ⟨hm, ⟨ha, hb⟩, haW, hbH⟩ := h2
  unfold cutR
  rw [if_pos hc]
  refine rows_congr _ _ _ _ fun x y hx hy => ?_
  unfold padT
  rw [Int.min_eq_left (by omega), Int.min_eq_left (by omega)]
theorem zeroU8 : ∀ w, (zeroValue 5).run Try.prog w = .ok (.int .u8 0) w := fun w => by kernel_rfl

set_option maxRecDepth 100000 in
set_option maxHeartbeats 8000000 in
theorem does_any (W H : Int) (A : Option Addr) (len cap : Nat) (zs : List Int) (a b : Int) (w : World) (wW : (Lit.int .i64 W).wf = true) (wH : (Lit.int .i64 H).wf = true) (hrow : IsRow .u8 w A len cap zs) (wa : (Lit.int .i64 a).wf = true) (wb : (Lit.int .i64 b).wf = true) :
    Calls Try.prog 4 #[.agg #[.int .i64 W, .int .i64 H, .slice A len cap], .int .i64 a, .int .i64 b] w fun e w' => e = .returned (.bool true) ∧ Below w.heap.size w w' := by
  obtain ⟨hsl, hln, hlc, hcm, hwf⟩ := Sl.of_row hrow
  have hby := byts_of hwf
  generalize zs.take len = l at *
  subst hln
  generalize cap = c at *
  have HS := Lib.hid hsl
  have HY := Lib.hid hby
  have hlm : l.length ≤ 9223372036854775807 := Nat.le_trans hlc (Nat.le_trans hcm (by decide))
  clear hrow hsl hby hwf wW wH wa wb hcm
  go_enter Try.func4, Try.ntmps4
  have hB := ba (brefl w) (.cells #[.int .i64 W, .int .i64 H, .slice A l.length c] 24)
  have hz : w.heap.size < (w.alloc (.cells #[.int .i64 W, .int .i64 H, .slice A l.length c] 24)).heap.size := by simp
  have hrw := heap_alloc_new w (.cells #[.int .i64 W, .int .i64 H, .slice A l.length c] 24)
  have k0 := row_cell hrw 0 rfl
  have k1 := row_cell hrw 1 rfl
  have k2 := row_cell hrw 2 rfl
  have hX := Lib.hid hrw
  clear hrw
  refine wp_seq_k fun K0 hK0 => ?_
  have HK0 := Lib.hid hK0
  clear hK0
  go_wp2_with fail
  refine HK0.out _ _ ?_
  refine wp_seq_k fun K1 hK1 => ?_
  have HK1 := Lib.hid hK1
  clear hK1 HK0
  have tail1 : l.length ≤ 3000 → ∀ (u4 u5 u7 u8 u9 u10 u11 u12 u13 u14 u15 u16 u17 u18 u19 u20 u21 u22 u23 u24 u25 u26 u27 u28 u29 u30 u31 u32 u33 u34 u35 u36 u37 u38 u39 u40 u41 u42 u43 u44 u45 u46 u47 u48 u49 u50 u51 u52 u53 u54 u55 u56 u57 u58 u59 u60 u61 u62 u63 u64 u65 u66 u67 u68 u69 u70 u71 u72 u73 u74 u75 u76 u77 u78 u79 u80 u81 u82 u83 u84 u85 u86 u87 u88 u89 u90 u91 u92 u93 u94 u95 u96 u97 u98 u99 u100 u101 u102 u103 u104 u105 u106 u107 u108 u109 u110 u111 u112 u113 u114 u115 u116 u117 u118 u119 u120 u121 u122 u123 u124 u125 u126 u127 u128 u129 u130 u131 u132 u133 u134 u135 u136 u137 u138 u139 u140 u141 u142 u143 u144 u145 u146 u147 u148 u149 u150 u151 u152 u153 u154 u155 u156 u157 u158 u159 u160 u161 u162 u163 u164 u165 u166 u167 u168 u169 : Value), K1 { tmps := #[.agg #[.int .i64 W, .int .i64 H, .slice A l.length c], .int .i64 a, .int .i64 b, .pointer (some ⟨w.heap.size, 0, none⟩), u4, u5, .bool false, u7, u8, u9, u10, u11, u12, u13, u14, u15, u16, u17, u18, u19, u20, u21, u22, u23, u24, u25, u26, u27, u28, u29, u30, u31, u32, u33, u34, u35, u36, u37, u38, u39, u40, u41, u42, u43, u44, u45, u46, u47, u48, u49, u50, u51, u52, u53, u54, u55, u56, u57, u58, u59, u60, u61, u62, u63, u64, u65, u66, u67, u68, u69, u70, u71, u72, u73, u74, u75, u76, u77, u78, u79, u80, u81, u82, u83, u84, u85, u86, u87, u88, u89, u90, u91, u92, u93, u94, u95, u96, u97, u98, u99, u100, u101, u102, u103, u104, u105, u106, u107, u108, u109, u110, u111, u112, u113, u114, u115, u116, u117, u118, u119, u120, u121, u122, u123, u124, u125, u126, u127, u128, u129, u130, u131, u132, u133, u134, u135, u136, u137, u138, u139, u140, u141, u142, u143, u144, u145, u146, u147, u148, u149, u150, u151, u152, u153, u154, u155, u156, u157, u158, u159, u160, u161, u162, u163, u164, u165, u166, u167, u168, u169], defers := [] } (w.alloc (.cells #[.int .i64 W, .int .i64 H, .slice A l.length c] 24)) := by
    intro hl3
    intros
    refine HK1.out _ _ ?_
    have HX := hX
    have lX := hz
    have z0 := hz
    go_wp2_with fail
    refine Calls.mono (own_any W H A l c _ (HS.out.keep hB) (by omega)) ?_
    rintro e w1 ⟨v1, rfl, Om, hb1⟩
    obtain ⟨A1, c1, rfl, S1, hc1, hm1, _⟩ := Om.sl
    have ltm := fun k hk => World.ownsRow.lt Om k hk
    have z1 := hb1.size
    replace HX := Lib.hid ((hb1.block _ lX).trans HX.out)
    replace lX := Nat.lt_of_lt_of_le lX hb1.size
    replace hB := bt hB hb1
    have hal := ba (brefl w1) (.cells #[.int .i64 W, .int .i64 H, .slice A1 l.length c1] 24)
    replace HX := Lib.hid ((hal.block _ lX).trans HX.out)
    replace Om := Om.keep hal
    replace S1 := S1.keep hal
    replace lX := Nat.lt_of_lt_of_le lX hal.size
    replace hB := bt hB hal
    have Hm := Lib.hid (heap_alloc_new w1 (.cells #[.int .i64 W, .int .i64 H, .slice A1 l.length c1] 24))
    have lm : w1.heap.size < (w1.alloc (.cells #[.int .i64 W, .int .i64 H, .slice A1 l.length c1] 24)).heap.size := by simp
    have hsm : (w1.alloc (.cells #[.int .i64 W, .int .i64 H, .slice A1 l.length c1] 24)).heap.size = w1.heap.size + 1 := by simp
    clear hal
    clear k0 k1 k2 hX hz
    go_wp2_with (first | ((with_reducible refine wpl_load_row rt24 ?_ (.tmp 7) rfl (g1) rfl 24 _ ?_ Hm.out ?_); rfl; rfl; simp only [Act.put, List.setIfInBounds_toArray, List.set_cons_succ, List.set_cons_zero]))
    generalize hgg1 : w1.heap.size = g1 at *
    generalize w1.alloc _ = W1 at *
    refine Calls.mono (box_all W H a b A1 l c1 W1 S1 hc1 HY.out) ?_
    rintro e w2 ⟨A2, n2, c2, rfl, Ob, hb2⟩
    have ltb := fun k hk => World.ownsRow.lt Ob k hk
    have ap12 := Own.apart' Om Ob (Nat.le_refl _)
    have z2 := hb2.size
    generalize hE1 : ifE (cutB W H l.length a b) = E1 at *
    generalize hX1 : ifB (cutB W H l.length a b) a = X1 at *
    generalize hY1 : ifB (cutB W H l.length a b) b = Y1 at *
    have HE1 := Lib.hid hE1
    have HX1 := Lib.hid hX1
    have HY1 := Lib.hid hY1
    clear hE1 hX1 hY1
    replace HX := Lib.hid ((hb2.block _ lX).trans HX.out)
    replace Hm := Lib.hid ((hb2.block _ lm).trans Hm.out)
    replace Om := Om.keep hb2
    replace S1 := S1.keep hb2
    replace lX := Nat.lt_of_lt_of_le lX hb2.size
    replace lm := Nat.lt_of_lt_of_le lm hb2.size
    replace hB := bt hB hb2
    have hal := ba (brefl w2) (.cells #[.int .i64 X1, .int .i64 Y1, .slice A2 n2 c2] 24)
    replace HX := Lib.hid ((hal.block _ lX).trans HX.out)
    replace Hm := Lib.hid ((hal.block _ lm).trans Hm.out)
    replace Om := Om.keep hal
    replace S1 := S1.keep hal
    replace Ob := Ob.keep hal
    replace lX := Nat.lt_of_lt_of_le lX hal.size
    replace lm := Nat.lt_of_lt_of_le lm hal.size
    replace hB := bt hB hal
    have Hb := Lib.hid (heap_alloc_new w2 (.cells #[.int .i64 X1, .int .i64 Y1, .slice A2 n2 c2] 24))
    have lb : w2.heap.size < (w2.alloc (.cells #[.int .i64 X1, .int .i64 Y1, .slice A2 n2 c2] 24)).heap.size := by simp
    have hsb : (w2.alloc (.cells #[.int .i64 X1, .int .i64 Y1, .slice A2 n2 c2] 24)).heap.size = w2.heap.size + 1 := by simp
    clear hal
    go_wp2_with (first | ((with_reducible refine wpl_load_row rt24 ?_ (.tmp 7) rfl (g1) rfl 24 _ ?_ Hm.out ?_); rfl; rfl; simp only [Act.put, List.setIfInBounds_toArray, List.set_cons_succ, List.set_cons_zero]))
    generalize hgg2 : w2.heap.size = g2 at *
    generalize w2.alloc _ = W2 at *
    refine Calls.mono (pad_all W H a b A1 l c1 W2 S1 hc1 HY.out) ?_
    rintro e w3 ⟨A3, n3, c3, rfl, Op, hb3⟩
    have ltp := fun k hk => World.ownsRow.lt Op k hk
    have ap13 := Own.apart' Om Op (Nat.le_refl _)
    have z3 := hb3.size
    have ap32 := Own.apart Ob Op (Nat.le_refl _)
    generalize hE2 : ifE (padB W H l.length a b) = E2 at *
    generalize hX2 : ifB (padB W H l.length a b) a = X2 at *
    generalize hY2 : ifB (padB W H l.length a b) b = Y2 at *
    have HE2 := Lib.hid hE2
    have HX2 := Lib.hid hX2
    have HY2 := Lib.hid hY2
    clear hE2 hX2 hY2
    replace HX := Lib.hid ((hb3.block _ lX).trans HX.out)
    replace Hm := Lib.hid ((hb3.block _ lm).trans Hm.out)
    replace Hb := Lib.hid ((hb3.block _ lb).trans Hb.out)
    replace Om := Om.keep hb3
    replace S1 := S1.keep hb3
    replace Ob := Ob.keep hb3
    replace lX := Nat.lt_of_lt_of_le lX hb3.size
    replace lm := Nat.lt_of_lt_of_le lm hb3.size
    replace lb := Nat.lt_of_lt_of_le lb hb3.size
    replace hB := bt hB hb3
    have hal := ba (brefl w3) (.cells #[.int .i64 X2, .int .i64 Y2, .slice A3 n3 c3] 24)
    replace HX := Lib.hid ((hal.block _ lX).trans HX.out)
    replace Hm := Lib.hid ((hal.block _ lm).trans Hm.out)
    replace Hb := Lib.hid ((hal.block _ lb).trans Hb.out)
    replace Om := Om.keep hal
    replace S1 := S1.keep hal
    replace Ob := Ob.keep hal
    replace Op := Op.keep hal
    replace lX := Nat.lt_of_lt_of_le lX hal.size
    replace lm := Nat.lt_of_lt_of_le lm hal.size
    replace lb := Nat.lt_of_lt_of_le lb hal.size
    replace hB := bt hB hal
    have Hp := Lib.hid (heap_alloc_new w3 (.cells #[.int .i64 X2, .int .i64 Y2, .slice A3 n3 c3] 24))
    have lp : w3.heap.size < (w3.alloc (.cells #[.int .i64 X2, .int .i64 Y2, .slice A3 n3 c3] 24)).heap.size := by simp
    have hsp : (w3.alloc (.cells #[.int .i64 X2, .int .i64 Y2, .slice A3 n3 c3] 24)).heap.size = w3.heap.size + 1 := by simp
    clear hal
    go_wp2_with (first | ((with_reducible refine wpl_load_row rt24 ?_ (.tmp 7) rfl (g1) rfl 24 _ ?_ Hm.out ?_); rfl; rfl; simp only [Act.put, List.setIfInBounds_toArray, List.set_cons_succ, List.set_cons_zero]))
    generalize hgg3 : w3.heap.size = g3 at *
    generalize w3.alloc _ = W3 at *
    have hcut := cut_all W H a b A1 l c1 W3 S1 hc1 HY.out
    simp only [HE1.out, HX1.out, HY1.out] at hcut
    refine Calls.mono hcut ?_
    clear hcut
    rintro e w4 ⟨A4, n4, c4, rfl, Ok, hb4⟩
    have ltk := fun k hk => World.ownsRow.lt Ok k hk
    have ap14 := Own.apart' Om Ok (Nat.le_refl _)
    have ap42 := Own.apart Ob Ok (Nat.le_refl _)
    have ap43 := Own.apart Op Ok (Nat.le_refl _)
    have z4 := hb4.size
    replace HX := Lib.hid ((hb4.block _ lX).trans HX.out)
    replace Hm := Lib.hid ((hb4.block _ lm).trans Hm.out)
    replace Hb := Lib.hid ((hb4.block _ lb).trans Hb.out)
    replace Hp := Lib.hid ((hb4.block _ lp).trans Hp.out)
    replace Om := Om.keep hb4
    replace S1 := S1.keep hb4
    replace Ob := Ob.keep hb4
    replace Op := Op.keep hb4
    replace lX := Nat.lt_of_lt_of_le lX hb4.size
    replace lm := Nat.lt_of_lt_of_le lm hb4.size
    replace lb := Nat.lt_of_lt_of_le lb hb4.size
    replace lp := Nat.lt_of_lt_of_le lp hb4.size
    replace hB := bt hB hb4
    have hal := ba (brefl w4) (.cells #[.int .i64 X1, .int .i64 Y1, .slice A4 n4 c4] 24)
    replace HX := Lib.hid ((hal.block _ lX).trans HX.out)
    replace Hm := Lib.hid ((hal.block _ lm).trans Hm.out)
    replace Hb := Lib.hid ((hal.block _ lb).trans Hb.out)
    replace Hp := Lib.hid ((hal.block _ lp).trans Hp.out)
    replace Om := Om.keep hal
    replace S1 := S1.keep hal
    replace Ob := Ob.keep hal
    replace Op := Op.keep hal
    replace Ok := Ok.keep hal
    replace lX := Nat.lt_of_lt_of_le lX hal.size
    replace lm := Nat.lt_of_lt_of_le lm hal.size
    replace lb := Nat.lt_of_lt_of_le lb hal.size
    replace lp := Nat.lt_of_lt_of_le lp hal.size
    replace hB := bt hB hal
    have Hk := Lib.hid (heap_alloc_new w4 (.cells #[.int .i64 X1, .int .i64 Y1, .slice A4 n4 c4] 24))
    have lk : w4.heap.size < (w4.alloc (.cells #[.int .i64 X1, .int .i64 Y1, .slice A4 n4 c4] 24)).heap.size := by simp
    have hsk : (w4.alloc (.cells #[.int .i64 X1, .int .i64 Y1, .slice A4 n4 c4] 24)).heap.size = w4.heap.size + 1 := by simp
    clear hal
    go_wp2_with (first | ((with_reducible refine wpl_load_row rt24 ?_ (.tmp 3) rfl (w.heap.size) rfl 24 _ ?_ HX.out ?_); rfl; rfl; simp only [Act.put, List.setIfInBounds_toArray, List.set_cons_succ, List.set_cons_zero]))
    rename_i K7 hK7 Ko hKo
    have HK7 := Lib.hid hK7
    clear hK7
    generalize hgg4 : w4.heap.size = g4 at *
    generalize w4.alloc _ = W4 at *
    have tail7 : ∀ (q : Bool), q = (mayB W H l.length && (okS a && okS b)) → ∀ wq : World, Below W4.heap.size W4 wq → ∀ (u4 u5 u15 u16 u17 u18 u19 u20 u21 u22 u23 u24 u25 u26 u27 u28 u29 u30 u31 u32 u33 u34 u35 u36 u37 u38 u39 u40 u41 u42 u43 u44 u45 u46 u47 u48 u49 u50 u51 u52 u53 u54 u55 u56 u57 u58 u59 u60 u61 u62 u63 u64 u65 u66 u67 u68 u69 u70 u71 u72 u73 u74 u75 u76 u77 u78 u79 u80 u81 u82 u83 u84 u85 u86 u87 u88 u89 u90 u91 u92 u93 u94 u95 u96 u97 u98 u99 u100 u101 u102 u103 u104 u105 u106 u107 u108 u109 u110 u111 u112 u113 u114 u115 u116 u117 u118 u119 u120 u121 u122 u123 u124 u125 u126 u127 u128 u129 u130 u131 u132 u133 u134 u135 u136 u137 u138 u139 u140 u141 u142 u143 u144 u145 u146 u147 u148 u149 u150 u151 u152 u153 u154 u155 u156 u157 u158 u159 u160 u161 u162 u163 u164 u165 u166 u167 u168 u169 : Value), K7 { tmps := #[.agg #[.int .i64 W, .int .i64 H, .slice A l.length c], .int .i64 a, .int .i64 b, .pointer (some ⟨w.heap.size, 0, none⟩), u4, u5, .bool false, .pointer (some ⟨g1, 0, none⟩), .pointer (some ⟨g2, 0, none⟩), .int .i64 E1, .pointer (some ⟨g3, 0, none⟩), .int .i64 E2, .pointer (some ⟨g4, 0, none⟩), .int .i64 E1, .bool q, u15, u16, u17, u18, u19, u20, u21, u22, u23, u24, u25, u26, u27, u28, u29, u30, u31, u32, u33, u34, u35, u36, u37, u38, u39, u40, u41, u42, u43, u44, u45, u46, u47, u48, u49, u50, u51, u52, u53, u54, u55, u56, u57, u58, u59, u60, u61, u62, u63, u64, u65, u66, u67, u68, u69, u70, u71, u72, u73, u74, u75, u76, u77, u78, u79, u80, u81, u82, u83, u84, u85, u86, u87, u88, u89, u90, u91, u92, u93, u94, u95, u96, u97, u98, u99, u100, u101, u102, u103, u104, u105, u106, u107, u108, u109, u110, u111, u112, u113, u114, u115, u116, u117, u118, u119, u120, u121, u122, u123, u124, u125, u126, u127, u128, u129, u130, u131, u132, u133, u134, u135, u136, u137, u138, u139, u140, u141, u142, u143, u144, u145, u146, u147, u148, u149, u150, u151, u152, u153, u154, u155, u156, u157, u158, u159, u160, u161, u162, u163, u164, u165, u166, u167, u168, u169], defers := [] } wq := by
      clear hKo
      clear Ko
      intro q hq wq hbq
      intros
      have HQ := Lib.hid hq
      clear hq
      replace HX := Lib.hid ((hbq.block _ lX).trans HX.out)
      replace Hm := Lib.hid ((hbq.block _ lm).trans Hm.out)
      replace Hb := Lib.hid ((hbq.block _ lb).trans Hb.out)
      replace Hp := Lib.hid ((hbq.block _ lp).trans Hp.out)
      replace Hk := Lib.hid ((hbq.block _ lk).trans Hk.out)
      replace Om := Om.keep hbq
      replace S1 := S1.keep hbq
      replace Ob := Ob.keep hbq
      replace Op := Op.keep hbq
      replace Ok := Ok.keep hbq
      replace lX := Nat.lt_of_lt_of_le lX hbq.size
      replace lm := Nat.lt_of_lt_of_le lm hbq.size
      replace lb := Nat.lt_of_lt_of_le lb hbq.size
      replace lp := Nat.lt_of_lt_of_le lp hbq.size
      replace lk := Nat.lt_of_lt_of_le lk hbq.size
      replace hB := bt hB hbq
      refine HK7.out _ _ ?_
      refine wp_seq_k fun K8 hK8 => ?_
      have HK8 := Lib.hid hK8
      clear hK8 HK7
      have hal := ba (brefl wq) (.cells #[.int .i64 0, .int .i64 0, .slice none 0 0] 24)
      replace HX := Lib.hid ((hal.block _ lX).trans HX.out)
      replace Hm := Lib.hid ((hal.block _ lm).trans Hm.out)
      replace Hb := Lib.hid ((hal.block _ lb).trans Hb.out)
      replace Hp := Lib.hid ((hal.block _ lp).trans Hp.out)
      replace Hk := Lib.hid ((hal.block _ lk).trans Hk.out)
      replace Om := Om.keep hal
      replace S1 := S1.keep hal
      replace Ob := Ob.keep hal
      replace Op := Op.keep hal
      replace Ok := Ok.keep hal
      replace lX := Nat.lt_of_lt_of_le lX hal.size
      replace lm := Nat.lt_of_lt_of_le lm hal.size
      replace lb := Nat.lt_of_lt_of_le lb hal.size
      replace lp := Nat.lt_of_lt_of_le lp hal.size
      replace lk := Nat.lt_of_lt_of_le lk hal.size
      replace hB := bt hB hal
      have Hn := Lib.hid (heap_alloc_new wq (.cells #[.int .i64 0, .int .i64 0, .slice none 0 0] 24))
      have ln : wq.heap.size < (wq.alloc (.cells #[.int .i64 0, .int .i64 0, .slice none 0 0] 24)).heap.size := by simp
      have hsn : (wq.alloc (.cells #[.int .i64 0, .int .i64 0, .slice none 0 0] 24)).heap.size = wq.heap.size + 1 := by simp
      clear hal
      go_wp2_with fail
      generalize hgg5 : wq.heap.size = g5 at *
      generalize wq.alloc _ = W8 at *
      refine HK8.out _ _ ?_
      refine wp_seq_k fun K9 hK9 => ?_
      have HK9 := Lib.hid hK9
      clear hK9 HK8
      have tail9 : ∀ wr : World, Below W8.heap.size W8 wr → ∀ (u4 u5 u16 u17 u18 u19 u20 u21 u22 u23 u24 u25 u26 u27 u28 u29 u30 u31 u32 u33 u34 u35 u36 u37 u38 u39 u40 u41 u42 u43 u44 u45 u46 u47 u48 u49 u50 u51 u52 u53 u54 u55 u56 u57 u58 u59 u60 u61 u62 u63 u64 u65 u66 u67 u68 u69 u70 u71 u72 u73 u74 u75 u76 u77 u78 u79 u80 u81 u82 u83 u84 u85 u86 u87 u88 u89 u90 u91 u92 u93 u94 u95 u96 u97 u98 u99 u100 u101 u102 u103 u104 u105 u106 u107 u108 u109 u110 u111 u112 u113 u114 u115 u116 u117 u118 u119 u120 u121 u122 u123 u124 u125 u126 u127 u128 u129 u130 u131 u132 u133 u134 u135 u136 u137 u138 u139 u140 u141 u142 u143 u144 u145 u146 u147 u148 u149 u150 u151 u152 u153 u154 u155 u156 u157 u158 u159 u160 u161 u162 u163 u164 u165 u166 u167 u168 u169 : Value), K9 { tmps := #[.agg #[.int .i64 W, .int .i64 H, .slice A l.length c], .int .i64 a, .int .i64 b, .pointer (some ⟨w.heap.size, 0, none⟩), u4, u5, .bool false, .pointer (some ⟨g1, 0, none⟩), .pointer (some ⟨g2, 0, none⟩), .int .i64 E1, .pointer (some ⟨g3, 0, none⟩), .int .i64 E2, .pointer (some ⟨g4, 0, none⟩), .int .i64 E1, .bool q, .pointer (some ⟨g5, 0, none⟩), u16, u17, u18, u19, u20, u21, u22, u23, u24, u25, u26, u27, u28, u29, u30, u31, u32, u33, u34, u35, u36, u37, u38, u39, u40, u41, u42, u43, u44, u45, u46, u47, u48, u49, u50, u51, u52, u53, u54, u55, u56, u57, u58, u59, u60, u61, u62, u63, u64, u65, u66, u67, u68, u69, u70, u71, u72, u73, u74, u75, u76, u77, u78, u79, u80, u81, u82, u83, u84, u85, u86, u87, u88, u89, u90, u91, u92, u93, u94, u95, u96, u97, u98, u99, u100, u101, u102, u103, u104, u105, u106, u107, u108, u109, u110, u111, u112, u113, u114, u115, u116, u117, u118, u119, u120, u121, u122, u123, u124, u125, u126, u127, u128, u129, u130, u131, u132, u133, u134, u135, u136, u137, u138, u139, u140, u141, u142, u143, u144, u145, u146, u147, u148, u149, u150, u151, u152, u153, u154, u155, u156, u157, u158, u159, u160, u161, u162, u163, u164, u165, u166, u167, u168, u169], defers := [] } wr := by
        intro wr hbr
        intros
        replace HX := Lib.hid ((hbr.block _ lX).trans HX.out)
        replace Hm := Lib.hid ((hbr.block _ lm).trans Hm.out)
        replace Hb := Lib.hid ((hbr.block _ lb).trans Hb.out)
        replace Hp := Lib.hid ((hbr.block _ lp).trans Hp.out)
        replace Hk := Lib.hid ((hbr.block _ lk).trans Hk.out)
        replace Hn := Lib.hid ((hbr.block _ ln).trans Hn.out)
        replace Om := Om.keep hbr
        replace S1 := S1.keep hbr
        replace Ob := Ob.keep hbr
        replace Op := Op.keep hbr
        replace Ok := Ok.keep hbr
        replace lX := Nat.lt_of_lt_of_le lX hbr.size
        replace lm := Nat.lt_of_lt_of_le lm hbr.size
        replace lb := Nat.lt_of_lt_of_le lb hbr.size
        replace lp := Nat.lt_of_lt_of_le lp hbr.size
        replace lk := Nat.lt_of_lt_of_le lk hbr.size
        replace ln := Nat.lt_of_lt_of_le ln hbr.size
        replace hB := bt hB hbr
        refine HK9.out _ _ ?_
        refine wp_seq_k fun K14 hK14 => ?_
        have HK14 := Lib.hid hK14
        clear hK14 HK9
        have tail14 : ∀ wt : World, Below wr.heap.size wr wt → ∀ (u4 u5 u16 u17 u18 u19 u20 u21 u22 u23 u24 u25 u26 u27 u28 u29 u30 u31 u32 u33 u34 u35 u36 u37 u38 u39 u40 u41 u42 u43 u44 u45 u46 u47 u48 u49 u50 u51 u52 u53 u54 u55 u56 u57 u58 u59 u60 u61 u62 u63 u64 u65 u66 u67 u68 u69 u70 u71 u72 u73 u74 u75 u76 u77 u78 u79 u80 u81 u82 u83 u84 u85 u86 u87 u88 u89 u90 u91 u92 u93 u94 u95 u96 u97 u98 u99 u100 u101 u102 u103 u104 u105 u106 u107 u108 u109 u110 u111 u112 u113 u114 u115 u116 u117 u118 u119 u120 u121 u122 u123 u124 u125 u126 u127 u128 u129 u130 u131 u132 u133 u134 u135 u136 u137 u138 u139 u140 u141 u142 u143 u144 u145 u146 u147 u148 u149 u150 u151 u152 u153 u154 u155 u156 u157 u158 u159 u160 u161 u162 u163 u164 u165 u166 u167 u168 u169 : Value), K14 { tmps := #[.agg #[.int .i64 W, .int .i64 H, .slice A l.length c], .int .i64 a, .int .i64 b, .pointer (some ⟨w.heap.size, 0, none⟩), u4, u5, .bool false, .pointer (some ⟨g1, 0, none⟩), .pointer (some ⟨g2, 0, none⟩), .int .i64 E1, .pointer (some ⟨g3, 0, none⟩), .int .i64 E2, .pointer (some ⟨g4, 0, none⟩), .int .i64 E1, .bool q, .pointer (some ⟨g5, 0, none⟩), u16, u17, u18, u19, u20, u21, u22, u23, u24, u25, u26, u27, u28, u29, u30, u31, u32, u33, u34, u35, u36, u37, u38, u39, u40, u41, u42, u43, u44, u45, u46, u47, u48, u49, u50, u51, u52, u53, u54, u55, u56, u57, u58, u59, u60, u61, u62, u63, u64, u65, u66, u67, u68, u69, u70, u71, u72, u73, u74, u75, u76, u77, u78, u79, u80, u81, u82, u83, u84, u85, u86, u87, u88, u89, u90, u91, u92, u93, u94, u95, u96, u97, u98, u99, u100, u101, u102, u103, u104, u105, u106, u107, u108, u109, u110, u111, u112, u113, u114, u115, u116, u117, u118, u119, u120, u121, u122, u123, u124, u125, u126, u127, u128, u129, u130, u131, u132, u133, u134, u135, u136, u137, u138, u139, u140, u141, u142, u143, u144, u145, u146, u147, u148, u149, u150, u151, u152, u153, u154, u155, u156, u157, u158, u159, u160, u161, u162, u163, u164, u165, u166, u167, u168, u169], defers := [] } wt := by
          intro wt hbt
          intros
          replace HX := Lib.hid ((hbt.block _ lX).trans HX.out)
          replace Hm := Lib.hid ((hbt.block _ lm).trans Hm.out)
          replace Hb := Lib.hid ((hbt.block _ lb).trans Hb.out)
          replace Hp := Lib.hid ((hbt.block _ lp).trans Hp.out)
          replace Hk := Lib.hid ((hbt.block _ lk).trans Hk.out)
          replace Om := Om.keep hbt
          replace S1 := S1.keep hbt
          replace Ob := Ob.keep hbt
          replace Op := Op.keep hbt
          replace Ok := Ok.keep hbt
          replace lX := Nat.lt_of_lt_of_le lX hbt.size
          replace lm := Nat.lt_of_lt_of_le lm hbt.size
          replace lb := Nat.lt_of_lt_of_le lb hbt.size
          replace lp := Nat.lt_of_lt_of_le lp hbt.size
          replace lk := Nat.lt_of_lt_of_le lk hbt.size
          replace hB := bt hB hbt
          refine HK14.out _ _ ?_
          have kb := row_cell Hb.out 2 rfl
          clear HK14 HQ
          go_wp2_with (first | (with_reducible refine Tin.wpl_clear bt5 zeroU8 _ rfl (.tmp 159) rfl W1.heap.size (.slice A2 n2 c2) _ rfl Ob ?_; intro wu hgu; replace HX := Lib.hid ((hgu.block _ lX (fun h => by have := ltb _ h.symm; omega)).trans HX.out); replace Hm := Lib.hid ((hgu.block _ lm (fun h => by have := ltb _ h.symm; omega)).trans Hm.out); replace Hp := Lib.hid ((hgu.block _ lp (fun h => by have := ltb _ h.symm; omega)).trans Hp.out); replace Hk := Lib.hid ((hgu.block _ lk (fun h => by have := ltb _ h.symm; omega)).trans Hk.out); replace Om := Om.kept hgu ap12; replace Op := Op.kept hgu ap32; replace Ok := Ok.kept hgu ap42; replace hB := hB.grown hgu hB.size (fun k hk => by have := ltb k hk; omega); replace lX := Nat.lt_of_lt_of_le lX hgu.size; replace lm := Nat.lt_of_lt_of_le lm hgu.size; replace lp := Nat.lt_of_lt_of_le lp hgu.size; replace lk := Nat.lt_of_lt_of_le lk hgu.size; have kp := row_cell Hp.out 2 rfl; clear hgu; simp only [Act.put]) | (with_reducible refine Tin.wpl_clear bt5 zeroU8 _ rfl (.tmp 161) rfl W2.heap.size (.slice A3 n3 c3) _ rfl Op ?_; intro wu hgu; replace HX := Lib.hid ((hgu.block _ lX (fun h => by have := ltp _ h.symm; omega)).trans HX.out); replace Hm := Lib.hid ((hgu.block _ lm (fun h => by have := ltp _ h.symm; omega)).trans Hm.out); replace Hk := Lib.hid ((hgu.block _ lk (fun h => by have := ltp _ h.symm; omega)).trans Hk.out); replace Om := Om.kept hgu ap13; replace Ok := Ok.kept hgu ap43; replace hB := hB.grown hgu hB.size (fun k hk => by have := ltp k hk; omega); replace lX := Nat.lt_of_lt_of_le lX hgu.size; replace lm := Nat.lt_of_lt_of_le lm hgu.size; replace lk := Nat.lt_of_lt_of_le lk hgu.size; have kk := row_cell Hk.out 2 rfl; clear hgu; simp only [Act.put]) | (with_reducible refine Tin.wpl_clear bt5 zeroU8 _ rfl (.tmp 163) rfl W3.heap.size (.slice A4 n4 c4) _ rfl Ok ?_; intro wu hgu; replace HX := Lib.hid ((hgu.block _ lX (fun h => by have := ltk _ h.symm; omega)).trans HX.out); replace Hm := Lib.hid ((hgu.block _ lm (fun h => by have := ltk _ h.symm; omega)).trans Hm.out); replace Om := Om.kept hgu ap14; replace hB := hB.grown hgu hB.size (fun k hk => by have := ltk k hk; omega); replace lX := Nat.lt_of_lt_of_le lX hgu.size; replace lm := Nat.lt_of_lt_of_le lm hgu.size; clear hgu; simp only [Act.put]) | (first | ((with_reducible refine wpl_load_row rt24 ?_ (.tmp 3) rfl (w.heap.size) rfl 24 _ ?_ HX.out ?_); rfl; rfl; simp only [Act.put, List.setIfInBounds_toArray, List.set_cons_succ, List.set_cons_zero]) | ((with_reducible refine wpl_load_row rt24 ?_ (.tmp 7) rfl (g1) rfl 24 _ ?_ Hm.out ?_); rfl; rfl; simp only [Act.put, List.setIfInBounds_toArray, List.set_cons_succ, List.set_cons_zero])))
          refine Calls.mono (same_eq W H A1 A l c1 c _ (Om.sl'.2) (HS.out.keep hB)) ?_
          rintro e w9 ⟨rfl, hb9⟩
          go_wp2_with fail
          refine Calls.mono (awake_any _) ?_
          rintro e wz ⟨rfl, hbz⟩
          go_wp2_with fail
          go_ret
          exact ⟨rfl, bt (bt hB hb9) hbz⟩
        have k0 := row_cell HX.out 0 rfl
        have k1 := row_cell HX.out 1 rfl
        cases q with
        | true =>
          have hq3 := HQ.out.symm
          simp only [Bool.and_eq_true] at hq3
          obtain ⟨hm, ha, hb⟩ := hq3
          by_cases haW : W ≤ a
          · by_cases hbH : H ≤ b
            · have hct : padB W H l.length a b = true := by simp [padB, hm, ha, hb, haW, hbH]
              have hE : (0 : Int) = E2 := by rw [← HE2.out, hct]; rfl
              have hX : a = X2 := by rw [← HX2.out, hct]; rfl
              have hY : b = Y2 := by rw [← HY2.out, hct]; rfl
              subst hE hX hY
              have hbd : Below w.heap.size w wr.drew := ⟨hB.os, hB.tape, hB.output, hB.size, hB.block⟩
              have hrb := rpad_i W H a b A l c wr.drew (HS.out.keep hbd) HY.out hm ha hb
              have hpc : padR l W H a b = rows (padT l W H) a.toNat b.toNat := by unfold padR; rw [if_pos hct]
              rw [hpc] at Op
              generalize hLb : rows (padT l W H) a.toNat b.toNat = Lb at *
              obtain ⟨hn3, Sp⟩ := Op.sl'
              subst hn3
              have HRB := Lib.hid hrb
              clear hrb hpc hLb
              go_wp2_with fail
              clear k0 k1
              have EX : wr.drew.heap[w.heap.size]? = _ := HX.out
              have DX := Lib.hid EX
              clear EX
              have Ep : wr.drew.heap[g3]? = _ := Hp.out
              have Dp := Lib.hid Ep
              clear Ep
              refine Tin.reg_begin wr.heap.size 11 (by rfl) (by kernel_rfl) ?_
              refine Tin.reg_quiets [0, 1, 2, 3, 4, 5, 6] _ 4 rfl (by simp only [Tin.pick, List.map_cons, List.map_nil, Array.getD_eq_getD_getElem?, List.getElem?_toArray, List.getElem?_cons_zero, List.getElem?_cons_succ, Option.getD_some]; rfl) (by kernel_rfl) (by kernel_rfl) ?_
              repeat (first | (first | ((with_reducible refine wpq_load_row rt24 ?_ (.tmp 3) rfl (w.heap.size) rfl 24 _ ?_ (fun w' h => by obtain ⟨p, rfl⟩ := h; exact (p.h.block _ lX).trans DX.out) ?_); rfl; rfl; simp only [Act.put, List.setIfInBounds_toArray, List.set_cons_succ, List.set_cons_zero]) | ((with_reducible refine wpq_load_row rt24 ?_ (.tmp 10) rfl (g3) rfl 24 _ ?_ (fun w' h => by obtain ⟨p, rfl⟩ := h; exact (p.h.block _ lp).trans Dp.out) ?_); rfl; rfl; simp only [Act.put, List.setIfInBounds_toArray, List.set_cons_succ, List.set_cons_zero])) | go_big_quiet_step (fail))
              refine wpQuiet_nil ?_
              clear DX Dp
              refine Tin.reg_one 7 _ rfl (by kernel_rfl) ?_
              try simp only [List.getElem_toArray, List.getElem_cons_succ, List.getElem_cons_zero]
              go_wp2_with fail
              refine Calls.mono HRB.out ?_
              rintro e w9 ⟨A9, n9, c9, rfl, O9, hb9⟩
              have hb9w : Below wr.heap.size wr w9 := ⟨hb9.os, hb9.tape, hb9.output, hb9.size, hb9.block⟩
              obtain ⟨hn9, S9⟩ := O9.sl'
              subst hn9
              go_wp2_with fail
              refine ⟨wr.heap.size, hb9, Nat.le_refl _, ?_⟩
              refine Tin.reg_one 8 _ rfl (by kernel_rfl) ?_
              try simp only [List.getElem_toArray, List.getElem_cons_succ, List.getElem_cons_zero]
              go_wp2_with fail
              refine Calls.mono (same_eq a b A3 A9 Lb c3 c9 w9 (Sp.keep hb9w) S9) ?_
              rintro e w10 ⟨rfl, hb10⟩
              have hb10w := bt hb9w hb10
              have h9s := hb9w.size
              go_wp2_with fail
              refine ⟨wr.heap.size, hb10.mono h9s, Nat.le_refl _, ?_⟩
              refine Tin.reg_quiets [9, 10] _ 0 rfl (by simp only [Tin.pick, List.map_cons, List.map_nil, Array.getD_eq_getD_getElem?, List.getElem?_toArray, List.getElem?_cons_zero, List.getElem?_cons_succ, Option.getD_some]; rfl) (by kernel_rfl) (by kernel_rfl) ?_
              repeat (first | go_big_quiet_step (fail))
              refine wpQuiet_nil ?_
              refine Tin.reg_done (by kernel_rfl) ?_
              go_wp2_with fail
              all_goals exact hb10w
            · have hcf : padB W H l.length a b = false := by simp [padB, hm, ha, hb, haW]; omega
              have hE : (1 : Int) = E2 := by rw [← HE2.out, hcf]; rfl
              have hX : (0 : Int) = X2 := by rw [← HX2.out, hcf]; rfl
              have hY : (0 : Int) = Y2 := by rw [← HY2.out, hcf]; rfl
              have hOp := Op
              unfold padR at hOp
              rw [hcf, if_neg (by decide)] at hOp
              obtain ⟨hnn3, SOp⟩ := hOp.sl'
              clear hOp
              subst hE hX hY hnn3
              clear k0 k1
              have k0 := row_cell HX.out 0 rfl
              have k1 := row_cell HX.out 1 rfl
              go_wp2_with (first | ((with_reducible refine wpl_load_row rt24 ?_ (.tmp 10) rfl (g3) rfl 24 _ ?_ Hp.out ?_); rfl; rfl; simp only [Act.put, List.setIfInBounds_toArray, List.set_cons_succ, List.set_cons_zero]) | ((with_reducible refine wpl_load_row rt24 ?_ (.tmp 15) rfl (g5) rfl 24 _ ?_ Hn.out ?_); rfl; rfl; simp only [Act.put, List.setIfInBounds_toArray, List.set_cons_succ, List.set_cons_zero]))
              refine Calls.mono (same_eq 0 0 A3 none [] c3 0 _ SOp Sl.nil_) ?_
              rintro e w9 ⟨rfl, hb9⟩
              go_wp2_with fail
              all_goals exact hb9
          · have hcf : padB W H l.length a b = false := by simp [padB, hm, ha, hb]; omega
            have hE : (1 : Int) = E2 := by rw [← HE2.out, hcf]; rfl
            have hX : (0 : Int) = X2 := by rw [← HX2.out, hcf]; rfl
            have hY : (0 : Int) = Y2 := by rw [← HY2.out, hcf]; rfl
            have hOp := Op
            unfold padR at hOp
            rw [hcf, if_neg (by decide)] at hOp
            obtain ⟨hnn3, SOp⟩ := hOp.sl'
            clear hOp
            subst hE hX hY hnn3
            clear k0 k1
            have k0 := row_cell HX.out 0 rfl
            have k1 := row_cell HX.out 1 rfl
            go_wp2_with (first | ((with_reducible refine wpl_load_row rt24 ?_ (.tmp 10) rfl (g3) rfl 24 _ ?_ Hp.out ?_); rfl; rfl; simp only [Act.put, List.setIfInBounds_toArray, List.set_cons_succ, List.set_cons_zero]) | ((with_reducible refine wpl_load_row rt24 ?_ (.tmp 15) rfl (g5) rfl 24 _ ?_ Hn.out ?_); rfl; rfl; simp only [Act.put, List.setIfInBounds_toArray, List.set_cons_succ, List.set_cons_zero]))
            refine Calls.mono (same_eq 0 0 A3 none [] c3 0 _ SOp Sl.nil_) ?_
            rintro e w9 ⟨rfl, hb9⟩
            go_wp2_with fail
            all_goals exact hb9
        | false =>
          have hq3 := HQ.out.symm
          have hcf : padB W H l.length a b = false := by unfold padB; rw [← Bool.and_assoc, hq3]; rfl
          have hE : (1 : Int) = E2 := by rw [← HE2.out, hcf]; rfl
          have hX : (0 : Int) = X2 := by rw [← HX2.out, hcf]; rfl
          have hY : (0 : Int) = Y2 := by rw [← HY2.out, hcf]; rfl
          have hOp := Op
          unfold padR at hOp
          rw [hcf, if_neg (by decide)] at hOp
          obtain ⟨hnn3, SOp⟩ := hOp.sl'
          clear hOp
          subst hE hX hY hnn3
          clear k0 k1
          have k0 := row_cell HX.out 0 rfl
          have k1 := row_cell HX.out 1 rfl
          go_wp2_with (first | ((with_reducible refine wpl_load_row rt24 ?_ (.tmp 10) rfl (g3) rfl 24 _ ?_ Hp.out ?_); rfl; rfl; simp only [Act.put, List.setIfInBounds_toArray, List.set_cons_succ, List.set_cons_zero]) | ((with_reducible refine wpl_load_row rt24 ?_ (.tmp 15) rfl (g5) rfl 24 _ ?_ Hn.out ?_); rfl; rfl; simp only [Act.put, List.setIfInBounds_toArray, List.set_cons_succ, List.set_cons_zero]))
          refine Calls.mono (same_eq 0 0 A3 none [] c3 0 _ SOp Sl.nil_) ?_
          rintro e w9 ⟨rfl, hb9⟩
          go_wp2_with fail
          all_goals exact hb9
      have k0 := row_cell HX.out 0 rfl
      have k1 := row_cell HX.out 1 rfl
      cases q with
      | true =>
        have hq3 := HQ.out.symm
        simp only [Bool.and_eq_true] at hq3
        obtain ⟨hm, ha, hb⟩ := hq3
        by_cases haW : a ≤ W
        · by_cases hbH : b ≤ H
          · have hct : cutB W H l.length a b = true := by simp [cutB, hm, ha, hb, haW, hbH]
            have hE : (0 : Int) = E1 := by rw [← HE1.out, hct]; rfl
            have hX : a = X1 := by rw [← HX1.out, hct]; rfl
            have hY : b = Y1 := by rw [← HY1.out, hct]; rfl
            subst hE hX hY
            have hbd : Below w.heap.size w W8.drew := ⟨hB.os, hB.tape, hB.output, hB.size, hB.block⟩
            have hrb := rbox_i W H a b A l c W8.drew (HS.out.keep hbd) HY.out hct
            have hpc := cutR_pad l W H a b hct
            rw [hpc] at Ok
            generalize hLb : boxR l W H a b = Lb at *
            obtain ⟨hn2, Sb⟩ := Ob.sl'
            obtain ⟨hn4, Sk⟩ := Ok.sl'
            subst hn2
            subst hn4
            have HRB := Lib.hid hrb
            clear hrb hpc hLb
            go_wp2_with fail
            clear k0 k1
            have EX : W8.drew.heap[w.heap.size]? = _ := HX.out
            have DX := Lib.hid EX
            clear EX
            have Eb : W8.drew.heap[g2]? = _ := Hb.out
            have Db := Lib.hid Eb
            clear Eb
            refine Tin.reg_begin W8.heap.size 24 (by rfl) (by kernel_rfl) ?_
            refine Tin.reg_quiets [0, 1, 2, 3, 4, 5, 6, 7, 8, 9, 10] _ 13 rfl (by simp only [Tin.pick, List.map_cons, List.map_nil, Array.getD_eq_getD_getElem?, List.getElem?_toArray, List.getElem?_cons_zero, List.getElem?_cons_succ, Option.getD_some]; rfl) (by kernel_rfl) (by kernel_rfl) ?_
            repeat (first | (first | ((with_reducible refine wpq_load_row rt24 ?_ (.tmp 3) rfl (w.heap.size) rfl 24 _ ?_ (fun w' h => by obtain ⟨p, rfl⟩ := h; exact (p.h.block _ lX).trans DX.out) ?_); rfl; rfl; simp only [Act.put, List.setIfInBounds_toArray, List.set_cons_succ, List.set_cons_zero]) | ((with_reducible refine wpq_load_row rt24 ?_ (.tmp 8) rfl (g2) rfl 24 _ ?_ (fun w' h => by obtain ⟨p, rfl⟩ := h; exact (p.h.block _ lb).trans Db.out) ?_); rfl; rfl; simp only [Act.put, List.setIfInBounds_toArray, List.set_cons_succ, List.set_cons_zero])) | go_big_quiet_step (fail))
            refine wpQuiet_nil ?_
            clear DX Db
            refine Tin.reg_one 11 _ rfl (by kernel_rfl) ?_
            try simp only [List.getElem_toArray, List.getElem_cons_succ, List.getElem_cons_zero]
            go_wp2_with fail
            refine Calls.mono HRB.out ?_
            rintro e w9 ⟨A9, n9, c9, rfl, O9, hb9⟩
            have hb9w : Below W8.heap.size W8 w9 := ⟨hb9.os, hb9.tape, hb9.output, hb9.size, hb9.block⟩
            obtain ⟨hn9, S9⟩ := O9.sl'
            subst hn9
            go_wp2_with fail
            refine ⟨W8.heap.size, hb9, Nat.le_refl _, ?_⟩
            refine Tin.reg_one 12 _ rfl (by kernel_rfl) ?_
            try simp only [List.getElem_toArray, List.getElem_cons_succ, List.getElem_cons_zero]
            go_wp2_with fail
            refine Calls.mono (same_eq a b A2 A9 Lb c2 c9 w9 (Sb.keep hb9w) S9) ?_
            rintro e w10 ⟨rfl, hb10⟩
            have hb10w := bt hb9w hb10
            have h9s := hb9w.size
            go_wp2_with fail
            refine ⟨W8.heap.size, hb10.mono h9s, Nat.le_refl _, ?_⟩
            have DX := Lib.hid ((hb10w.block _ lX).trans HX.out)
            have Dk := Lib.hid ((hb10w.block _ lk).trans Hk.out)
            refine Tin.reg_quiets [13, 14, 15, 16, 17, 18, 19] _ 4 rfl (by simp only [Tin.pick, List.map_cons, List.map_nil, Array.getD_eq_getD_getElem?, List.getElem?_toArray, List.getElem?_cons_zero, List.getElem?_cons_succ, Option.getD_some]; rfl) (by kernel_rfl) (by kernel_rfl) ?_
            repeat (first | (first | ((with_reducible refine wpq_load_row rt24 ?_ (.tmp 3) rfl (w.heap.size) rfl 24 _ ?_ (fun w' h => by obtain ⟨p, rfl⟩ := h; exact (p.h.block _ lX).trans DX.out) ?_); rfl; rfl; simp only [Act.put, List.setIfInBounds_toArray, List.set_cons_succ, List.set_cons_zero]) | ((with_reducible refine wpq_load_row rt24 ?_ (.tmp 12) rfl (g4) rfl 24 _ ?_ (fun w' h => by obtain ⟨p, rfl⟩ := h; exact (p.h.block _ lk).trans Dk.out) ?_); rfl; rfl; simp only [Act.put, List.setIfInBounds_toArray, List.set_cons_succ, List.set_cons_zero])) | go_big_quiet_step (fail))
            refine wpQuiet_nil ?_
            clear DX Dk
            refine Tin.reg_one 20 _ rfl (by kernel_rfl) ?_
            try simp only [List.getElem_toArray, List.getElem_cons_succ, List.getElem_cons_zero]
            go_wp2_with fail
            refine Calls.mono (rpad_i W H a b A l c w10 (HS.out.keep (bt hB hb10w)) HY.out hm ha hb) ?_
            rintro e w11 ⟨A11, n11, c11, rfl, O11, hb11⟩
            obtain ⟨hn11, S11⟩ := O11.sl'
            subst hn11
            have h10s := hb10w.size
            go_wp2_with fail
            refine ⟨W8.heap.size, hb11.mono h10s, Nat.le_refl _, ?_⟩
            refine Tin.reg_one 21 _ rfl (by kernel_rfl) ?_
            try simp only [List.getElem_toArray, List.getElem_cons_succ, List.getElem_cons_zero]
            go_wp2_with fail
            refine Calls.mono (same_eq a b A4 A11 _ c4 c11 w11 (Sk.keep (bt hb10w hb11)) S11) ?_
            rintro e w12 ⟨rfl, hb12⟩
            have hb12w := bt (bt hb10w hb11) hb12
            have h11s := hb11.size
            go_wp2_with fail
            refine ⟨W8.heap.size, hb12.mono (by omega), Nat.le_refl _, ?_⟩
            refine Tin.reg_quiets [22, 23] _ 0 rfl (by simp only [Tin.pick, List.map_cons, List.map_nil, Array.getD_eq_getD_getElem?, List.getElem?_toArray, List.getElem?_cons_zero, List.getElem?_cons_succ, Option.getD_some]; rfl) (by kernel_rfl) (by kernel_rfl) ?_
            repeat (first | go_big_quiet_step (fail))
            refine wpQuiet_nil ?_
            refine Tin.reg_done (by kernel_rfl) ?_
            go_wp2_with fail
            all_goals exact hb12w
          · have hcf : cutB W H l.length a b = false := by simp [cutB, hm, ha, hb, haW]; omega
            have hE : (1 : Int) = E1 := by rw [← HE1.out, hcf]; rfl
            have hX : (0 : Int) = X1 := by rw [← HX1.out, hcf]; rfl
            have hY : (0 : Int) = Y1 := by rw [← HY1.out, hcf]; rfl
            have hOb := Ob
            unfold boxR at hOb
            rw [hcf, if_neg (by decide)] at hOb
            obtain ⟨hnn2, SOb⟩ := hOb.sl'
            clear hOb
            have hOk := Ok
            unfold cutR at hOk
            rw [hcf, if_neg (by decide)] at hOk
            obtain ⟨hnn4, SOk⟩ := hOk.sl'
            clear hOk
            subst hE hX hY hnn2 hnn4
            clear k0 k1
            have k0 := row_cell HX.out 0 rfl
            have k1 := row_cell HX.out 1 rfl
            go_wp2_with (first | ((with_reducible refine wpl_load_row rt24 ?_ (.tmp 8) rfl (g2) rfl 24 _ ?_ Hb.out ?_); rfl; rfl; simp only [Act.put, List.setIfInBounds_toArray, List.set_cons_succ, List.set_cons_zero]) | ((with_reducible refine wpl_load_row rt24 ?_ (.tmp 15) rfl (g5) rfl 24 _ ?_ Hn.out ?_); rfl; rfl; simp only [Act.put, List.setIfInBounds_toArray, List.set_cons_succ, List.set_cons_zero]))
            refine Calls.mono (same_eq 0 0 A2 none [] c2 0 _ SOb Sl.nil_) ?_
            rintro e w9 ⟨rfl, hb9⟩
            replace Hk := Lib.hid ((hb9.block _ lk).trans Hk.out)
            replace Hn := Lib.hid ((hb9.block _ ln).trans Hn.out)
            replace SOk := SOk.keep hb9
            replace lk := Nat.lt_of_lt_of_le lk hb9.size
            replace ln := Nat.lt_of_lt_of_le ln hb9.size
            replace hB := bt hB hb9
            clear k0 k1
            go_wp2_with (first | ((with_reducible refine wpl_load_row rt24 ?_ (.tmp 12) rfl (g4) rfl 24 _ ?_ Hk.out ?_); rfl; rfl; simp only [Act.put, List.setIfInBounds_toArray, List.set_cons_succ, List.set_cons_zero]) | ((with_reducible refine wpl_load_row rt24 ?_ (.tmp 15) rfl (g5) rfl 24 _ ?_ Hn.out ?_); rfl; rfl; simp only [Act.put, List.setIfInBounds_toArray, List.set_cons_succ, List.set_cons_zero]))
            refine Calls.mono (same_eq 0 0 A4 none [] c4 0 _ SOk Sl.nil_) ?_
            rintro e w10 ⟨rfl, hb10⟩
            go_wp2_with fail
            all_goals exact bt hb9 hb10
        · have hcf : cutB W H l.length a b = false := by simp [cutB, hm, ha, hb]; omega
          have hE : (1 : Int) = E1 := by rw [← HE1.out, hcf]; rfl
          have hX : (0 : Int) = X1 := by rw [← HX1.out, hcf]; rfl
          have hY : (0 : Int) = Y1 := by rw [← HY1.out, hcf]; rfl
          have hOb := Ob
          unfold boxR at hOb
          rw [hcf, if_neg (by decide)] at hOb
          obtain ⟨hnn2, SOb⟩ := hOb.sl'
          clear hOb
          have hOk := Ok
          unfold cutR at hOk
          rw [hcf, if_neg (by decide)] at hOk
          obtain ⟨hnn4, SOk⟩ := hOk.sl'
          clear hOk
          subst hE hX hY hnn2 hnn4
          clear k0 k1
          have k0 := row_cell HX.out 0 rfl
          have k1 := row_cell HX.out 1 rfl
          go_wp2_with (first | ((with_reducible refine wpl_load_row rt24 ?_ (.tmp 8) rfl (g2) rfl 24 _ ?_ Hb.out ?_); rfl; rfl; simp only [Act.put, List.setIfInBounds_toArray, List.set_cons_succ, List.set_cons_zero]) | ((with_reducible refine wpl_load_row rt24 ?_ (.tmp 15) rfl (g5) rfl 24 _ ?_ Hn.out ?_); rfl; rfl; simp only [Act.put, List.setIfInBounds_toArray, List.set_cons_succ, List.set_cons_zero]))
          refine Calls.mono (same_eq 0 0 A2 none [] c2 0 _ SOb Sl.nil_) ?_
          rintro e w9 ⟨rfl, hb9⟩
          replace Hk := Lib.hid ((hb9.block _ lk).trans Hk.out)
          replace Hn := Lib.hid ((hb9.block _ ln).trans Hn.out)
          replace SOk := SOk.keep hb9
          replace lk := Nat.lt_of_lt_of_le lk hb9.size
          replace ln := Nat.lt_of_lt_of_le ln hb9.size
          replace hB := bt hB hb9
          clear k0 k1
          go_wp2_with (first | ((with_reducible refine wpl_load_row rt24 ?_ (.tmp 12) rfl (g4) rfl 24 _ ?_ Hk.out ?_); rfl; rfl; simp only [Act.put, List.setIfInBounds_toArray, List.set_cons_succ, List.set_cons_zero]) | ((with_reducible refine wpl_load_row rt24 ?_ (.tmp 15) rfl (g5) rfl 24 _ ?_ Hn.out ?_); rfl; rfl; simp only [Act.put, List.setIfInBounds_toArray, List.set_cons_succ, List.set_cons_zero]))
          refine Calls.mono (same_eq 0 0 A4 none [] c4 0 _ SOk Sl.nil_) ?_
          rintro e w10 ⟨rfl, hb10⟩
          go_wp2_with fail
          all_goals exact bt hb9 hb10
      | false =>
        have hq3 := HQ.out.symm
        have hcf : cutB W H l.length a b = false := by unfold cutB; rw [← Bool.and_assoc, hq3]; rfl
        have hE : (1 : Int) = E1 := by rw [← HE1.out, hcf]; rfl
        have hX : (0 : Int) = X1 := by rw [← HX1.out, hcf]; rfl
        have hY : (0 : Int) = Y1 := by rw [← HY1.out, hcf]; rfl
        have hOb := Ob
        unfold boxR at hOb
        rw [hcf, if_neg (by decide)] at hOb
        obtain ⟨hnn2, SOb⟩ := hOb.sl'
        clear hOb
        have hOk := Ok
        unfold cutR at hOk
        rw [hcf, if_neg (by decide)] at hOk
        obtain ⟨hnn4, SOk⟩ := hOk.sl'
        clear hOk
        subst hE hX hY hnn2 hnn4
        clear k0 k1
        have k0 := row_cell HX.out 0 rfl
        have k1 := row_cell HX.out 1 rfl
        go_wp2_with (first | ((with_reducible refine wpl_load_row rt24 ?_ (.tmp 8) rfl (g2) rfl 24 _ ?_ Hb.out ?_); rfl; rfl; simp only [Act.put, List.setIfInBounds_toArray, List.set_cons_succ, List.set_cons_zero]) | ((with_reducible refine wpl_load_row rt24 ?_ (.tmp 15) rfl (g5) rfl 24 _ ?_ Hn.out ?_); rfl; rfl; simp only [Act.put, List.setIfInBounds_toArray, List.set_cons_succ, List.set_cons_zero]))
        refine Calls.mono (same_eq 0 0 A2 none [] c2 0 _ SOb Sl.nil_) ?_
        rintro e w9 ⟨rfl, hb9⟩
        replace Hk := Lib.hid ((hb9.block _ lk).trans Hk.out)
        replace Hn := Lib.hid ((hb9.block _ ln).trans Hn.out)
        replace SOk := SOk.keep hb9
        replace lk := Nat.lt_of_lt_of_le lk hb9.size
        replace ln := Nat.lt_of_lt_of_le ln hb9.size
        replace hB := bt hB hb9
        clear k0 k1
        go_wp2_with (first | ((with_reducible refine wpl_load_row rt24 ?_ (.tmp 12) rfl (g4) rfl 24 _ ?_ Hk.out ?_); rfl; rfl; simp only [Act.put, List.setIfInBounds_toArray, List.set_cons_succ, List.set_cons_zero]) | ((with_reducible refine wpl_load_row rt24 ?_ (.tmp 15) rfl (g5) rfl 24 _ ?_ Hn.out ?_); rfl; rfl; simp only [Act.put, List.setIfInBounds_toArray, List.set_cons_succ, List.set_cons_zero]))
        refine Calls.mono (same_eq 0 0 A4 none [] c4 0 _ SOk Sl.nil_) ?_
        rintro e w10 ⟨rfl, hb10⟩
        go_wp2_with fail
        all_goals exact bt hb9 hb10
    by_cases hm : mayB W H l.length = true
    · refine Calls.mono (rmay_any W H A l.length c _) ?_
      rw [hm]
      rintro e w5 ⟨rfl, hb5⟩
      go_wp2_with fail
      by_cases ha : okS a = true
      · refine Calls.mono (rsize_any a _) ?_
        rw [ha]
        rintro e wx ⟨rfl, rfl⟩
        go_wp2_with fail
        by_cases hb : okS b = true
        · refine Calls.mono (rsize_any b _) ?_
          rw [hb]
          rintro e wx ⟨rfl, rfl⟩
          go_wp2_with fail
          all_goals exact tail7 true (by simp [hm, ha, hb]) _ hb5 _ _ _ _ _ _ _ _ _ _ _ _ _ _ _ _ _ _ _ _ _ _ _ _ _ _ _ _ _ _ _ _ _ _ _ _ _ _ _ _ _ _ _ _ _ _ _ _ _ _ _ _ _ _ _ _ _ _ _ _ _ _ _ _ _ _ _ _ _ _ _ _ _ _ _ _ _ _ _ _ _ _ _ _ _ _ _ _ _ _ _ _ _ _ _ _ _ _ _ _ _ _ _ _ _ _ _ _ _ _ _ _ _ _ _ _ _ _ _ _ _ _ _ _ _ _ _ _ _ _ _ _ _ _ _ _ _ _ _ _ _ _ _ _ _ _ _ _ _ _ _ _ _ _ _ _ _
        · have hb' : okS b = false := by simpa using hb
          refine Calls.mono (rsize_any b _) ?_
          rw [hb']
          rintro e wx ⟨rfl, rfl⟩
          go_wp2_with fail
          all_goals exact tail7 false (by simp [hm, ha, hb']) _ hb5 _ _ _ _ _ _ _ _ _ _ _ _ _ _ _ _ _ _ _ _ _ _ _ _ _ _ _ _ _ _ _ _ _ _ _ _ _ _ _ _ _ _ _ _ _ _ _ _ _ _ _ _ _ _ _ _ _ _ _ _ _ _ _ _ _ _ _ _ _ _ _ _ _ _ _ _ _ _ _ _ _ _ _ _ _ _ _ _ _ _ _ _ _ _ _ _ _ _ _ _ _ _ _ _ _ _ _ _ _ _ _ _ _ _ _ _ _ _ _ _ _ _ _ _ _ _ _ _ _ _ _ _ _ _ _ _ _ _ _ _ _ _ _ _ _ _ _ _ _ _ _ _ _ _ _ _ _
      · have ha' : okS a = false := by simpa using ha
        refine Calls.mono (rsize_any a _) ?_
        rw [ha']
        rintro e wx ⟨rfl, rfl⟩
        go_wp2_with fail
        all_goals exact tail7 false (by simp [hm, ha']) _ hb5 _ _ _ _ _ _ _ _ _ _ _ _ _ _ _ _ _ _ _ _ _ _ _ _ _ _ _ _ _ _ _ _ _ _ _ _ _ _ _ _ _ _ _ _ _ _ _ _ _ _ _ _ _ _ _ _ _ _ _ _ _ _ _ _ _ _ _ _ _ _ _ _ _ _ _ _ _ _ _ _ _ _ _ _ _ _ _ _ _ _ _ _ _ _ _ _ _ _ _ _ _ _ _ _ _ _ _ _ _ _ _ _ _ _ _ _ _ _ _ _ _ _ _ _ _ _ _ _ _ _ _ _ _ _ _ _ _ _ _ _ _ _ _ _ _ _ _ _ _ _ _ _ _ _ _ _ _
    · have hm' : mayB W H l.length = false := by simpa using hm
      refine Calls.mono (rmay_any W H A l.length c _) ?_
      rw [hm']
      rintro e w5 ⟨rfl, hb5⟩
      go_wp2_with fail
      all_goals exact tail7 false (by simp [hm']) _ hb5 _ _ _ _ _ _ _ _ _ _ _ _ _ _ _ _ _ _ _ _ _ _ _ _ _ _ _ _ _ _ _ _ _ _ _ _ _ _ _ _ _ _ _ _ _ _ _ _ _ _ _ _ _ _ _ _ _ _ _ _ _ _ _ _ _ _ _ _ _ _ _ _ _ _ _ _ _ _ _ _ _ _ _ _ _ _ _ _ _ _ _ _ _ _ _ _ _ _ _ _ _ _ _ _ _ _ _ _ _ _ _ _ _ _ _ _ _ _ _ _ _ _ _ _ _ _ _ _ _ _ _ _ _ _ _ _ _ _ _ _ _ _ _ _ _ _ _ _ _ _ _ _ _ _ _ _ _
  by_cases hbig : 3000 < (l.length : Int)
  · go_wp2_with fail
    refine Calls.mono (awake_any _) ?_
    rintro e wz ⟨rfl, hbz⟩
    go_wp2_with fail
    go_ret
    exact ⟨rfl, bt hB hbz⟩
  · have hl3 : l.length ≤ 3000 := by omega
    by_cases ha : 60 < a
    · by_cases ha2 : a ≤ 4096
      · go_wp2_with fail
        refine Calls.mono (awake_any _) ?_
        rintro e wz ⟨rfl, hbz⟩
        go_wp2_with fail
        go_ret
        exact ⟨rfl, bt hB hbz⟩
      · by_cases hb : 60 < b
        · by_cases hb2 : b ≤ 4096
          · go_wp2_with fail
            refine Calls.mono (awake_any _) ?_
            rintro e wz ⟨rfl, hbz⟩
            go_wp2_with fail
            go_ret
            exact ⟨rfl, bt hB hbz⟩
          · go_wp2_with fail
        · go_wp2_with fail
    · by_cases hb : 60 < b
      · by_cases hb2 : b ≤ 4096
        · go_wp2_with fail
          refine Calls.mono (awake_any _) ?_
          rintro e wz ⟨rfl, hbz⟩
          go_wp2_with fail
          go_ret
          exact ⟨rfl, bt hB hbz⟩
        · go_wp2_with fail
      · go_wp2_with fail
end Go.Proofs.Ytdjfjndmkkhknaa
