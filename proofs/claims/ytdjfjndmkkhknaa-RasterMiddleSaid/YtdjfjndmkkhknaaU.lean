/- The walk of RasterBack. -/
import Derived.Test.YtdjfjndmkkhknaaT
namespace Go.Proofs.Ytdjfjndmkkhknaa
open Go.RowKit
open Go.Tin
set_option linter.unusedVariables false
set_option linter.unusedSimpArgs false

theorem nth_mem_or (l : List Int) (i : Nat) : nth l i = 0 ∨ nth l i ∈ l := by
  unfold nth
  rw [List.getD_eq_getElem?_getD]
  by_cases h : i < l.length
  · right
    rw [List.getElem?_eq_getElem h]
    exact List.getElem_mem h
  · left
    rw [List.getElem?_eq_none (by omega)]
    rfl
theorem byts_mem {l : List Int} (h : ∀ z ∈ l, 0 ≤ z ∧ z < 256) : Byts l := fun j => by
  rcases nth_mem_or l j with h0 | h1
  · rw [h0]; decide
  · exact h _ h1
theorem byts_rows (tell : Nat → Nat → List Int) (h : ∀ x y, ∀ z ∈ tell x y, 0 ≤ z ∧ z < 256) (wd ht : Nat) : Byts (rows tell wd ht) := by
  have hc : ∀ y n, ∀ z ∈ cols tell y n, 0 ≤ z ∧ z < 256 := fun y n => by
    induction n with
    | zero => intro z hz; simp [cols] at hz
    | succ n ih =>
      intro z hz
      rw [cols, List.mem_append] at hz
      rcases hz with hz | hz
      · exact ih z hz
      · exact h _ _ z hz
  refine byts_mem ?_
  induction ht with
  | zero => intro z hz; simp [rows] at hz
  | succ n ih =>
    intro z hz
    rw [rows, List.mem_append] at hz
    rcases hz with hz | hz
    · exact ih z hz
    · exact hc _ _ z hz
theorem col_byts {l : List Int} (hb : Byts l) (p : Nat) : ∀ z ∈ col l p, 0 ≤ z ∧ z < 256 := by
  intro z hz
  simp only [col, List.mem_cons, List.not_mem_nil, or_false] at hz
  rcases hz with rfl | rfl | rfl <;> exact hb _
theorem padR_byts (l : List Int) (W H a b : Int) (hb : Byts l) : Byts (padR l W H a b) := by
  unfold padR
  split
  · exact byts_rows _ (fun x y => col_byts hb _) _ _
  · exact byts_mem (by simp)
theorem cutR_byts (l : List Int) (W H a b : Int) (hb : Byts l) : Byts (cutR l W H a b) := by
  unfold cutR
  split
  · exact byts_rows _ (fun x y => col_byts hb _) _ _
  · exact byts_mem (by simp)
theorem alike_of (W H : Int) (A A' : Option Addr) (l l' : List Int) (c c' : Nat) (w : World) (h : l = l') (hs : Sl .u8 w A l) (hs' : Sl .u8 w A' l') :
    Calls Try.prog 22 #[.agg #[.int .i64 W, .int .i64 H, .slice A l.length c], .agg #[.int .i64 W, .int .i64 H, .slice A' l'.length c']] w fun e w' => e = .returned (.bool true) ∧ Below w.heap.size w w' := by
  subst h
  exact alike_eq W H A A' l c c' w hs hs'
theorem box_ok (W H a b : Int) (A : Option Addr) (l : List Int) (c : Nat) (w : World) (hsl : Sl .u8 w A l) (hlc : l.length ≤ c) (hby : Byts l) (hc : cutB W H l.length a b = true) :
    Calls Try.prog 16 #[.agg #[.int .i64 W, .int .i64 H, .slice A l.length c], .int .i64 a, .int .i64 b] w fun e w' => ∃ A' c', e = .returned (.tuple #[.agg #[.int .i64 a, .int .i64 b, .slice A' (boxR l W H a b).length c'], .int .i64 0]) ∧ Sl .u8 w' A' (boxR l W H a b) ∧ (boxR l W H a b).length ≤ c' ∧ Below w.heap.size w w' := by
  have h := box_all W H a b A l c w hsl hlc hby
  have e1 : ∀ x, ifB (cutB W H l.length a b) x = x := fun x => by rw [hc]; rfl
  have e2 : ifE (cutB W H l.length a b) = 0 := by rw [hc]; rfl
  rw [e1, e1, e2] at h
  refine h.mono ?_
  rintro e w' ⟨A', n', c', rfl, hown, hb⟩
  obtain ⟨A2, c2, hv, hs, hcc, _, _⟩ := hown.sl
  injection hv with h1 h2 h3
  subst h1 h2 h3
  exact ⟨A', c', rfl, hs, hcc, hb⟩
theorem box_slf (W H : Int) (A : Option Addr) (l : List Int) (c : Nat) (w : World) (hsl : Sl .u8 w A l) (hlc : l.length ≤ c) (hby : Byts l) (hm : mayB W H l.length = true) :
    Calls Try.prog 16 #[.agg #[.int .i64 W, .int .i64 H, .slice A l.length c], .int .i64 W, .int .i64 H] w fun e w' => ∃ A' c', e = .returned (.tuple #[.agg #[.int .i64 W, .int .i64 H, .slice A' l.length c'], .int .i64 0]) ∧ Sl .u8 w' A' l ∧ l.length ≤ c' ∧ Below w.heap.size w w' := by
  have h := box_ok W H W H A l c w hsl hlc hby (cutB_self hm)
  rw [boxR_self l hby W H hm] at h
  exact h
theorem cut_ok (W H a b : Int) (A : Option Addr) (l : List Int) (c : Nat) (w : World) (hsl : Sl .u8 w A l) (hlc : l.length ≤ c) (hby : Byts l) (hc : cutB W H l.length a b = true) :
    Calls Try.prog 18 #[.agg #[.int .i64 W, .int .i64 H, .slice A l.length c], .int .i64 a, .int .i64 b] w fun e w' => ∃ A' c', e = .returned (.tuple #[.agg #[.int .i64 a, .int .i64 b, .slice A' (cutR l W H a b).length c'], .int .i64 0]) ∧ Sl .u8 w' A' (cutR l W H a b) ∧ (cutR l W H a b).length ≤ c' ∧ Below w.heap.size w w' := by
  have h := cut_all W H a b A l c w hsl hlc hby
  have e1 : ∀ x, ifB (cutB W H l.length a b) x = x := fun x => by rw [hc]; rfl
  have e2 : ifE (cutB W H l.length a b) = 0 := by rw [hc]; rfl
  rw [e1, e1, e2] at h
  refine h.mono ?_
  rintro e w' ⟨A', n', c', rfl, hown, hb⟩
  obtain ⟨A2, c2, hv, hs, hcc, _, _⟩ := hown.sl
  injection hv with h1 h2 h3
  subst h1 h2 h3
  exact ⟨A', c', rfl, hs, hcc, hb⟩
theorem cut_slf (W H : Int) (A : Option Addr) (l : List Int) (c : Nat) (w : World) (hsl : Sl .u8 w A l) (hlc : l.length ≤ c) (hby : Byts l) (hm : mayB W H l.length = true) :
    Calls Try.prog 18 #[.agg #[.int .i64 W, .int .i64 H, .slice A l.length c], .int .i64 W, .int .i64 H] w fun e w' => ∃ A' c', e = .returned (.tuple #[.agg #[.int .i64 W, .int .i64 H, .slice A' l.length c'], .int .i64 0]) ∧ Sl .u8 w' A' l ∧ l.length ≤ c' ∧ Below w.heap.size w w' := by
  have h := cut_ok W H W H A l c w hsl hlc hby (cutB_self hm)
  rw [cutR_self l W H hm] at h
  exact h
theorem pad_ok (W H a b : Int) (A : Option Addr) (l : List Int) (c : Nat) (w : World) (hsl : Sl .u8 w A l) (hlc : l.length ≤ c) (hby : Byts l) (hc : padB W H l.length a b = true) :
    Calls Try.prog 17 #[.agg #[.int .i64 W, .int .i64 H, .slice A l.length c], .int .i64 a, .int .i64 b] w fun e w' => ∃ A' c', e = .returned (.tuple #[.agg #[.int .i64 a, .int .i64 b, .slice A' (padR l W H a b).length c'], .int .i64 0]) ∧ Sl .u8 w' A' (padR l W H a b) ∧ (padR l W H a b).length ≤ c' ∧ Below w.heap.size w w' := by
  have h := pad_all W H a b A l c w hsl hlc hby
  have e1 : ∀ x, ifB (padB W H l.length a b) x = x := fun x => by rw [hc]; rfl
  have e2 : ifE (padB W H l.length a b) = 0 := by rw [hc]; rfl
  rw [e1, e1, e2] at h
  refine h.mono ?_
  rintro e w' ⟨A', n', c', rfl, hown, hb⟩
  obtain ⟨A2, c2, hv, hs, hcc, _, _⟩ := hown.sl
  injection hv with h1 h2 h3
  subst h1 h2 h3
  exact ⟨A', c', rfl, hs, hcc, hb⟩
theorem pad_slf (W H : Int) (A : Option Addr) (l : List Int) (c : Nat) (w : World) (hsl : Sl .u8 w A l) (hlc : l.length ≤ c) (hby : Byts l) (hm : mayB W H l.length = true) :
    Calls Try.prog 17 #[.agg #[.int .i64 W, .int .i64 H, .slice A l.length c], .int .i64 W, .int .i64 H] w fun e w' => ∃ A' c', e = .returned (.tuple #[.agg #[.int .i64 W, .int .i64 H, .slice A' l.length c'], .int .i64 0]) ∧ Sl .u8 w' A' l ∧ l.length ≤ c' ∧ Below w.heap.size w w' := by
  have h := pad_ok W H W H A l c w hsl hlc hby (padB_self hm)
  rw [padR_self l W H hm] at h
  exact h

set_option maxRecDepth 100000 in
set_option maxHeartbeats 8000000 in
theorem back_any (W H : Int) (A : Option Addr) (len cap : Nat) (zs : List Int) (a b : Int) (w : World) (wW : (Lit.int .i64 W).wf = true) (wH : (Lit.int .i64 H).wf = true) (hrow : IsRow .u8 w A len cap zs) (wa : (Lit.int .i64 a).wf = true) (wb : (Lit.int .i64 b).wf = true) :
    Calls Try.prog 5 #[.agg #[.int .i64 W, .int .i64 H, .slice A len cap], .int .i64 a, .int .i64 b] w fun e w' => e = .returned (.bool true) ∧ Below w.heap.size w w' := by
  obtain ⟨hsl, hln, hlc, hcm, hwf⟩ := Sl.of_row hrow
  have hby := byts_of hwf
  generalize zs.take len = l at *
  subst hln
  generalize cap = c at *
  have HS := Lib.hid hsl
  have HY := Lib.hid hby
  have hlm : l.length ≤ 9223372036854775807 := Nat.le_trans hlc (Nat.le_trans hcm (by decide))
  clear hrow hsl hby hwf wW wH wa wb hcm
  go_enter Try.func5, Try.ntmps5
  have hB := ba (brefl w) (.cells #[.int .i64 W, .int .i64 H, .slice A l.length c] 24)
  have lX : w.heap.size < (w.alloc (.cells #[.int .i64 W, .int .i64 H, .slice A l.length c] 24)).heap.size := by simp
  have hrw := heap_alloc_new w (.cells #[.int .i64 W, .int .i64 H, .slice A l.length c] 24)
  have k0 := row_cell hrw 0 rfl
  have k1 := row_cell hrw 1 rfl
  have k2 := row_cell hrw 2 rfl
  have HX := Lib.hid hrw
  clear hrw
  by_cases hbig : 3000 < (l.length : Int)
  · go_wp2_with fail
    refine Calls.mono (awake_any _) ?_
    rintro e wz ⟨rfl, hbz⟩
    go_wp2_with fail
    go_ret
    exact ⟨rfl, bt hB hbz⟩
  · by_cases ha : 60 < a
    · go_wp2_with fail
      refine Calls.mono (awake_any _) ?_
      rintro e wz ⟨rfl, hbz⟩
      go_wp2_with fail
      go_ret
      exact ⟨rfl, bt hB hbz⟩
    · by_cases hb : 60 < b
      · go_wp2_with fail
        refine Calls.mono (awake_any _) ?_
        rintro e wz ⟨rfl, hbz⟩
        go_wp2_with fail
        go_ret
        exact ⟨rfl, bt hB hbz⟩
      · by_cases hm : mayB W H l.length = true
        · go_wp2_with fail
          clear k0 k1 k2
          have hab : a ≤ 60 ∧ b ≤ 60 := by omega
          obtain ⟨hW, hH, hnn⟩ := mayB_t hm
          obtain ⟨hW0, hW1⟩ := hW
          obtain ⟨hH0, hH1⟩ := hH
          clear hnn
          refine Calls.mono (may_any W H A l.length c _) ?_
          rw [hm]
          rintro e w1 ⟨rfl, hb1⟩
          replace HX := Lib.hid ((hb1.block _ lX).trans HX.out)
          replace lX := Nat.lt_of_lt_of_le lX hb1.size
          replace hB := bt hB hb1
          have kX0 := row_cell HX.out 0 rfl
          have kX1 := row_cell HX.out 1 rfl
          go_wp2_with (first | ((with_reducible refine wpl_load_row rt24 ?_ (.tmp 3) rfl (w.heap.size) rfl 24 _ ?_ HX.out ?_); rfl; rfl; simp only [Act.put, List.setIfInBounds_toArray, List.set_cons_succ, List.set_cons_zero]))
          clear kX0 kX1
          refine Calls.mono (box_slf W H A l c _ (HS.out.keep hB) hlc HY.out hm) ?_
          rintro e w7 ⟨A7, c7, rfl, S7, hc7, hb7⟩
          replace HX := Lib.hid ((hb7.block _ lX).trans HX.out)
          replace lX := Nat.lt_of_lt_of_le lX hb7.size
          replace hB := bt hB hb7
          have hal := ba (brefl w7) (.cells #[.int .i64 W, .int .i64 H, .slice A7 l.length c7] 24)
          replace HX := Lib.hid ((hal.block _ lX).trans HX.out)
          replace S7 := S7.keep hal
          replace lX := Nat.lt_of_lt_of_le lX hal.size
          replace hB := bt hB hal
          have Hb := Lib.hid (heap_alloc_new w7 (.cells #[.int .i64 W, .int .i64 H, .slice A7 l.length c7] 24))
          have lb : w7.heap.size < (w7.alloc (.cells #[.int .i64 W, .int .i64 H, .slice A7 l.length c7] 24)).heap.size := by simp
          clear hal
          have kX0 := row_cell HX.out 0 rfl
          have kX1 := row_cell HX.out 1 rfl
          go_wp2_with (first | ((with_reducible refine wpl_load_row rt24 ?_ (.tmp 3) rfl (w.heap.size) rfl 24 _ ?_ HX.out ?_); rfl; rfl; simp only [Act.put, List.setIfInBounds_toArray, List.set_cons_succ, List.set_cons_zero]))
          clear kX0 kX1
          generalize hggg7 : w7.heap.size = g7 at *
          generalize w7.alloc _ = W7 at *
          refine Calls.mono (pad_slf W H A l c _ (HS.out.keep hB) hlc HY.out hm) ?_
          rintro e w9 ⟨A9, c9, rfl, S9, hc9, hb9⟩
          replace HX := Lib.hid ((hb9.block _ lX).trans HX.out)
          replace Hb := Lib.hid ((hb9.block _ lb).trans Hb.out)
          replace S7 := S7.keep hb9
          replace lX := Nat.lt_of_lt_of_le lX hb9.size
          replace lb := Nat.lt_of_lt_of_le lb hb9.size
          replace hB := bt hB hb9
          have hal := ba (brefl w9) (.cells #[.int .i64 W, .int .i64 H, .slice A9 l.length c9] 24)
          replace HX := Lib.hid ((hal.block _ lX).trans HX.out)
          replace Hb := Lib.hid ((hal.block _ lb).trans Hb.out)
          replace S7 := S7.keep hal
          replace S9 := S9.keep hal
          replace lX := Nat.lt_of_lt_of_le lX hal.size
          replace lb := Nat.lt_of_lt_of_le lb hal.size
          replace hB := bt hB hal
          have Hp := Lib.hid (heap_alloc_new w9 (.cells #[.int .i64 W, .int .i64 H, .slice A9 l.length c9] 24))
          have lp : w9.heap.size < (w9.alloc (.cells #[.int .i64 W, .int .i64 H, .slice A9 l.length c9] 24)).heap.size := by simp
          clear hal
          have kX0 := row_cell HX.out 0 rfl
          have kX1 := row_cell HX.out 1 rfl
          go_wp2_with (first | ((with_reducible refine wpl_load_row rt24 ?_ (.tmp 3) rfl (w.heap.size) rfl 24 _ ?_ HX.out ?_); rfl; rfl; simp only [Act.put, List.setIfInBounds_toArray, List.set_cons_succ, List.set_cons_zero]))
          clear kX0 kX1
          generalize hggg9 : w9.heap.size = g9 at *
          generalize w9.alloc _ = W9 at *
          refine Calls.mono (cut_slf W H A l c _ (HS.out.keep hB) hlc HY.out hm) ?_
          rintro e w11 ⟨A11, c11, rfl, S11, hc11, hb11⟩
          replace HX := Lib.hid ((hb11.block _ lX).trans HX.out)
          replace Hb := Lib.hid ((hb11.block _ lb).trans Hb.out)
          replace Hp := Lib.hid ((hb11.block _ lp).trans Hp.out)
          replace S7 := S7.keep hb11
          replace S9 := S9.keep hb11
          replace lX := Nat.lt_of_lt_of_le lX hb11.size
          replace lb := Nat.lt_of_lt_of_le lb hb11.size
          replace lp := Nat.lt_of_lt_of_le lp hb11.size
          replace hB := bt hB hb11
          have hal := ba (brefl w11) (.cells #[.int .i64 W, .int .i64 H, .slice A11 l.length c11] 24)
          replace HX := Lib.hid ((hal.block _ lX).trans HX.out)
          replace Hb := Lib.hid ((hal.block _ lb).trans Hb.out)
          replace Hp := Lib.hid ((hal.block _ lp).trans Hp.out)
          replace S7 := S7.keep hal
          replace S9 := S9.keep hal
          replace S11 := S11.keep hal
          replace lX := Nat.lt_of_lt_of_le lX hal.size
          replace lb := Nat.lt_of_lt_of_le lb hal.size
          replace lp := Nat.lt_of_lt_of_le lp hal.size
          replace hB := bt hB hal
          have Hk := Lib.hid (heap_alloc_new w11 (.cells #[.int .i64 W, .int .i64 H, .slice A11 l.length c11] 24))
          have lk : w11.heap.size < (w11.alloc (.cells #[.int .i64 W, .int .i64 H, .slice A11 l.length c11] 24)).heap.size := by simp
          clear hal
          go_wp2_with (first | ((with_reducible refine wpl_load_row rt24 ?_ (.tmp 7) rfl (g7) rfl 24 _ ?_ Hb.out ?_); rfl; rfl; simp only [Act.put, List.setIfInBounds_toArray, List.set_cons_succ, List.set_cons_zero]) | ((with_reducible refine wpl_load_row rt24 ?_ (.tmp 3) rfl (w.heap.size) rfl 24 _ ?_ HX.out ?_); rfl; rfl; simp only [Act.put, List.setIfInBounds_toArray, List.set_cons_succ, List.set_cons_zero]))
          generalize hggg11 : w11.heap.size = g11 at *
          generalize w11.alloc _ = W11 at *
          refine Calls.mono (alike_eq W H A7 A l c7 c _ S7 (HS.out.keep hB)) ?_
          rintro e w12 ⟨rfl, hb12⟩
          replace HX := Lib.hid ((hb12.block _ lX).trans HX.out)
          replace Hp := Lib.hid ((hb12.block _ lp).trans Hp.out)
          replace Hk := Lib.hid ((hb12.block _ lk).trans Hk.out)
          replace S9 := S9.keep hb12
          replace S11 := S11.keep hb12
          replace lX := Nat.lt_of_lt_of_le lX hb12.size
          replace lp := Nat.lt_of_lt_of_le lp hb12.size
          replace lk := Nat.lt_of_lt_of_le lk hb12.size
          replace hB := bt hB hb12
          go_wp2_with (first | ((with_reducible refine wpl_load_row rt24 ?_ (.tmp 9) rfl (g9) rfl 24 _ ?_ Hp.out ?_); rfl; rfl; simp only [Act.put, List.setIfInBounds_toArray, List.set_cons_succ, List.set_cons_zero]) | ((with_reducible refine wpl_load_row rt24 ?_ (.tmp 3) rfl (w.heap.size) rfl 24 _ ?_ HX.out ?_); rfl; rfl; simp only [Act.put, List.setIfInBounds_toArray, List.set_cons_succ, List.set_cons_zero]))
          refine Calls.mono (alike_eq W H A9 A l c9 c _ S9 (HS.out.keep hB)) ?_
          rintro e w13 ⟨rfl, hb13⟩
          replace HX := Lib.hid ((hb13.block _ lX).trans HX.out)
          replace Hk := Lib.hid ((hb13.block _ lk).trans Hk.out)
          replace S11 := S11.keep hb13
          replace lX := Nat.lt_of_lt_of_le lX hb13.size
          replace lk := Nat.lt_of_lt_of_le lk hb13.size
          replace hB := bt hB hb13
          go_wp2_with (first | ((with_reducible refine wpl_load_row rt24 ?_ (.tmp 11) rfl (g11) rfl 24 _ ?_ Hk.out ?_); rfl; rfl; simp only [Act.put, List.setIfInBounds_toArray, List.set_cons_succ, List.set_cons_zero]) | ((with_reducible refine wpl_load_row rt24 ?_ (.tmp 3) rfl (w.heap.size) rfl 24 _ ?_ HX.out ?_); rfl; rfl; simp only [Act.put, List.setIfInBounds_toArray, List.set_cons_succ, List.set_cons_zero]))
          refine Calls.mono (alike_eq W H A11 A l c11 c _ S11 (HS.out.keep hB)) ?_
          rintro e w14 ⟨rfl, hb14⟩
          replace HX := Lib.hid ((hb14.block _ lX).trans HX.out)
          replace lX := Nat.lt_of_lt_of_le lX hb14.size
          replace hB := bt hB hb14
          rename_i Kr hKr K6 hK6 Ko hKo
          have HKr := Lib.hid hKr
          clear hKr
          go_wp2_with fail
          refine HKr.out _ _ ?_
          clear HKr
          refine wp_seq_k fun K8 hK8 => ?_
          have HK8 := Lib.hid hK8
          clear hK8
          have kX0 := row_cell HX.out 0 rfl
          have kX1 := row_cell HX.out 1 rfl
          have tail8 : ∀ (u4 u5 u7 u8 u9 u10 u11 u12 u13 u14 u15 u16 u17 u18 u19 u20 u21 u22 u23 u24 u25 u26 u27 u28 u29 u30 u31 u32 u33 u34 u35 u36 u37 u38 u39 u40 u41 u42 u43 u44 u45 u46 u47 u48 u49 u50 u51 u52 u53 u54 u55 u56 u57 u58 u59 u60 u61 u62 u63 u64 u65 u66 u67 u68 u69 u70 u71 u72 u73 u74 u75 u76 u77 u78 u79 u80 u81 u82 u83 u84 u85 u86 u87 u88 u89 u90 u91 u92 u93 u94 u95 u96 u97 u98 u99 u100 u101 u102 u103 u104 u105 u106 u107 u108 u109 u110 u111 u112 u113 u114 u115 u116 u117 u118 u119 u120 u121 u122 u123 u124 u125 u126 u127 u128 u129 u130 u131 u132 u133 u134 u135 u136 u137 u138 u139 u140 u141 u142 u143 u144 u145 u146 u147 u148 u149 u150 u151 u152 u153 u154 u155 u156 u157 u158 u159 u160 u161 u162 u163 u164 u165 u166 u167 u168 u169 u170 u171 u172 u173 u174 u175 u176 u177 u178 u179 u180 u181 u182 u183 u184 u185 u186 u187 u188 u189 u190 u191 u192 u193 u194 u195 u196 u197 u198 u199 u200 u201 : Value), K8 { tmps := #[.agg #[.int .i64 W, .int .i64 H, .slice A l.length c], .int .i64 a, .int .i64 b, .pointer (some ⟨w.heap.size, 0, none⟩), u4, u5, .bool false, u7, u8, u9, u10, u11, u12, u13, u14, u15, u16, u17, u18, u19, u20, u21, u22, u23, u24, u25, u26, u27, u28, u29, u30, u31, u32, u33, u34, u35, u36, u37, u38, u39, u40, u41, u42, u43, u44, u45, u46, u47, u48, u49, u50, u51, u52, u53, u54, u55, u56, u57, u58, u59, u60, u61, u62, u63, u64, u65, u66, u67, u68, u69, u70, u71, u72, u73, u74, u75, u76, u77, u78, u79, u80, u81, u82, u83, u84, u85, u86, u87, u88, u89, u90, u91, u92, u93, u94, u95, u96, u97, u98, u99, u100, u101, u102, u103, u104, u105, u106, u107, u108, u109, u110, u111, u112, u113, u114, u115, u116, u117, u118, u119, u120, u121, u122, u123, u124, u125, u126, u127, u128, u129, u130, u131, u132, u133, u134, u135, u136, u137, u138, u139, u140, u141, u142, u143, u144, u145, u146, u147, u148, u149, u150, u151, u152, u153, u154, u155, u156, u157, u158, u159, u160, u161, u162, u163, u164, u165, u166, u167, u168, u169, u170, u171, u172, u173, u174, u175, u176, u177, u178, u179, u180, u181, u182, u183, u184, u185, u186, u187, u188, u189, u190, u191, u192, u193, u194, u195, u196, u197, u198, u199, u200, u201], defers := [] } w14 := by
            intros
            refine HK8.out _ _ ?_
            clear HK8
            by_cases a1 : a < 1
            · go_wp2_with fail
              refine Calls.mono (awake_any _) ?_
              rintro e wz ⟨rfl, hbz⟩
              go_wp2_with fail
              go_ret
              exact ⟨rfl, bt hB hbz⟩
            · by_cases b1 : b < 1
              · go_wp2_with fail
                refine Calls.mono (awake_any _) ?_
                rintro e wz ⟨rfl, hbz⟩
                go_wp2_with fail
                go_ret
                exact ⟨rfl, bt hB hbz⟩
              · by_cases aW : W < a
                · go_wp2_with fail
                  refine Calls.mono (awake_any _) ?_
                  rintro e wz ⟨rfl, hbz⟩
                  go_wp2_with fail
                  go_ret
                  exact ⟨rfl, bt hB hbz⟩
                · by_cases bH : H < b
                  · go_wp2_with fail
                    refine Calls.mono (awake_any _) ?_
                    rintro e wz ⟨rfl, hbz⟩
                    go_wp2_with fail
                    go_ret
                    exact ⟨rfl, bt hB hbz⟩
                  · have hcb : cutB W H l.length a b = true := by simp [cutB, hm, okS_mk (show 1 ≤ a by omega) (show a ≤ 4096 by omega), okS_mk (show 1 ≤ b by omega) (show b ≤ 4096 by omega)]; omega
                    obtain ⟨hcm, hc1, hc2, hce⟩ := cut_cut l W H a b hcb
                    have HCE := Lib.hid hce
                    clear hce kX0 kX1
                    have kX0 := row_cell HX.out 0 rfl
                    have kX1 := row_cell HX.out 1 rfl
                    go_wp2_with (first | ((with_reducible refine wpl_load_row rt24 ?_ (.tmp 3) rfl (w.heap.size) rfl 24 _ ?_ HX.out ?_); rfl; rfl; simp only [Act.put, List.setIfInBounds_toArray, List.set_cons_succ, List.set_cons_zero]))
                    clear kX0 kX1
                    refine Calls.mono (cut_ok W H a b A l c _ (HS.out.keep hB) hlc HY.out hcb) ?_
                    rintro e w17 ⟨A17, c17, rfl, S17, hc17, hb17⟩
                    replace HX := Lib.hid ((hb17.block _ lX).trans HX.out)
                    replace lX := Nat.lt_of_lt_of_le lX hb17.size
                    replace hB := bt hB hb17
                    have hal := ba (brefl w17) (.cells #[.int .i64 a, .int .i64 b, .slice A17 (cutR l W H a b).length c17] 24)
                    replace HX := Lib.hid ((hal.block _ lX).trans HX.out)
                    replace S17 := S17.keep hal
                    replace lX := Nat.lt_of_lt_of_le lX hal.size
                    replace hB := bt hB hal
                    have Hf := Lib.hid (heap_alloc_new w17 (.cells #[.int .i64 a, .int .i64 b, .slice A17 (cutR l W H a b).length c17] 24))
                    have lf : w17.heap.size < (w17.alloc (.cells #[.int .i64 a, .int .i64 b, .slice A17 (cutR l W H a b).length c17] 24)).heap.size := by simp
                    clear hal
                    go_wp2_with (first | ((with_reducible refine wpl_load_row rt24 ?_ (.tmp 17) rfl (g17) rfl 24 _ ?_ Hf.out ?_); rfl; rfl; simp only [Act.put, List.setIfInBounds_toArray, List.set_cons_succ, List.set_cons_zero]))
                    generalize hggg17 : w17.heap.size = g17 at *
                    generalize w17.alloc _ = W17 at *
                    refine Calls.mono (cut_ok a b 1 1 A17 (cutR l W H a b) c17 _ S17 hc17 (cutR_byts l W H a b HY.out) hc1) ?_
                    rintro e w19 ⟨A19, c19, rfl, S19, hc19, hb19⟩
                    replace HX := Lib.hid ((hb19.block _ lX).trans HX.out)
                    replace Hf := Lib.hid ((hb19.block _ lf).trans Hf.out)
                    replace S17 := S17.keep hb19
                    replace lX := Nat.lt_of_lt_of_le lX hb19.size
                    replace lf := Nat.lt_of_lt_of_le lf hb19.size
                    replace hB := bt hB hb19
                    have hal := ba (brefl w19) (.cells #[.int .i64 1, .int .i64 1, .slice A19 (cutR (cutR l W H a b) a b 1 1).length c19] 24)
                    replace HX := Lib.hid ((hal.block _ lX).trans HX.out)
                    replace Hf := Lib.hid ((hal.block _ lf).trans Hf.out)
                    replace S17 := S17.keep hal
                    replace S19 := S19.keep hal
                    replace lX := Nat.lt_of_lt_of_le lX hal.size
                    replace lf := Nat.lt_of_lt_of_le lf hal.size
                    replace hB := bt hB hal
                    have Hg := Lib.hid (heap_alloc_new w19 (.cells #[.int .i64 1, .int .i64 1, .slice A19 (cutR (cutR l W H a b) a b 1 1).length c19] 24))
                    have lg : w19.heap.size < (w19.alloc (.cells #[.int .i64 1, .int .i64 1, .slice A19 (cutR (cutR l W H a b) a b 1 1).length c19] 24)).heap.size := by simp
                    clear hal
                    go_wp2_with (first | ((with_reducible refine wpl_load_row rt24 ?_ (.tmp 3) rfl (w.heap.size) rfl 24 _ ?_ HX.out ?_); rfl; rfl; simp only [Act.put, List.setIfInBounds_toArray, List.set_cons_succ, List.set_cons_zero]))
                    generalize hggg19 : w19.heap.size = g19 at *
                    generalize w19.alloc _ = W19 at *
                    refine Calls.mono (cut_ok W H 1 1 A l c _ (HS.out.keep hB) hlc HY.out hc2) ?_
                    rintro e w21 ⟨A21, c21, rfl, S21, hc21, hb21⟩
                    replace HX := Lib.hid ((hb21.block _ lX).trans HX.out)
                    replace Hg := Lib.hid ((hb21.block _ lg).trans Hg.out)
                    replace S19 := S19.keep hb21
                    replace lX := Nat.lt_of_lt_of_le lX hb21.size
                    replace lg := Nat.lt_of_lt_of_le lg hb21.size
                    replace hB := bt hB hb21
                    have hal := ba (brefl w21) (.cells #[.int .i64 1, .int .i64 1, .slice A21 (cutR l W H 1 1).length c21] 24)
                    replace HX := Lib.hid ((hal.block _ lX).trans HX.out)
                    replace Hg := Lib.hid ((hal.block _ lg).trans Hg.out)
                    replace S19 := S19.keep hal
                    replace S21 := S21.keep hal
                    replace lX := Nat.lt_of_lt_of_le lX hal.size
                    replace lg := Nat.lt_of_lt_of_le lg hal.size
                    replace hB := bt hB hal
                    have Hh := Lib.hid (heap_alloc_new w21 (.cells #[.int .i64 1, .int .i64 1, .slice A21 (cutR l W H 1 1).length c21] 24))
                    have lh : w21.heap.size < (w21.alloc (.cells #[.int .i64 1, .int .i64 1, .slice A21 (cutR l W H 1 1).length c21] 24)).heap.size := by simp
                    clear hal
                    go_wp2_with (first | ((with_reducible refine wpl_load_row rt24 ?_ (.tmp 19) rfl (g19) rfl 24 _ ?_ Hg.out ?_); rfl; rfl; simp only [Act.put, List.setIfInBounds_toArray, List.set_cons_succ, List.set_cons_zero]) | ((with_reducible refine wpl_load_row rt24 ?_ (.tmp 21) rfl (g21) rfl 24 _ ?_ Hh.out ?_); rfl; rfl; simp only [Act.put, List.setIfInBounds_toArray, List.set_cons_succ, List.set_cons_zero]))
                    generalize hggg21 : w21.heap.size = g21 at *
                    generalize w21.alloc _ = W21 at *
                    refine Calls.mono (alike_of 1 1 A19 A21 _ _ c19 c21 _ HCE.out S19 S21) ?_
                    rintro e w22 ⟨rfl, hb22⟩
                    replace hB := bt hB hb22
                    go_wp2_with fail
                    refine Calls.mono (awake_any _) ?_
                    rintro e wz ⟨rfl, hbz⟩
                    go_wp2_with fail
                    go_ret
                    exact ⟨rfl, bt hB hbz⟩
          by_cases x1 : W ≤ a
          · by_cases y1 : H ≤ b
            · clear tail8
              have hpb : padB W H l.length a b = true := by simp [padB, hm, okS_mk (show 1 ≤ a by omega) (show a ≤ 4096 by omega), okS_mk (show 1 ≤ b by omega) (show b ≤ 4096 by omega), x1, y1]
              obtain ⟨-, hpm, hpc, hpe⟩ := cut_pad l W H a b hpb
              have HPE := Lib.hid hpe
              clear hpe
              clear HK8
              go_wp2_with (first | ((with_reducible refine wpl_load_row rt24 ?_ (.tmp 3) rfl (w.heap.size) rfl 24 _ ?_ HX.out ?_); rfl; rfl; simp only [Act.put, List.setIfInBounds_toArray, List.set_cons_succ, List.set_cons_zero]))
              refine Calls.mono (pad_ok W H a b A l c _ (HS.out.keep hB) hlc HY.out hpb) ?_
              rintro e w13 ⟨A13, c13, rfl, S13, hc13, hb13⟩
              replace HX := Lib.hid ((hb13.block _ lX).trans HX.out)
              replace lX := Nat.lt_of_lt_of_le lX hb13.size
              replace hB := bt hB hb13
              have hal := ba (brefl w13) (.cells #[.int .i64 a, .int .i64 b, .slice A13 (padR l W H a b).length c13] 24)
              replace HX := Lib.hid ((hal.block _ lX).trans HX.out)
              replace S13 := S13.keep hal
              replace lX := Nat.lt_of_lt_of_le lX hal.size
              replace hB := bt hB hal
              have Hd := Lib.hid (heap_alloc_new w13 (.cells #[.int .i64 a, .int .i64 b, .slice A13 (padR l W H a b).length c13] 24))
              have ld : w13.heap.size < (w13.alloc (.cells #[.int .i64 a, .int .i64 b, .slice A13 (padR l W H a b).length c13] 24)).heap.size := by simp
              clear hal
              have kX0 := row_cell HX.out 0 rfl
              have kX1 := row_cell HX.out 1 rfl
              go_wp2_with (first | ((with_reducible refine wpl_load_row rt24 ?_ (.tmp 13) rfl (g13) rfl 24 _ ?_ Hd.out ?_); rfl; rfl; simp only [Act.put, List.setIfInBounds_toArray, List.set_cons_succ, List.set_cons_zero]))
              clear kX0 kX1
              generalize hggg13 : w13.heap.size = g13 at *
              generalize w13.alloc _ = W13 at *
              have hpy : Byts (padR l W H a b) := padR_byts l W H a b HY.out
              refine Calls.mono (cut_ok a b W H A13 (padR l W H a b) c13 _ S13 hc13 hpy hpc) ?_
              rintro e w15 ⟨A15, c15, rfl, S15, hc15, hb15⟩
              replace HX := Lib.hid ((hb15.block _ lX).trans HX.out)
              replace Hd := Lib.hid ((hb15.block _ ld).trans Hd.out)
              replace S13 := S13.keep hb15
              replace lX := Nat.lt_of_lt_of_le lX hb15.size
              replace ld := Nat.lt_of_lt_of_le ld hb15.size
              replace hB := bt hB hb15
              have hal := ba (brefl w15) (.cells #[.int .i64 W, .int .i64 H, .slice A15 (cutR (padR l W H a b) a b W H).length c15] 24)
              replace HX := Lib.hid ((hal.block _ lX).trans HX.out)
              replace Hd := Lib.hid ((hal.block _ ld).trans Hd.out)
              replace S13 := S13.keep hal
              replace S15 := S15.keep hal
              replace lX := Nat.lt_of_lt_of_le lX hal.size
              replace ld := Nat.lt_of_lt_of_le ld hal.size
              replace hB := bt hB hal
              have He := Lib.hid (heap_alloc_new w15 (.cells #[.int .i64 W, .int .i64 H, .slice A15 (cutR (padR l W H a b) a b W H).length c15] 24))
              have le : w15.heap.size < (w15.alloc (.cells #[.int .i64 W, .int .i64 H, .slice A15 (cutR (padR l W H a b) a b W H).length c15] 24)).heap.size := by simp
              clear hal
              have kd0 := row_cell Hd.out 0 rfl
              have kd1 := row_cell Hd.out 1 rfl
              go_wp2_with (first | ((with_reducible refine wpl_load_row rt24 ?_ (.tmp 15) rfl (g15) rfl 24 _ ?_ He.out ?_); rfl; rfl; simp only [Act.put, List.setIfInBounds_toArray, List.set_cons_succ, List.set_cons_zero]) | ((with_reducible refine wpl_load_row rt24 ?_ (.tmp 3) rfl (w.heap.size) rfl 24 _ ?_ HX.out ?_); rfl; rfl; simp only [Act.put, List.setIfInBounds_toArray, List.set_cons_succ, List.set_cons_zero]))
              clear kd0 kd1
              generalize hggg15 : w15.heap.size = g15 at *
              generalize w15.alloc _ = W15 at *
              refine Calls.mono (alike_of W H A15 A _ _ c15 c _ HPE.out S15 (HS.out.keep hB)) ?_
              rintro e w16 ⟨rfl, hb16⟩
              replace hB := bt hB hb16
              go_wp2_with fail
              refine Calls.mono (awake_any _) ?_
              rintro e wz ⟨rfl, hbz⟩
              go_wp2_with fail
              go_ret
              exact ⟨rfl, bt hB hbz⟩
            · go_wp2_with fail
              all_goals exact tail8 _ _ _ _ _ _ _ _ _ _ _ _ _ _ _ _ _ _ _ _ _ _ _ _ _ _ _ _ _ _ _ _ _ _ _ _ _ _ _ _ _ _ _ _ _ _ _ _ _ _ _ _ _ _ _ _ _ _ _ _ _ _ _ _ _ _ _ _ _ _ _ _ _ _ _ _ _ _ _ _ _ _ _ _ _ _ _ _ _ _ _ _ _ _ _ _ _ _ _ _ _ _ _ _ _ _ _ _ _ _ _ _ _ _ _ _ _ _ _ _ _ _ _ _ _ _ _ _ _ _ _ _ _ _ _ _ _ _ _ _ _ _ _ _ _ _ _ _ _ _ _ _ _ _ _ _ _ _ _ _ _ _ _ _ _ _ _ _ _ _ _ _ _ _ _ _ _ _ _ _ _ _ _ _ _ _ _ _ _ _ _ _ _ _ _ _ _
          · go_wp2_with fail
            all_goals exact tail8 _ _ _ _ _ _ _ _ _ _ _ _ _ _ _ _ _ _ _ _ _ _ _ _ _ _ _ _ _ _ _ _ _ _ _ _ _ _ _ _ _ _ _ _ _ _ _ _ _ _ _ _ _ _ _ _ _ _ _ _ _ _ _ _ _ _ _ _ _ _ _ _ _ _ _ _ _ _ _ _ _ _ _ _ _ _ _ _ _ _ _ _ _ _ _ _ _ _ _ _ _ _ _ _ _ _ _ _ _ _ _ _ _ _ _ _ _ _ _ _ _ _ _ _ _ _ _ _ _ _ _ _ _ _ _ _ _ _ _ _ _ _ _ _ _ _ _ _ _ _ _ _ _ _ _ _ _ _ _ _ _ _ _ _ _ _ _ _ _ _ _ _ _ _ _ _ _ _ _ _ _ _ _ _ _ _ _ _ _ _ _ _ _ _ _ _ _
        · have hm' : mayB W H l.length = false := by simpa using hm
          go_wp2_with fail
          clear k0 k1 k2
          refine Calls.mono (may_any W H A l.length c _) ?_
          rw [hm']
          rintro e w1 ⟨rfl, hb1⟩
          replace hB := bt hB hb1
          go_wp2_with fail
          refine Calls.mono (awake_any _) ?_
          rintro e wz ⟨rfl, hbz⟩
          go_wp2_with fail
          go_ret
          exact ⟨rfl, bt hB hbz⟩
end Go.Proofs.Ytdjfjndmkkhknaa
