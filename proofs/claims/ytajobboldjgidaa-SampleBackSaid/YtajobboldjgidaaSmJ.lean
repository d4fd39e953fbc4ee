/- Blocks joined. -/
import Derived.Test.YtajobboldjgidaaSmI
namespace Go.Proofs.Ytajobboldjgidaa
open Go.RowKit
open Go.Tin
set_option linter.unusedVariables false
set_option linter.unusedSimpArgs false


/-- The sample of a block's number. -/
def smp (n : Int) : Int := clamp (min (max n (-128)) 128 + 128)
theorem smp_eq (n : Int) : smp n = (if n < -128 then -128 else if 127 < n then 127 else n) + 128 := by
  unfold smp clamp
  split <;> split <;> (try split) <;> (try split) <;> omega
theorem smp_bd (n : Int) : 0 ≤ smp n ∧ smp n ≤ 255 := clamp_bd _
def joinP (a x y : Nat) : Nat := (y / 8 * a + x / 8) * 64 + (y % 8 * 8 + x % 8)
def joinV (zs : List Int) (a x y : Nat) : Int := smp (nth zs (joinP a x y))
theorem join_lt {a x y m : Nat} (hx : x < 8 * a) (hy : y < 8 * (m / a)) : y / 8 * a + x / 8 < m := by
  have h1 : y / 8 + 1 ≤ m / a := by omega
  have h2 : x / 8 < a := by omega
  have h3 := Nat.mul_le_mul_right a h1
  have h4 : m / a * a ≤ m := Nat.div_mul_le_self m a
  rw [Nat.succ_mul] at h3
  omega
set_option maxRecDepth 100000 in
set_option maxHeartbeats 4000000 in
theorem join1_any (zs : List Int) (a m x y : Nat) (A : Option Addr) (c g1 g2 : Nat) (w : World) (h1 : w.cell? ⟨g1, 0, none⟩ = some (.slice A m c)) (h2 : w.cell? ⟨g2, 0, none⟩ = some (.int .i64 (a : Int))) (hs : SlV w A (iv zs)) (hz : zs.length = m * 64) (hm : m ≤ 1000000)
    (ha : a ≤ 512) (hx : x < 8 * a) (hy : y < 8 * (m / a)) (hx1 : x < 10000) (hy1 : y < 10000) :
    Calls Try.prog 38 #[.int .i64 (x : Int), .int .i64 (y : Int), .pointer (some ⟨g1, 0, none⟩), .pointer (some ⟨g2, 0, none⟩)] w fun e w' => e = .returned (.int .i64 (joinV zs a x y)) ∧ Below w.heap.size w w' := by
  obtain ⟨P, hP⟩ : ∃ P, y / 8 * a + x / 8 = P := ⟨_, rfl⟩
  obtain ⟨J, hJ⟩ : ∃ J, y % 8 * 8 + x % 8 = J := ⟨_, rfl⟩
  have hPm : P < m := by rw [← hP]; exact join_lt hx hy
  have hJ64 : J < 64 := by omega
  have HE := Lib.hid (show joinV zs a x y = smp (nth zs (P * 64 + J)) by unfold joinV joinP; rw [hP, hJ])
  have m1 : y / 8 * a ≤ 1250 * 512 := Nat.mul_le_mul (by omega) ha
  have e1 : ((y : Int) / 8) * (a : Int) = ((y / 8 * a : Nat) : Int) := by rw [Int.natCast_mul, Int.natCast_ediv]; rfl
  have m2 : 0 ≤ ((y : Int) / 8) * (a : Int) := by rw [e1]; omega
  have m3 : ((y : Int) / 8) * (a : Int) ≤ 640000 := by rw [e1]; omega
  have eP : ((y : Int) / 8) * (a : Int) + (x : Int) / 8 = (P : Int) := by rw [e1]; omega
  have eJ : (y : Int) % 8 * 8 + (x : Int) % 8 = (J : Int) := by omega
  obtain ⟨b, off, rfl, hlt, hcell⟩ := hs.at_ (by simp; omega)
  have q0 : w.cell? ⟨b, off + P * 64 + J, none⟩ = some (.int .i64 (nth zs (P * 64 + J))) := by
    have h := hcell (P * 64 + J) (by simp; omega)
    rw [Nat.add_assoc, h]
    simp [nth, List.getD_eq_getElem?_getD, show P * 64 + J < zs.length by omega]
  have HSM := Lib.hid (show smp (nth zs (P * 64 + J)) = clamp (min (max (nth zs (P * 64 + J)) (-128)) 128 + 128) from rfl)
  generalize nth zs (P * 64 + J) = n at *
  have iP : (P : Int) < (m : Int) := by omega
  have iJ : (J : Int) < 64 := by omega
  clear hcell hs hz hP hJ e1 m1 hx hy
  go_enter Try.func38, Try.ntmps38
  go_wp2_with fail
  refine (clamp_any _ _).mono ?_
  rintro e w1 ⟨rfl, rfl⟩
  go_wp2_with fail
  go_ret
  exact ⟨ret_int (by rw [HE.out, HSM.out]), brefl w⟩
/-- May blocks be joined to a plane of such sides? -/
def okJn (m : Nat) (a W H : Int) : Bool := (okS W && okS H) && (okF a && (decide (W ≤ 8 * a) && (decide ((m : Int) % a = 0) && decide (H ≤ 8 * ((m : Int) / a)))))
theorem sl_one (w : World) (a : Int) : Sl .i64 (w.alloc (.cells #[.int .i64 a] 3)) (some ⟨w.heap.size, 0, none⟩) [a] := Sl.new_ w _ _ _ rfl
set_option maxRecDepth 100000 in
set_option maxHeartbeats 4000000 in
theorem join_no (W H a : Int) (m : Nat) (A : Option Addr) (c : Nat) (w : World) (hm : m ≤ 1000000) (hno : okJn m a W H = false) :
    Calls Try.prog 11 #[.slice A m c, .int .i64 a, .int .i64 W, .int .i64 H] w fun e w' => e = .returned (.tuple #[plA 0 0 none 0 0, .int .i64 1]) ∧ Below w.heap.size w w' := by
  obtain ⟨r0, r1, r2, hb, hz3⟩ := alloc3 w (.cells #[.slice A m c] 25) (.cells #[.int .i64 a] 3) (.cells (plrow 0 0 none 0 0) 24)
  have R0 := Lib.hid r0
  have R1 := Lib.hid r1
  have R2 := Lib.hid r2
  have HB := Lib.hid hb
  have HNO := Lib.hid (show ((okS W && okS H) && (okF a && (decide (W ≤ 8 * a) && (decide ((m : Int) % a = 0) && decide (H ≤ 8 * ((m : Int) / a)))))) = false from hno)
  clear r0 r1 r2 hb hno
  go_enter Try.func11, Try.ntmps11
  go_wp2_with fail
  generalize (((w.alloc (.cells #[.slice A m c] 25)).alloc (.cells #[.int .i64 a] 3)).alloc (.cells (plrow 0 0 none 0 0) 24)) = w1 at *
  have hb2 := ba (brefl w1) (.cells #[.int .i64 W, .int .i64 H] 3)
  have HL := sl_two w1 W H
  rw [hz3] at HL
  replace R0 := Lib.hid ((hb2.block _ (row_lt R0.out)).trans R0.out)
  replace R1 := Lib.hid ((hb2.block _ (row_lt R1.out)).trans R1.out)
  replace R2 := Lib.hid ((hb2.block _ (row_lt R2.out)).trans R2.out)
  replace HB := Lib.hid (HB.out.trans (hb2.mono HB.out.size))
  clear hb2
  generalize (w1.alloc (.cells #[.int .i64 W, .int .i64 H] 3)) = w2 at *
  refine (side_any _ 2 [W, H] w2 HL (by simp)).mono ?_
  rintro e w3 ⟨rfl, rfl⟩
  rw [show [W, H].all okS = (okS W && okS H) by simp]
  clear HL
  cases hk : (okS W && okS H) with
  | false =>
    clear hk
    go_wp2_with ((with_reducible refine wpl_store_row rtP ?_ (.tmp 8) (.tmp 43) ?_ (w.heap.size + 2) ?_ (plrow 0 0 none 0 0) ?_ (pl_one _ _ _ _ _) 24 ?_ (plrow 0 0 none 0 0) ?_ R2.out ?_); rfl; rfl; rfl; rfl; rfl; rfl; intro w5 hr5 hg5 hs5)
    exact bodyPost_ret (res_row_tmp rtP rfl _ _ (w.heap.size + 2) 24 (plrow 0 0 none 0 0) rfl (.int .i64 1) rfl rfl hr5) rfl ⟨rfl, HB.out.grown hg5 HB.out.size (fun k hk => by cases hk; omega)⟩
  | true =>
  rw [hk, Bool.true_and] at HNO
  rw [Bool.and_eq_true] at hk
  obtain ⟨w0, w1'⟩ := okS_t hk.1
  obtain ⟨h0, h1'⟩ := okS_t hk.2
  clear hk
  have k1 := row_cell (v := .int .i64 a) R1.out 0 rfl
  go_wp2_with fail
  clear k1
  have hb2 := ba (brefl w2) (.cells #[.int .i64 a] 3)
  have HL := sl_one w2 a
  replace R0 := Lib.hid ((hb2.block _ (row_lt R0.out)).trans R0.out)
  replace R1 := Lib.hid ((hb2.block _ (row_lt R1.out)).trans R1.out)
  replace R2 := Lib.hid ((hb2.block _ (row_lt R2.out)).trans R2.out)
  replace HB := Lib.hid (HB.out.trans (hb2.mono HB.out.size))
  clear hb2
  generalize (w2.alloc (.cells #[.int .i64 a] 3)) = w3 at *
  refine (few_any _ 1 [a] w3 HL (by simp)).mono ?_
  rintro e w4 ⟨rfl, rfl⟩
  rw [show [a].all okF = okF a by simp]
  clear HL
  have k1 := row_cell (v := .int .i64 a) R1.out 0 rfl
  have k0 := row_cell (v := .slice A m c) R0.out 0 rfl
  cases hk : okF a with
  | false =>
    clear hk
    go_wp2_with ((with_reducible refine wpl_store_row rtP ?_ (.tmp 8) (.tmp 43) ?_ (w.heap.size + 2) ?_ (plrow 0 0 none 0 0) ?_ (pl_one _ _ _ _ _) 24 ?_ (plrow 0 0 none 0 0) ?_ R2.out ?_); rfl; rfl; rfl; rfl; rfl; rfl; intro w5 hr5 hg5 hs5)
    exact bodyPost_ret (res_row_tmp rtP rfl _ _ (w.heap.size + 2) 24 (plrow 0 0 none 0 0) rfl (.int .i64 1) rfl rfl hr5) rfl ⟨rfl, HB.out.grown hg5 HB.out.size (fun k hk => by cases hk; omega)⟩
  | true =>
  rw [hk, Bool.true_and] at HNO
  obtain ⟨a0, a1⟩ := okF_t hk
  clear hk
  have p0 : 0 ≤ (m : Int) % a := Int.emod_nonneg _ (by omega)
  have p1 : (m : Int) % a < a := Int.emod_lt_of_pos _ (by omega)
  have p2 : 0 ≤ (m : Int) / a := Int.ediv_nonneg (by omega) (by omega)
  have p3 : (m : Int) / a ≤ (m : Int) := Int.ediv_le_self _ (by omega)
  by_cases hWa : 8 * a < W
  · have q1 := decide_eq_true hWa
    clear hWa HNO
    go_wp2_with ((with_reducible refine wpl_store_row rtP ?_ (.tmp 8) (.tmp 43) ?_ (w.heap.size + 2) ?_ (plrow 0 0 none 0 0) ?_ (pl_one _ _ _ _ _) 24 ?_ (plrow 0 0 none 0 0) ?_ R2.out ?_); rfl; rfl; rfl; rfl; rfl; rfl; intro w5 hr5 hg5 hs5)
    exact bodyPost_ret (res_row_tmp rtP rfl _ _ (w.heap.size + 2) 24 (plrow 0 0 none 0 0) rfl (.int .i64 1) rfl rfl hr5) rfl ⟨rfl, HB.out.grown hg5 HB.out.size (fun k hk => by cases hk; omega)⟩
  have q1 : W ≤ 8 * a := by omega
  clear hWa
  rw [decide_eq_true q1, Bool.true_and] at HNO
  by_cases hma : (m : Int) % a = 0
  · have HX := Lib.hid (show decide (H ≤ 8 * ((m : Int) / a)) = false by have := HNO.out; rw [decide_eq_true hma, Bool.true_and] at this; exact this)
    have hHd : 8 * ((m : Int) / a) < H := by have := of_decide_eq_false HX.out; omega
    clear HNO HX p0 p1
    go_wp2_with ((with_reducible refine wpl_store_row rtP ?_ (.tmp 8) (.tmp 43) ?_ (w.heap.size + 2) ?_ (plrow 0 0 none 0 0) ?_ (pl_one _ _ _ _ _) 24 ?_ (plrow 0 0 none 0 0) ?_ R2.out ?_); rfl; rfl; rfl; rfl; rfl; rfl; intro w5 hr5 hg5 hs5)
    exact bodyPost_ret (res_row_tmp rtP rfl _ _ (w.heap.size + 2) 24 (plrow 0 0 none 0 0) rfl (.int .i64 1) rfl rfl hr5) rfl ⟨rfl, HB.out.grown hg5 HB.out.size (fun k hk => by cases hk; omega)⟩
  · have n1 : ((m : Int) % a != 0) = true := by rw [bne_iff_ne]; exact hma
    clear HNO hma
    go_wp2_with ((with_reducible refine wpl_store_row rtP ?_ (.tmp 8) (.tmp 43) ?_ (w.heap.size + 2) ?_ (plrow 0 0 none 0 0) ?_ (pl_one _ _ _ _ _) 24 ?_ (plrow 0 0 none 0 0) ?_ R2.out ?_); rfl; rfl; rfl; rfl; rfl; rfl; intro w5 hr5 hg5 hs5)
    exact bodyPost_ret (res_row_tmp rtP rfl _ _ (w.heap.size + 2) 24 (plrow 0 0 none 0 0) rfl (.int .i64 1) rfl rfl hr5) rfl ⟨rfl, HB.out.grown hg5 HB.out.size (fun k hk => by cases hk; omega)⟩
set_option maxRecDepth 100000 in
set_option maxHeartbeats 4000000 in
theorem join_yes (zs : List Int) (wd ht a m : Nat) (A : Option Addr) (c : Nat) (w : World) (hs : SlV w A (iv zs)) (hz : zs.length = m * 64) (hm : m ≤ 1000000) (hw : 1 ≤ wd ∧ wd ≤ 4096) (hh : 1 ≤ ht ∧ ht ≤ 4096) (ha : 1 ≤ a ∧ a ≤ 512) (hwa : wd ≤ 8 * a) (hma : m % a = 0) (hht : ht ≤ 8 * (m / a)) :
    Calls Try.prog 11 #[.slice A m c, .int .i64 (a : Int), .int .i64 (wd : Int), .int .i64 (ht : Int)] w fun e w' => ∃ A' c', e = .returned (.tuple #[plA (wd : Int) (ht : Int) A' (wd * ht) c', .int .i64 0]) ∧ Own .i64 3 w' w.heap.size (.slice A' (wd * ht) c') (grid (joinV zs a) wd ht) ∧ Below w.heap.size w w' := by
  obtain ⟨r0, r1, r2, hb, hz3⟩ := alloc3 w (.cells #[.slice A m c] 25) (.cells #[.int .i64 a] 3) (.cells (plrow 0 0 none 0 0) 24)
  have R0 := Lib.hid r0
  have R1 := Lib.hid r1
  have R2 := Lib.hid r2
  have HB := Lib.hid hb
  have HS := Lib.hid hs
  have HZL := Lib.hid hz
  obtain ⟨w0, w1'⟩ := hw
  obtain ⟨h0, h1'⟩ := hh
  obtain ⟨a0, a1⟩ := ha
  have HKS := Lib.hid (show [(wd : Int), (ht : Int)].all okS = true by simp [okS]; omega)
  have HKF := Lib.hid (show [(a : Int)].all okF = true by simp [okF]; omega)
  have p0 : (m : Int) % (a : Int) = 0 := by rw [← Int.natCast_emod, hma]; rfl
  have p2 : 0 ≤ (m : Int) / (a : Int) := Int.ediv_nonneg (by omega) (by omega)
  have p3 : (m : Int) / (a : Int) ≤ (m : Int) := Int.ediv_le_self _ (by omega)
  have p4 : (ht : Int) ≤ 8 * ((m : Int) / (a : Int)) := by rw [← Int.natCast_ediv]; omega
  have p5 : (wd : Int) ≤ 8 * (a : Int) := by omega
  have HTT := Lib.hid hht
  have HWA := Lib.hid hwa
  clear r0 r1 r2 hb hs hz hma hht hwa
  go_enter Try.func11, Try.ntmps11
  go_wp2_with fail
  generalize (((w.alloc (.cells #[.slice A m c] 25)).alloc (.cells #[.int .i64 a] 3)).alloc (.cells (plrow 0 0 none 0 0) 24)) = w1 at *
  have hb2 := ba (brefl w1) (.cells #[.int .i64 wd, .int .i64 ht] 3)
  have HL := sl_two w1 wd ht
  rw [hz3] at HL
  replace R0 := Lib.hid ((hb2.block _ (row_lt R0.out)).trans R0.out)
  replace R1 := Lib.hid ((hb2.block _ (row_lt R1.out)).trans R1.out)
  replace R2 := Lib.hid ((hb2.block _ (row_lt R2.out)).trans R2.out)
  replace HB := Lib.hid (HB.out.trans (hb2.mono HB.out.size))
  have hs2 : w.heap.size + 3 ≤ (w1.alloc (.cells #[.int .i64 wd, .int .i64 ht] 3)).heap.size := by have := hb2.size; omega
  clear hb2
  generalize (w1.alloc (.cells #[.int .i64 wd, .int .i64 ht] 3)) = w2 at *
  refine (side_any _ 2 [(wd : Int), (ht : Int)] w2 HL (by simp)).mono ?_
  rintro e w3 ⟨rfl, rfl⟩
  rw [HKS.out]
  clear HL
  have k1 := row_cell (v := .int .i64 (a : Int)) R1.out 0 rfl
  go_wp2_with fail
  clear k1
  have hb2 := ba (brefl w2) (.cells #[.int .i64 a] 3)
  have HL := sl_one w2 a
  replace R0 := Lib.hid ((hb2.block _ (row_lt R0.out)).trans R0.out)
  replace R1 := Lib.hid ((hb2.block _ (row_lt R1.out)).trans R1.out)
  replace R2 := Lib.hid ((hb2.block _ (row_lt R2.out)).trans R2.out)
  replace HB := Lib.hid (HB.out.trans (hb2.mono HB.out.size))
  have hs3 : w.heap.size + 3 ≤ (w2.alloc (.cells #[.int .i64 a] 3)).heap.size := by have := hb2.size; omega
  clear hb2
  generalize (w2.alloc (.cells #[.int .i64 a] 3)) = w3 at *
  refine (few_any _ 1 [(a : Int)] w3 HL (by simp)).mono ?_
  rintro e w4 ⟨rfl, rfl⟩
  rw [HKF.out]
  clear HL
  have k1 := row_cell (v := .int .i64 (a : Int)) R1.out 0 rfl
  have k0 := row_cell (v := .slice A m c) R0.out 0 rfl
  go_wp2_with fail
  clear k1 k0
  refine (made_any wd ht w0 w1' h0 h1' (fun x y => joinV zs a x y) 38 #[] #[.pointer (some ⟨w.heap.size, 0, none⟩), .pointer (some ⟨w.heap.size + 1, 0, none⟩)] w3 (fun _ _ => by rfl) (fun W x y hbW hx hy => join1_any zs a m x y A c w.heap.size (w.heap.size + 1) W
    (row_cell ((hbW.block _ (row_lt R0.out)).trans R0.out) 0 rfl) (row_cell ((hbW.block _ (row_lt R1.out)).trans R1.out) 0 rfl) (HS.out.keep (HB.out.trans (hbW.mono HB.out.size))) HZL.out hm a1 (by have := HWA.out; omega) (by have := HTT.out; omega) (by omega) (by omega))).mono ?_
  rintro e w5 ⟨A5, c5, rfl, ho5, hb5⟩
  have R25 := Lib.hid ((hb5.block _ (row_lt R2.out)).trans R2.out)
  have HO5 := Lib.hid ho5
  have HB5 := Lib.hid (HB.out.trans (hb5.mono HB.out.size))
  clear ho5 hb5
  go_wp2_with ((with_reducible refine wpl_store_row rtP ?_ (.tmp 8) (.tmp 47) ?_ (w.heap.size + 2) ?_ (plrow (wd : Int) (ht : Int) A5 (wd * ht) c5) ?_ (pl_one _ _ _ _ _) 24 ?_ (plrow 0 0 none 0 0) ?_ R25.out ?_); rfl; rfl; rfl; rfl; rfl; rfl; intro w6 hr6 hg6 hs6)
  exact bodyPost_ret (res_row_tmp rtP rfl _ _ (w.heap.size + 2) 24 (plrow (wd : Int) (ht : Int) A5 (wd * ht) c5) rfl (.int .i64 0) rfl rfl hr6) rfl ⟨A5, c5, rfl, (HO5.out.kept hg6 (ne_own (fun q hq => by have := (World.ownsRow.lt HO5.out q hq).1; omega))).mono (by omega), HB5.out.grown hg6 HB5.out.size (fun k hk => by cases hk; omega)⟩
end Go.Proofs.Ytajobboldjgidaa
