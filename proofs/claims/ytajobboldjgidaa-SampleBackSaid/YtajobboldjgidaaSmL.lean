/- Factors, parts, units of a kind; the chapter's examples. -/
import Derived.Test.YtajobboldjgidaaSmK
namespace Go.Proofs.Ytajobboldjgidaa
open Go.RowKit
open Go.Tin
set_option linter.unusedVariables false
set_option linter.unusedSimpArgs false


def fH (k : Int) : Int := if k = 1 then 1 else if k = 2 then 2 else if k = 3 then 2 else 0
def fV (k : Int) : Int := if k = 1 then 1 else if k = 2 then 1 else if k = 3 then 2 else 0
def okK (k : Int) : Bool := decide (1 ≤ k) && decide (k ≤ 3)
theorem rtK : RT Try.prog 81 8 := RT.of Try.underlying81 rfl (by kernel_rfl)
theorem rtK2 : RT Try.prog 80 2 := RT.of Try.underlying80 rfl (by kernel_rfl)
abbrev kindRow : Array Value := #[.int .i64 0, .int .i64 0, .int .i64 1, .int .i64 1, .int .i64 2, .int .i64 1, .int .i64 2, .int .i64 2]
set_option maxRecDepth 100000 in
theorem kinds_any (w : World) : Calls Try.prog 46 #[] w fun e w' => e = .returned (.agg kindRow) ∧ Below w.heap.size w w' := by
  go_enter Try.func46, Try.ntmps46
  go_wp2_with fail
  exact bodyPost_ret (res_row rtK rfl _ _ w.heap.size 81 kindRow rfl rfl (heap_alloc_new w _)) rfl ⟨rfl, ba (brefl w) _⟩
theorem parts_any (n s : Int) (w : World) (hn : 0 ≤ n ∧ n ≤ 1000000) (hs : 1 ≤ s ∧ s ≤ 1000) : Calls Try.prog 43 #[.int .i64 n, .int .i64 s] w fun e w' => e = .returned (.int .i64 ((n + s - 1) / s)) ∧ w = w' := by
  obtain ⟨n0, n1⟩ := hn
  obtain ⟨s0, s1⟩ := hs
  have p2 : 0 ≤ (n + s - 1) / s := Int.ediv_nonneg (by omega) (by omega)
  have p3 : (n + s - 1) / s ≤ n + s - 1 := Int.ediv_le_self _ (by omega)
  go_enter Try.func43, Try.ntmps43
  go_wp2_with fail
  go_ret
  exact ⟨rfl, rfl⟩
set_option maxRecDepth 100000 in
set_option maxHeartbeats 1000000 in
theorem factors_any (k : Int) (w : World) : Calls Try.prog 24 #[.int .i64 k] w fun e w' => e = .returned (.tuple #[.int .i64 (fH k), .int .i64 (fV k), .bool (okK k)]) ∧ Below w.heap.size w w' := by
  by_cases h1 : k < 1
  · have HE := Lib.hid (show fH k = 0 ∧ fV k = 0 ∧ okK k = false by unfold fH fV okK; simp only [if_neg (show ¬ k = 1 by omega), if_neg (show ¬ k = 2 by omega), if_neg (show ¬ k = 3 by omega)]; rw [decide_eq_false (show ¬ 1 ≤ k by omega), Bool.false_and]; simp)
    go_enter Try.func24, Try.ntmps24
    go_wp2_with fail
    exact bodyPost_ret (v := .tuple #[.int .i64 0, .int .i64 0, .bool false]) (by simp [results, Try.results24, go_sem]) rfl ⟨by rw [HE.out.1, HE.out.2.1, HE.out.2.2], brefl w⟩
  by_cases h3 : 3 < k
  · have HE := Lib.hid (show fH k = 0 ∧ fV k = 0 ∧ okK k = false by unfold fH fV okK; simp only [if_neg (show ¬ k = 1 by omega), if_neg (show ¬ k = 2 by omega), if_neg (show ¬ k = 3 by omega)]; rw [decide_eq_false (show ¬ k ≤ 3 by omega), Bool.and_false]; simp)
    have i1 : 1 ≤ k := by omega
    clear h1
    go_enter Try.func24, Try.ntmps24
    go_wp2_with fail
    exact bodyPost_ret (v := .tuple #[.int .i64 0, .int .i64 0, .bool false]) (by simp [results, Try.results24, go_sem]) rfl ⟨by rw [HE.out.1, HE.out.2.1, HE.out.2.2], brefl w⟩
  have main : ∀ (x y : Int), (∀ W : World, (Instr.index 81 (.agg kindRow) (.int .i64 k)).run Try.prog W = .ok (.agg #[.int .i64 x, .int .i64 y]) W) → fH k = x → fV k = y → Calls Try.prog 24 #[.int .i64 k] w fun e w' => e = .returned (.tuple #[.int .i64 (fH k), .int .i64 (fV k), .bool (okK k)]) ∧ Below w.heap.size w w' := by
    intro x y hidx hx hy
    have HX := Lib.hid hx
    have HY := Lib.hid hy
    clear hx hy
    have HK := Lib.hid (show okK k = true by unfold okK; rw [decide_eq_true (by omega), decide_eq_true (by omega)]; rfl)
    have i1 : 1 ≤ k := by omega
    have i3 : k ≤ 3 := by omega
    clear h1 h3
    go_enter Try.func24, Try.ntmps24
    go_wp2_with fail
    refine (kinds_any _).mono ?_
    rintro e w1 ⟨rfl, hb1⟩
    have HB1 := Lib.hid hb1
    clear hb1
    go_wp2_with fail
    have R2 := heap_alloc_new w1 (.cells #[.int .i64 x, .int .i64 y] 80)
    have HB2 := Lib.hid (ba' HB1.out (.cells #[.int .i64 x, .int .i64 y] 80) HB1.out.size)
    generalize (w1.alloc (.cells #[.int .i64 x, .int .i64 y] 80)) = w2 at *
    have q0 : ∀ p : Bel w2.heap.size w2.drew, p.w'.cell? ⟨w1.heap.size, 0, none⟩ = some (.int .i64 x) := fun p => row_cell ((p.h.block _ (row_lt R2)).trans R2) 0 rfl
    have q1 : ∀ p : Bel w2.heap.size w2.drew, p.w'.cell? ⟨w1.heap.size, 1, none⟩ = some (.int .i64 y) := fun p => row_cell ((p.h.block _ (row_lt R2)).trans R2) 1 rfl
    clear R2
    refine Tin.reg_begin w2.heap.size 7 (by rfl) (by kernel_rfl) ?_
    refine Tin.reg_quiets [0, 1, 2, 3, 4, 5, 6] _ 0 rfl (by simp only [Tin.pick, List.map_cons, List.map_nil, Array.getD_eq_getD_getElem?, List.getElem?_toArray, List.getElem?_cons_zero, List.getElem?_cons_succ, Option.getD_some]; rfl) (by kernel_rfl) (by kernel_rfl) ?_
    repeat (first | go_big_quiet_step (fail))
    refine wpQuiet_nil ?_
    clear q0 q1
    refine Tin.reg_done (by kernel_rfl) ?_
    go_wp2_with fail
    exact bodyPost_ret (v := .tuple #[.int .i64 x, .int .i64 y, .bool true]) (by simp [results, Try.results24, go_sem]) rfl ⟨by rw [HX.out, HY.out, HK.out], ud' HB2.out⟩
  have hk : k = 1 ∨ k = 2 ∨ k = 3 := by omega
  rcases hk with rfl | rfl | rfl
  · exact main 1 1 (fun W => by rfl) rfl rfl
  · exact main 2 1 (fun W => by rfl) rfl rfl
  · exact main 2 2 (fun W => by rfl) rfl rfl
def okU (k W H : Int) : Bool := okK k && (okS W && okS H)
def ptV (n s : Int) : Int := (n + s - 1) / s
theorem fHV_bd {k : Int} (h : okK k = true) : (1 ≤ fH k ∧ fH k ≤ 2) ∧ (1 ≤ fV k ∧ fV k ≤ 2) := by
  unfold okK at h
  simp only [Bool.and_eq_true, decide_eq_true_eq] at h
  have hk : k = 1 ∨ k = 2 ∨ k = 3 := by omega
  rcases hk with rfl | rfl | rfl <;> exact ⟨⟨by decide, by decide⟩, by decide, by decide⟩
set_option maxRecDepth 100000 in
set_option maxHeartbeats 1000000 in
theorem units_no (k W H : Int) (w : World) (hno : okU k W H = false) : Calls Try.prog 26 #[.int .i64 W, .int .i64 H, .int .i64 k] w fun e w' => e = .returned (.tuple #[.int .i64 0, .int .i64 0, .int .i64 1]) ∧ Below w.heap.size w w' := by
  have HNO := Lib.hid (show (okK k && (okS W && okS H)) = false from hno)
  clear hno
  go_enter Try.func26, Try.ntmps26
  go_wp2_with fail
  refine (factors_any k w).mono ?_
  rintro e w1 ⟨rfl, hb1⟩
  have HB := Lib.hid hb1
  clear hb1
  cases hk : okK k with
  | false =>
    clear hk
    go_wp2_with fail
    exact bodyPost_ret (v := .tuple #[.int .i64 0, .int .i64 0, .int .i64 1]) (by simp [results, Try.results26, go_sem]) rfl ⟨rfl, HB.out⟩
  | true =>
  rw [hk, Bool.true_and] at HNO
  clear hk
  go_wp2_with fail
  have hb2 := ba (brefl w1) (.cells #[.int .i64 W, .int .i64 H] 3)
  have HL := sl_two w1 W H
  replace HB := Lib.hid (HB.out.trans (hb2.mono HB.out.size))
  clear hb2
  generalize (w1.alloc (.cells #[.int .i64 W, .int .i64 H] 3)) = w2 at *
  refine (side_any _ 2 [W, H] w2 HL (by simp)).mono ?_
  rintro e w3 ⟨rfl, rfl⟩
  rw [show [W, H].all okS = (okS W && okS H) by simp, HNO.out]
  go_wp2_with fail
  exact bodyPost_ret (v := .tuple #[.int .i64 0, .int .i64 0, .int .i64 1]) (by simp [results, Try.results26, go_sem]) rfl ⟨rfl, HB.out⟩
set_option maxRecDepth 100000 in
set_option maxHeartbeats 1000000 in
theorem units_yes (k W H : Int) (w : World) (hyes : okU k W H = true) : Calls Try.prog 26 #[.int .i64 W, .int .i64 H, .int .i64 k] w fun e w' => e = .returned (.tuple #[.int .i64 (ptV W (8 * fH k)), .int .i64 (ptV H (8 * fV k)), .int .i64 0]) ∧ Below w.heap.size w w' := by
  unfold okU at hyes
  rw [Bool.and_eq_true] at hyes
  have HK := Lib.hid hyes.1
  have HS := Lib.hid hyes.2
  obtain ⟨⟨x0, x1⟩, y0, y1⟩ := fHV_bd hyes.1
  have hss := hyes.2
  rw [Bool.and_eq_true] at hss
  obtain ⟨W0, W1⟩ := okS_t hss.1
  obtain ⟨H0, H1⟩ := okS_t hss.2
  clear hyes hss
  generalize hx : fH k = x at *
  generalize hy : fV k = y at *
  have HX := Lib.hid hx
  have HY := Lib.hid hy
  clear hx hy
  go_enter Try.func26, Try.ntmps26
  go_wp2_with fail
  refine (factors_any k w).mono ?_
  rintro e w1 ⟨rfl, hb1⟩
  rw [HK.out, HX.out, HY.out]
  have HB := Lib.hid hb1
  clear hb1
  go_wp2_with fail
  have hb2 := ba (brefl w1) (.cells #[.int .i64 W, .int .i64 H] 3)
  have HL := sl_two w1 W H
  replace HB := Lib.hid (HB.out.trans (hb2.mono HB.out.size))
  clear hb2
  generalize (w1.alloc (.cells #[.int .i64 W, .int .i64 H] 3)) = w2 at *
  refine (side_any _ 2 [W, H] w2 HL (by simp)).mono ?_
  rintro e w3 ⟨rfl, rfl⟩
  rw [show [W, H].all okS = (okS W && okS H) by simp, HS.out]
  clear HL
  go_wp2_with fail
  refine (parts_any W (8 * x) w2 (by omega) (by omega)).mono ?_
  rintro e w3 ⟨rfl, rfl⟩
  go_wp2_with fail
  refine (parts_any H (8 * y) w2 (by omega) (by omega)).mono ?_
  rintro e w3 ⟨rfl, rfl⟩
  go_wp2_with fail
  exact bodyPost_ret (v := .tuple #[.int .i64 (ptV W (8 * x)), .int .i64 (ptV H (8 * y)), .int .i64 0]) (by simp [results, Try.results26, go_sem, ptV]) rfl ⟨rfl, HB.out⟩
set_option maxRecDepth 100000 in
theorem lunits_any (k a d : Int) (w : World) (hk : okK k = true) (ha : ptV 17 (8 * fH k) = a) (hd : ptV 9 (8 * fV k) = d) : Calls Try.prog 32 #[.int .i64 k, .int .i64 a, .int .i64 d] w fun e w' => e = .returned (.bool true) ∧ Below w.heap.size w w' := by
  have HU := Lib.hid (units_yes k 17 9 w (by unfold okU; rw [hk]; rfl))
  rw [ha, hd] at HU
  clear ha hd hk
  go_enter Try.func32, Try.ntmps32
  go_wp2_with fail
  refine HU.out.mono ?_
  rintro e w1 ⟨rfl, hb1⟩
  have HB := Lib.hid hb1
  clear hb1
  go_wp2_with fail
  go_ret
  exact ⟨ret_bool (by simp), HB.out⟩
theorem awake_two : ∀ i, i < 64 → nth (full 64 (blkV 1 1 [130] 1 0)) i = 2 := by
  intro i hi
  rw [nth_full 64 _ i hi]
  have h0 : npos 1 1 (8 * (((0 : Nat) : Int) % ((1 : Nat) : Int)) + (i : Int) % 8) (8 * (((0 : Nat) : Int) / ((1 : Nat) : Int)) + (i : Int) / 8) = 0 := by
    unfold npos
    have h1 : (0 : Int) ≤ 8 * (((0 : Nat) : Int) / ((1 : Nat) : Int)) + (i : Int) / 8 := by
      rw [show ((0 : Nat) : Int) / ((1 : Nat) : Int) = 0 from rfl]; omega
    have h2 : (0 : Int) ≤ 8 * (((0 : Nat) : Int) % ((1 : Nat) : Int)) + (i : Int) % 8 := by
      rw [show ((0 : Nat) : Int) % ((1 : Nat) : Int) = 0 from rfl]; omega
    omega
  unfold blkV nearV
  rw [h0]
  rfl
set_option maxRecDepth 100000 in
set_option maxHeartbeats 1000000 in
theorem awake_any (w : World) : Calls Try.prog 8 #[] w fun e w' => e = .returned (.bool true) ∧ Below w.heap.size w w' := by
  have HSL := Lib.hid (Sl.new_ (k := .i64) w 3 #[.int .i64 130] [130] rfl)
  have HB := Lib.hid (ba (brefl w) (.cells #[.int .i64 130] 3))
  go_enter Try.func8, Try.ntmps8
  go_wp2_with fail
  have HBY := Lib.hid (blocks_yes 1 1 1 1 (some ⟨w.heap.size, 0, none⟩) 1 [130] (w.alloc (.cells #[.int .i64 130] 3)) HSL.out (by simp) (by decide) (by omega) (by omega) (by decide) (by decide))
  generalize (w.alloc (.cells #[.int .i64 130] 3)) = w0 at *
  rw [show (1 : Nat) * 1 = 1 from rfl, show ((1 : Nat) : Int) = 1 from rfl] at HBY
  refine HBY.out.mono ?_
  rintro e w1 ⟨A1, c1, rfl, ho1, hb1⟩
  have HBE := Lib.hid (HB.out.trans (hb1.mono HB.out.size))
  obtain ⟨b, off, rfl, hlt, hcell⟩ := (ho1.sl'.2.1).at_ (by simp [blF_len])
  have HC := Lib.hid (fun i (hi : i < 64) => show w1.cell? ⟨b, off + i, none⟩ = some (.int .i64 2) by
    rw [hcell i (by simp [blF_len]; exact hi)]
    have h2 := awake_two i hi
    simp only [blF, List.nil_append, List.getElem?_map]
    unfold nth at h2
    rw [List.getD_eq_getElem?_getD, List.getElem?_eq_getElem (by simp; exact hi)] at h2
    rw [List.getElem?_eq_getElem (by simp; exact hi)]
    simp only [Option.getD_some] at h2
    rw [h2]
    rfl)
  clear ho1 hb1 hcell HBY HSL
  go_wp2_with fail
  go_loopw [3] (fun s3 wr => ∃ i : Nat, i ≤ 64 ∧ s3 = .int .i64 (i : Int) ∧ Below w1.heap.size w1 wr) (fun s3 _ => 64 - (intOf s3).toNat)
  case atStart => exact ⟨0, by omega, rfl, Below.refl _ _⟩
  case round =>
    obtain ⟨i, hi, rfl, hb⟩ := hrel
    have HBR := Lib.hid hb
    clear hb
    by_cases hil : i < 64
    case neg =>
      obtain rfl : i = 64 := by omega
      have HBF := Lib.hid (HBE.out.trans (HBR.out.mono HBE.out.size))
      go_wp2_with fail
      refine (lunits_any 3 2 1 wr (by decide) (by decide) (by decide)).mono ?_
      rintro e w2 ⟨rfl, hb2⟩
      replace HBF := Lib.hid (HBF.out.trans (hb2.mono HBF.out.size))
      clear hb2
      go_wp2_with fail
      refine (lunits_any 2 2 2 w2 (by decide) (by decide) (by decide)).mono ?_
      rintro e w3 ⟨rfl, hb2⟩
      replace HBF := Lib.hid (HBF.out.trans (hb2.mono HBF.out.size))
      clear hb2
      go_wp2_with fail
      refine (lunits_any 1 3 2 w3 (by decide) (by decide) (by decide)).mono ?_
      rintro e w4 ⟨rfl, hb2⟩
      replace HBF := Lib.hid (HBF.out.trans (hb2.mono HBF.out.size))
      clear hb2
      go_wp2_with fail
      go_ret
      exact ⟨rfl, HBF.out⟩
    have i1 : (i : Int) < 64 := by omega
    have q0 : wr.cell? ⟨b, off + i, none⟩ = some (.int .i64 2) := (HBR.out.cell (p := ⟨b, off + i, none⟩) hlt).trans (HC.out i hil)
    go_wp2_with fail
    exact ⟨⟨i + 1, by omega, rfl, HBR.out⟩, by simp only [intOf]; omega⟩
end Go.Proofs.Ytajobboldjgidaa
