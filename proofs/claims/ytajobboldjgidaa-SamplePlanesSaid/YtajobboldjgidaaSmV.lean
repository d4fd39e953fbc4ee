/- The reference's Byte; a plane brought down by it. -/
import Derived.Test.YtajobboldjgidaaSmU
namespace Go.Proofs.Ytajobboldjgidaa
open Go.RowKit
open Go.Tin
set_option linter.unusedVariables false
set_option linter.unusedSimpArgs false


/-- Where a place's colour begins. -/
def posR (W x y : Int) : Nat := (3 * (y * W + x)).toNat
theorem posR_facts {W H x y : Int} {n : Nat} (hW : 1 ≤ W ∧ W ≤ 4096) (hH : 1 ≤ H ∧ H ≤ 4096) (hn : (n : Int) = 3 * W * H) (hx : 0 ≤ x ∧ x < W) (hy : 0 ≤ y ∧ y < H) :
    (3 * (y * W + x) = (posR W x y : Int) ∧ posR W x y + 3 ≤ n) ∧ 0 ≤ y * W ∧ y * W ≤ 16777216 := by
  have h1 : 0 ≤ y * W := Int.mul_nonneg hy.1 (by omega)
  have h2 : y * W ≤ (H - 1) * W := Int.mul_le_mul_of_nonneg_right (by omega) (by omega)
  have h3 : (H - 1) * W = W * H - W := by rw [Int.sub_mul, Int.one_mul, Int.mul_comm]
  have h4 : 3 * W * H = 3 * (W * H) := by rw [Int.mul_assoc]
  have h5 : W * H ≤ 4096 * H := Int.mul_le_mul_of_nonneg_right hW.2 (by omega)
  unfold posR
  refine ⟨⟨by omega, by omega⟩, h1, by omega⟩
theorem byte_any (W H x y : Int) (j : Nat) (A : Option Addr) (l : List Int) (c : Nat) (w : World) (hs : Sl .u8 w A l) (hW : 1 ≤ W ∧ W ≤ 4096) (hH : 1 ≤ H ∧ H ≤ 4096) (hn : (l.length : Int) = 3 * W * H) (hx : 0 ≤ x ∧ x < W) (hy : 0 ≤ y ∧ y < H) (hj : j < 3) (hb : Byts l) :
    Calls Try.prog 51 #[rsA W H A l.length c, .int .i64 x, .int .i64 y, .int .i64 (j : Int)] w fun e w' => e = .returned (.int .i64 (nth l (posR W x y + j))) ∧ Below w.heap.size w w' := by
  obtain ⟨⟨hp, hl⟩, m0, m1⟩ := posR_facts hW hH hn hx hy
  obtain ⟨b, off, rfl, hlt, hcell⟩ := hs.at_ (by omega)
  generalize posR W x y = p at *
  obtain ⟨x0, x1⟩ := hx
  obtain ⟨y0, y1⟩ := hy
  have q0 : w.cell? ⟨b, off + (p + j), none⟩ = some (.int .u8 (nth l (p + j))) := hcell (p + j) (by omega)
  have e1 : 3 * W * y = 3 * (y * W) := by rw [Int.mul_assoc, Int.mul_comm W y]
  have e2 : 3 * W * y + 3 * x + (j : Int) = ((p + j : Nat) : Int) := by rw [e1]; push_cast; omega
  have n0 : 0 ≤ 3 * W * y := by omega
  have n1 : 3 * W * y ≤ 50331648 := by omega
  have hne : b ≠ w.heap.size := by omega
  have xb : x ≤ 4096 := by omega
  obtain ⟨b0, b1⟩ := hb (p + j)
  clear hcell hn hs e1 hb
  obtain ⟨hW0, hW1⟩ := hW
  obtain ⟨hH0, hH1⟩ := hH
  go_enter Try.func51, Try.ntmps51
  go_wp2_with fail
  go_ret
  exact ⟨rfl, ba (brefl w) _⟩
theorem box_eq (W H : Int) (v : List Int) {h s : Nat} (hh : 1 ≤ h ∧ h ≤ 2) (hv : 1 ≤ s ∧ s ≤ 2) (x y : Nat) : boxS W H v h s x y = lsum (fun j : Nat => nearV W H v ((h : Int) * (x : Int) + (j : Int) % (h : Int)) ((s : Int) * (y : Int) + (j : Int) / (h : Int))) (h * s) := by
  have e1 : h = 1 ∨ h = 2 := by omega
  have e2 : s = 1 ∨ s = 2 := by omega
  rcases e1 with rfl | rfl <;> rcases e2 with rfl | rfl <;> simp [boxS, lsum, Int.add_assoc]
set_option maxRecDepth 100000 in
set_option maxHeartbeats 8000000 in
theorem rdown_any (wd ht : Nat) (v : List Int) (h s : Nat) (A : Option Addr) (n0 c : Nat) (w : World) (hn : v.length = n0) (hs : Sl .i64 w A v) (hm : mayP (wd : Int) (ht : Int) v = true) (hh : 1 ≤ h ∧ h ≤ 2) (hv : 1 ≤ s ∧ s ≤ 2) :
    Calls Try.prog 52 #[plA (wd : Int) (ht : Int) A n0 c, .int .i64 (h : Int), .int .i64 (s : Int)] w fun e w' => ∃ A' c', e = .returned (plA (ptN wd h : Nat) (ptN ht s : Nat) A' (ptN wd h * ptN ht s) c') ∧
      Own .i64 3 w' w.heap.size (.slice A' (ptN wd h * ptN ht s) c') (grid (dnV (wd : Int) (ht : Int) v h s) (ptN wd h) (ptN ht s)) ∧ Below w.heap.size w w' := by
  subst hn
  obtain ⟨r0, r1, hb, hz⟩ := alloc2 w (.cells (plrow (wd : Int) (ht : Int) A v.length c) 24) (.cells (plrow 0 0 none 0 0) 24)
  have HS := Lib.hid hs
  have HM := Lib.hid hm
  have R3 := Lib.hid r0
  have R6 := Lib.hid r1
  have HB := Lib.hid hb
  obtain ⟨W0a, W0b⟩ := mayP_W hm
  obtain ⟨H0a, H0b⟩ := mayP_H hm
  have hwp := ptN_bd (n := wd) (s := h) (by omega) hh
  have hhp := ptN_bd (n := ht) (s := s) (by omega) hv
  have PWN := Lib.hid (ptV_N (n := wd) hh.1)
  have PHN := Lib.hid (ptV_N (n := ht) hv.1)
  have HBE := Lib.hid (fun x y => box_eq (wd : Int) (ht : Int) v hh hv x y)
  obtain ⟨a0, a1⟩ := hh
  obtain ⟨s0, s1⟩ := hv
  have eh : (h : Int) = 1 ∨ (h : Int) = 2 := by omega
  have es : (s : Int) = 1 ∨ (s : Int) = 2 := by omega
  have hhs : 1 ≤ (h : Int) * (s : Int) ∧ (h : Int) * (s : Int) ≤ 4 := by rcases eh with e | e <;> rcases es with e' | e' <;> rw [e, e'] <;> decide
  have hhn : (h : Int) * (s : Int) = ((h * s : Nat) : Int) := (Int.natCast_mul h s).symm
  have h2hs : 2 * (h : Int) * (s : Int) = 2 * ((h : Int) * (s : Int)) := Int.mul_assoc _ _ _
  have h2a : 2 ≤ 2 * (h : Int) * (s : Int) := by omega
  have h2b : 2 * (h : Int) * (s : Int) ≤ 8 := by omega
  obtain ⟨hsa, hsb⟩ := hhs
  have HHN := Lib.hid hhn
  have HEH := Lib.hid eh
  have HES := Lib.hid es
  clear hs hm r0 r1 hb h2hs hhn eh es
  go_enter Try.func52, Try.ntmps52
  refine wp_seq_k fun K0 hK0 => ?_
  have HK0 := Lib.hid hK0
  clear hK0
  go_wp2_with fail
  refine HK0.out _ _ ?_
  clear HK0
  generalize ((w.alloc (.cells (plrow (wd : Int) (ht : Int) A v.length c) 24)).alloc (.cells (plrow 0 0 none 0 0) 24)) = wr at *
  refine wp_seq_k fun K1 hK1 => ?_
  have HK1 := Lib.hid hK1
  clear hK1
  have hz2 : w.heap.size + 2 ≤ wr.heap.size := Nat.le_of_eq hz.symm
  clear hz
  have tail : ∀ (u4 u5 u8 u9 u10 u11 u12 u13 u14 u15 u16 u17 u18 u19 u20 u21 u22 u23 u24 u25 u26 u27 u28 u29 u30 u31 u32 u33 u34 u35 u36 u37 u38 u39 u40 u41 u42 u43 u44 u45 u46 u47 u48 u49 u50 u51 u52 u53 u54 u55 u56 u57 u58 u59 u60 u61 u62 u63 u64 u65 u66 u67 u68 u69 u70 u71 u72 u73 u74 : Value), K1 { tmps := #[plA (wd : Int) (ht : Int) A v.length c, .int .i64 (h : Int), .int .i64 (s : Int), .pointer (some ⟨w.heap.size, 0, none⟩), u4, u5, .pointer (some ⟨w.heap.size + 1, 0, none⟩), .pointer (some ⟨wr.heap.size, 0, none⟩), u8, u9, u10, u11, u12, u13, u14, u15, u16, u17, u18, u19, u20, u21, u22, u23, u24, u25, u26, u27, u28, u29, u30, u31, u32, u33, u34, u35, u36, u37, u38, u39, u40, u41, u42, u43, u44, u45, u46, u47, u48, u49, u50, u51, u52, u53, u54, u55, u56, u57, u58, u59, u60, u61, u62, u63, u64, u65, u66, u67, u68, u69, u70, u71, u72, u73, u74], defers := [] } (wr.alloc (.cells (plrow (ptN wd h : Nat) (ptN ht s : Nat) none 0 0) 24)).drew := by
    intro u4 u5 u8 u9 u10 u11 u12 u13 u14 u15 u16 u17 u18 u19 u20 u21 u22 u23 u24 u25 u26 u27 u28 u29 u30 u31 u32 u33 u34 u35 u36 u37 u38 u39 u40 u41 u42 u43 u44 u45 u46 u47 u48 u49 u50 u51 u52 u53 u54 u55 u56 u57 u58 u59 u60 u61 u62 u63 u64 u65 u66 u67 u68 u69 u70 u71 u72 u73 u74
    refine HK1.out _ _ ?_
    clear HK1
    dsimp only
    have hv2 : Below wr.heap.size wr (wr.alloc (.cells (plrow (ptN wd h : Nat) (ptN ht s : Nat) none 0 0) 24)).drew := ⟨rfl, rfl, rfl, by simp, fun i hi => heap_alloc_old wr _ hi⟩
    have R7 := Lib.hid (show (wr.alloc (.cells (plrow (ptN wd h : Nat) (ptN ht s : Nat) none 0 0) 24)).drew.heap[wr.heap.size]? = some (.cells (plrow (ptN wd h : Nat) (ptN ht s : Nat) none 0 0) 24 (0, 0)) from heap_alloc_new wr _)
    replace R3 := Lib.hid ((hv2.block _ (row_lt R3.out)).trans R3.out)
    replace R6 := Lib.hid ((hv2.block _ (row_lt R6.out)).trans R6.out)
    replace HB := Lib.hid (HB.out.trans (hv2.mono HB.out.size))
    have HGS : wr.heap.size + 1 ≤ (wr.alloc (.cells (plrow (ptN wd h : Nat) (ptN ht s : Nat) none 0 0) 24)).drew.heap.size := by simp
    clear hv2
    generalize (wr.alloc (.cells (plrow (ptN wd h : Nat) (ptN ht s : Nat) none 0 0) 24)).drew = u2 at *
    obtain ⟨w6, rfl⟩ : ∃ w6, w6 = wr := ⟨_, rfl⟩
    have HOW := Lib.hid (Own.nil_ .i64 3 u2 (w6.heap.size + 1))
    go_wp2_with fail
    go_loopw [8] (fun s8 wr => ∃ (y : Nat) (A1 : Option Addr) (n c1 : Nat), y ≤ ptN ht s ∧ s8 = .int .i64 (y : Int) ∧ wr.heap[w6.heap.size]? = some (.cells (plrow (ptN wd h : Nat) (ptN ht s : Nat) A1 n c1) 24 (0, 0)) ∧ wr.heap[w.heap.size]? = some (.cells (plrow (wd : Int) (ht : Int) A v.length c) 24 (0, 0)) ∧ wr.heap[w.heap.size + 1]? = some (.cells (plrow 0 0 none 0 0) 24 (0, 0)) ∧ Own .i64 3 wr (w6.heap.size + 1) (.slice A1 n c1) (grid (dnV (wd : Int) (ht : Int) v h s) (ptN wd h) y) ∧ Below w.heap.size w wr ∧ w6.heap.size + 1 ≤ wr.heap.size) (fun s8 _ => ptN ht s - (intOf s8).toNat)
    case atStart => exact ⟨0, none, 0, 0, by omega, rfl, R7.out, R3.out, R6.out, HOW.out, HB.out, HGS⟩
    case round =>
      clear R7 R3 R6 HOW HB HGS
      obtain ⟨y, A1, n, c1, hy, rfl, hG, hr3, hr6, hO, hb, hgs⟩ := hrel
      have HG := Lib.hid hG
      have R3 := Lib.hid hr3
      have R6 := Lib.hid hr6
      have HO := Lib.hid hO
      have HB := Lib.hid hb
      clear hG hr3 hr6 hO hb
      have k1 := row_cell (v := .int .i64 (ptN ht s : Nat)) HG.out 1 rfl
      by_cases hyh : y < ptN ht s
      case neg =>
        obtain rfl : y = ptN ht s := by omega
        have hn := HO.out.sl'.1
        rw [grid_len] at hn
        subst hn
        go_wp2_with (first | ((with_reducible refine wpl_load_row rtP ?_ (.tmp 7) ?_ w6.heap.size ?_ 24 (plrow (ptN wd h : Nat) (ptN ht s : Nat) A1 (ptN wd h * ptN ht s) c1) ?_ HG.out ?_); rfl; rfl; rfl; rfl; simp only [Act.put, List.setIfInBounds_toArray, List.set_cons_succ, List.set_cons_zero]) | ((with_reducible refine wpl_store_row rtP ?_ (.tmp 6) (.tmp 74) ?_ (w.heap.size + 1) ?_ (plrow (ptN wd h : Nat) (ptN ht s : Nat) A1 (ptN wd h * ptN ht s) c1) ?_ (pl_one _ _ _ _ _) 24 ?_ (plrow 0 0 none 0 0) ?_ R6.out ?_); rfl; rfl; rfl; rfl; rfl; rfl; intro w5 hr5 hg5 hs5))
        have hk := HO.out.kept hg5 (ne_own (fun q hq => by have := (World.ownsRow.lt HO.out q hq).1; omega))
        exact bodyPost_ret (res_row rtP rfl _ _ (w.heap.size + 1) 24 (plrow (ptN wd h : Nat) (ptN ht s : Nat) A1 (ptN wd h * ptN ht s) c1) rfl rfl hr5) rfl ⟨A1, c1, rfl, hk.mono (by omega), HB.out.grown hg5 HB.out.size (fun k hk => by cases hk; omega)⟩
      have hy1 : (y : Int) < (ptN ht s : Nat) := by omega
      go_wp2_with fail
      clear k1
      go_loopw [9] (fun s9 wr => ∃ (x : Nat) (A1 : Option Addr) (n c1 : Nat), x ≤ ptN wd h ∧ s9 = .int .i64 (x : Int) ∧ wr.heap[w6.heap.size]? = some (.cells (plrow (ptN wd h : Nat) (ptN ht s : Nat) A1 n c1) 24 (0, 0)) ∧ wr.heap[w.heap.size]? = some (.cells (plrow (wd : Int) (ht : Int) A v.length c) 24 (0, 0)) ∧ wr.heap[w.heap.size + 1]? = some (.cells (plrow 0 0 none 0 0) 24 (0, 0)) ∧ Own .i64 3 wr (w6.heap.size + 1) (.slice A1 n c1) (grid (dnV (wd : Int) (ht : Int) v h s) (ptN wd h) y ++ lin (dnV (wd : Int) (ht : Int) v h s) y x) ∧ Below w.heap.size w wr ∧ w6.heap.size + 1 ≤ wr.heap.size) (fun s9 _ => ptN wd h - (intOf s9).toNat)
      case atStart => exact ⟨0, A1, n, c1, by omega, rfl, HG.out, R3.out, R6.out, by rw [lin, List.append_nil]; exact HO.out, HB.out, hgs⟩
      case round =>
        clear HG R3 R6 HO HB hgs
        obtain ⟨x, A1, n, c1, hx, rfl, hG, hr3, hr6, hO, hb, hgs⟩ := hrel
        have HG := Lib.hid hG
        have R3 := Lib.hid hr3
        have R6 := Lib.hid hr6
        have HO := Lib.hid hO
        have HB := Lib.hid hb
        clear hG hr3 hr6 hO hb
        have k0 := row_cell (v := .int .i64 (ptN wd h : Nat)) HG.out 0 rfl
        by_cases hxw : x < ptN wd h
        case neg =>
          obtain rfl : x = ptN wd h := by omega
          go_wp2_with fail
          exact ⟨⟨y + 1, A1, n, c1, by omega, rfl, HG.out, R3.out, R6.out, HO.out, HB.out, hgs⟩, by simp only [intOf]; omega⟩
        have hx1 : (x : Int) < (ptN wd h : Nat) := by omega
        have hln := grid_le (dnV (wd : Int) (ht : Int) v h s) (ht := ptN ht s) hwp.2 (show y ≤ 4096 by omega) (show x ≤ 4096 by omega)
        have hx2 : 0 ≤ (h : Int) * (x : Int) ∧ (h : Int) * (x : Int) ≤ 8192 := by rcases HEH.out with e | e <;> rw [e] <;> omega
        have hy2 : 0 ≤ (s : Int) * (y : Int) ∧ (s : Int) * (y : Int) ≤ 8192 := by rcases HES.out with e | e <;> rw [e] <;> omega
        obtain ⟨fj, hfj⟩ : ∃ fj : Nat → Int, fj = fun (j : Nat) => nearV (wd : Int) (ht : Int) v ((h : Int) * (x : Int) + (j : Int) % (h : Int)) ((s : Int) * (y : Int) + (j : Int) / (h : Int)) := ⟨_, rfl⟩
        have HFJ := Lib.hid (fun (j : Nat) => show fj j = nearV (wd : Int) (ht : Int) v ((h : Int) * (x : Int) + (j : Int) % (h : Int)) ((s : Int) * (y : Int) + (j : Int) / (h : Int)) from by rw [hfj])
        have HBX := Lib.hid (show boxS (wd : Int) (ht : Int) v h s x y = lsum fj (h * s) by rw [HBE.out, hfj])
        have HFB := Lib.hid (fun j => show 0 ≤ fj j ∧ fj j ≤ 255 by rw [hfj]; exact near_bd (mayP_all HM.out) _ _)
        have HSB := Lib.hid (fun i => lsum_bd HFB.out i)
        have HDN := Lib.hid (show (dnV (wd : Int) (ht : Int) v h s) x y = (2 * boxS (wd : Int) (ht : Int) v h s x y + (h : Int) * (s : Int)) / (2 * (h : Int) * (s : Int)) from rfl)
        clear hfj
        go_wp2_with fail
        clear k0
        obtain ⟨A2, hA2⟩ : ∃ A2, A1 = A2 := ⟨_, rfl⟩
        subst hA2
        have INVW := True.intro
        go_loopw [11, 10] (fun s11 s10 wr => ∃ (j : Nat), j ≤ h * s ∧ s11 = .int .i64 (j : Int) ∧ s10 = .int .i64 (lsum fj j) ∧ wr.heap[w6.heap.size]? = some (.cells (plrow (ptN wd h : Nat) (ptN ht s : Nat) A1 n c1) 24 (0, 0)) ∧ wr.heap[w.heap.size]? = some (.cells (plrow (wd : Int) (ht : Int) A v.length c) 24 (0, 0)) ∧ wr.heap[w.heap.size + 1]? = some (.cells (plrow 0 0 none 0 0) 24 (0, 0)) ∧ Own .i64 3 wr (w6.heap.size + 1) (.slice A1 n c1) (grid (dnV (wd : Int) (ht : Int) v h s) (ptN wd h) y ++ lin (dnV (wd : Int) (ht : Int) v h s) y x) ∧ Below w.heap.size w wr ∧ w6.heap.size + 1 ≤ wr.heap.size) (fun s11 _ _ => h * s - (intOf s11).toNat)
        case atStart => exact ⟨0, by omega, rfl, rfl, HG.out, R3.out, R6.out, HO.out, HB.out, hgs⟩
        case round =>
          clear HG R3 R6 HO HB hgs INVW
          obtain ⟨j, hj, rfl, rfl, hG, hr3, hr6, hO, hb, hgs⟩ := hrel
          have HG := Lib.hid hG
          have R3 := Lib.hid hr3
          have R6 := Lib.hid hr6
          have HO := Lib.hid hO
          have HB := Lib.hid hb
          clear hG hr3 hr6 hO hb
          have hsj := HSB.out j
          by_cases hjh : j < h * s
          case neg =>
            obtain rfl : j = h * s := by omega
            rw [← HBX.out] at hsj ⊢
            have HV := Lib.hid HDN.out
            have hq4 : ((h * s : Nat) : Int) ≤ 4 := by rw [← HHN.out]; exact hsb
            generalize boxS (wd : Int) (ht : Int) v h s x y = S at *
            have hS2 : S ≤ 1020 := by omega
            have d0 : 0 ≤ (2 * S + (h : Int) * (s : Int)) / (2 * (h : Int) * (s : Int)) := Int.ediv_nonneg (by omega) (by omega)
            have d1 : (2 * S + (h : Int) * (s : Int)) / (2 * (h : Int) * (s : Int)) ≤ 2 * S + (h : Int) * (s : Int) := Int.ediv_le_self _ (by omega)
            have iq : ¬ ((h * s : Nat) : Int) < (h : Int) * (s : Int) := by rw [HHN.out]; omega
            go_wp2_with fail
            clear iq
            refine Tin.reg_begin 0 17 (by rfl) (by kernel_rfl) ?_
            replace HB := Lib.hid (ud' HB.out)
            replace HO := Lib.hid HO.out.drew
            replace HG := Lib.hid (show wr.drew.heap[w6.heap.size]? = _ from HG.out)
            replace R3 := Lib.hid (show wr.drew.heap[w.heap.size]? = _ from R3.out)
            replace R6 := Lib.hid (show wr.drew.heap[w.heap.size + 1]? = _ from R6.out)
            have hgs0 : w6.heap.size + 1 ≤ wr.drew.heap.size := hgs
            generalize wr.drew = v0 at *
            refine Tin.reg_quiets [0, 2, 3, 4, 5, 6, 7, 8, 9, 10, 11, 12] _ 5 rfl (by simp only [Tin.pick, List.map_cons, List.map_nil, Array.getD_eq_getD_getElem?, List.getElem?_toArray, List.getElem?_cons_zero, List.getElem?_cons_succ, Option.getD_some]; rfl) (by kernel_rfl) (by kernel_rfl) ?_
            repeat (first | go_big_quiet_step (fail))
            refine wpQuiet_nil ?_
            refine Tin.reg_two 1 13 _ _ rfl rfl (by kernel_rfl) ?_ ?_
            · have k2 : v0.cell? ⟨w6.heap.size, 2, none⟩ = some (.slice A1 n c1) := row_cell HG.out 2 rfl
              try simp only [List.getElem_toArray, List.getElem_cons_succ, List.getElem_cons_zero]
              go_wp2_with fail
              refine ⟨0, Below.refl _ _, Nat.le_refl _, ?_⟩
              clear k2
              refine Tin.reg_one 13 _ rfl (by kernel_rfl) ?_
              try simp only [List.getElem_toArray, List.getElem_cons_succ, List.getElem_cons_zero]
              go_wp2_with fail
              refine ⟨0, (ba (brefl v0) _).mono (Nat.zero_le _), Nat.le_refl _, ?_⟩
              have HSL := Lib.hid (show Sl .i64 (v0.alloc (.cells #[.int .i64 ((2 * S + (h : Int) * (s : Int)) / (2 * (h : Int) * (s : Int)))] 3)) (some ⟨v0.heap.size, 0, none⟩) [((2 * S + (h : Int) * (s : Int)) / (2 * (h : Int) * (s : Int)))] from Sl.new_ v0 _ _ _ rfl)
              have hv := ba (brefl v0) (.cells #[.int .i64 ((2 * S + (h : Int) * (s : Int)) / (2 * (h : Int) * (s : Int)))] 3)
              replace HG := Lib.hid ((hv.block _ (row_lt HG.out)).trans HG.out)
              replace R3 := Lib.hid ((hv.block _ (row_lt R3.out)).trans R3.out)
              replace R6 := Lib.hid ((hv.block _ (row_lt R6.out)).trans R6.out)
              replace HO := Lib.hid (HO.out.keep hv)
              replace HB := Lib.hid (HB.out.trans (hv.mono HB.out.size))
              have hgs1 : w6.heap.size + 1 ≤ (v0.alloc (.cells #[.int .i64 ((2 * S + (h : Int) * (s : Int)) / (2 * (h : Int) * (s : Int)))] 3)).heap.size := Nat.le_trans hgs0 hv.size
              clear hv
              generalize v0.alloc (.cells #[.int .i64 ((2 * S + (h : Int) * (s : Int)) / (2 * (h : Int) * (s : Int)))] 3) = z1 at *
              refine Tin.reg_one 14 _ rfl (by kernel_rfl) ?_
              try simp only [List.getElem_toArray, List.getElem_cons_succ, List.getElem_cons_zero]
              refine Tin.wpl_app btI _ rfl (.tmp 59) (.tmp 71) rfl (w6.heap.size + 1) (.slice A1 n c1) (grid (dnV (wd : Int) (ht : Int) v h s) (ptN wd h) y ++ lin (dnV (wd : Int) (ht : Int) v h s) y x) rfl HO.out (some ⟨v0.heap.size, 0, none⟩) 1 1 [((2 * S + (h : Int) * (s : Int)) / (2 * (h : Int) * (s : Int)))] rfl HSL.out rfl (by simp only [List.length_singleton]; omega) (by simp only [List.length_singleton]; omega) hgs1 ?_
              intro x7 w7 hown7 hg7 how7
              obtain ⟨A7, c7, rfl⟩ := own_form hown7
              obtain ⟨n7, hn7⟩ : ∃ n7, ((grid (dnV (wd : Int) (ht : Int) v h s) (ptN wd h) y ++ lin (dnV (wd : Int) (ht : Int) v h s) y x) ++ [((2 * S + (h : Int) * (s : Int)) / (2 * (h : Int) * (s : Int)))]).length = n7 := ⟨_, rfl⟩
              rw [hn7] at hown7 how7 ⊢
              have HN7 := Lib.hid hn7
              clear hn7
              simp only [Act.put, List.setIfInBounds_toArray, List.set_cons_succ, List.set_cons_zero]
              go_wp2_with fail
              refine ⟨0, ⟨hg7.os, hg7.tape, hg7.output, hg7.size, fun i hi => absurd hi (Nat.not_lt_zero _)⟩, Nat.le_refl _, ?_⟩
              have HLO := Lib.hid (World.ownsRow.lt HO.out)
              have HG7 := Lib.hid ((hg7.block _ (row_lt HG.out) (fun e => by have := (HLO.out _ e.symm).1; omega)).trans HG.out)
              have R37 := Lib.hid ((hg7.block _ (row_lt R3.out) (fun e => by have := (HLO.out _ e.symm).1; omega)).trans R3.out)
              have R67 := Lib.hid ((hg7.block _ (row_lt R6.out) (fun e => by have := (HLO.out _ e.symm).1; omega)).trans R6.out)
              have HB7 := Lib.hid (HB.out.grown hg7 HB.out.size (fun q hq => by have := (HLO.out q hq).1; omega))
              have HO7 := Lib.hid hown7
              have hz7 : w6.heap.size + 1 ≤ w7.heap.size := Nat.le_trans hgs1 hg7.size
              clear hg7 how7 hown7 HG R3 R6 HB HO
              refine Tin.reg_quiets [15] _ 1 rfl (by simp only [Tin.pick, List.map_cons, List.map_nil, Array.getD_eq_getD_getElem?, List.getElem?_toArray, List.getElem?_cons_zero, List.getElem?_cons_succ, Option.getD_some]; rfl) (by kernel_rfl) (by kernel_rfl) ?_
              repeat (first | go_big_quiet_step (fail))
              refine wpQuiet_nil ?_
              have cc7 := row_cell (v := .slice A1 n c1) HG7.out 2 rfl
              have f7 := frozen_of_row w7 w6.heap.size 2 _ _ HG7.out
              refine Tin.reg_one 16 _ rfl (by kernel_rfl) ?_
              try simp only [List.getElem_toArray, List.getElem_cons_succ, List.getElem_cons_zero]
              go_wp2_with fail
              have hk7 := grown_setCells w6.heap.size [.slice A7 n7 c7] 2 w7 w7 (World.grownBy.refl w7 _)
              refine ⟨0, ⟨rfl, rfl, rfl, by simp [World.setCell], fun i hi => absurd hi (Nat.not_lt_zero _)⟩, Nat.le_refl _, ?_⟩
              refine Tin.reg_done (by kernel_rfl) ?_
              go_wp2_with fail
              exact ⟨⟨x + 1, A7, n7, c7, by omega, rfl, row_set HG7.out 2 _, by rw [heap_setCell_other _ _ _ _ (by show w.heap.size ≠ w6.heap.size; omega)]; exact R37.out, by rw [heap_setCell_other _ _ _ _ (by show w.heap.size + 1 ≠ w6.heap.size; omega)]; exact R67.out, by rw [lin, ← List.append_assoc, HV.out]; exact HO7.out.kept hk7 (ne_own (fun q hq => by have := (World.ownsRow.lt HO7.out q hq).1; omega)), HB7.out.setCell (by show w.heap.size ≤ w6.heap.size; omega) _, by simp only [World.setCell]; simp; omega⟩, by simp only [intOf]; omega⟩
            · try simp only [List.getElem_toArray, List.getElem_cons_succ, List.getElem_cons_zero]
              go_wp2_with fail
              refine ⟨0, (ba (brefl v0) _).mono (Nat.zero_le _), Nat.le_refl _, ?_⟩
              have HSL := Lib.hid (show Sl .i64 (v0.alloc (.cells #[.int .i64 ((2 * S + (h : Int) * (s : Int)) / (2 * (h : Int) * (s : Int)))] 3)) (some ⟨v0.heap.size, 0, none⟩) [((2 * S + (h : Int) * (s : Int)) / (2 * (h : Int) * (s : Int)))] from Sl.new_ v0 _ _ _ rfl)
              have hv := ba (brefl v0) (.cells #[.int .i64 ((2 * S + (h : Int) * (s : Int)) / (2 * (h : Int) * (s : Int)))] 3)
              replace HG := Lib.hid ((hv.block _ (row_lt HG.out)).trans HG.out)
              replace R3 := Lib.hid ((hv.block _ (row_lt R3.out)).trans R3.out)
              replace R6 := Lib.hid ((hv.block _ (row_lt R6.out)).trans R6.out)
              replace HO := Lib.hid (HO.out.keep hv)
              replace HB := Lib.hid (HB.out.trans (hv.mono HB.out.size))
              have hgs1 : w6.heap.size + 1 ≤ (v0.alloc (.cells #[.int .i64 ((2 * S + (h : Int) * (s : Int)) / (2 * (h : Int) * (s : Int)))] 3)).heap.size := Nat.le_trans hgs0 hv.size
              clear hv
              generalize v0.alloc (.cells #[.int .i64 ((2 * S + (h : Int) * (s : Int)) / (2 * (h : Int) * (s : Int)))] 3) = z1 at *
              have k2 : z1.cell? ⟨w6.heap.size, 2, none⟩ = some (.slice A1 n c1) := row_cell HG.out 2 rfl
              refine Tin.reg_one 1 _ rfl (by kernel_rfl) ?_
              try simp only [List.getElem_toArray, List.getElem_cons_succ, List.getElem_cons_zero]
              go_wp2_with fail
              refine ⟨0, Below.refl _ _, Nat.le_refl _, ?_⟩
              clear k2
              refine Tin.reg_one 14 _ rfl (by kernel_rfl) ?_
              try simp only [List.getElem_toArray, List.getElem_cons_succ, List.getElem_cons_zero]
              refine Tin.wpl_app btI _ rfl (.tmp 59) (.tmp 71) rfl (w6.heap.size + 1) (.slice A1 n c1) (grid (dnV (wd : Int) (ht : Int) v h s) (ptN wd h) y ++ lin (dnV (wd : Int) (ht : Int) v h s) y x) rfl HO.out (some ⟨v0.heap.size, 0, none⟩) 1 1 [((2 * S + (h : Int) * (s : Int)) / (2 * (h : Int) * (s : Int)))] rfl HSL.out rfl (by simp only [List.length_singleton]; omega) (by simp only [List.length_singleton]; omega) hgs1 ?_
              intro x7 w7 hown7 hg7 how7
              obtain ⟨A7, c7, rfl⟩ := own_form hown7
              obtain ⟨n7, hn7⟩ : ∃ n7, ((grid (dnV (wd : Int) (ht : Int) v h s) (ptN wd h) y ++ lin (dnV (wd : Int) (ht : Int) v h s) y x) ++ [((2 * S + (h : Int) * (s : Int)) / (2 * (h : Int) * (s : Int)))]).length = n7 := ⟨_, rfl⟩
              rw [hn7] at hown7 how7 ⊢
              have HN7 := Lib.hid hn7
              clear hn7
              simp only [Act.put, List.setIfInBounds_toArray, List.set_cons_succ, List.set_cons_zero]
              go_wp2_with fail
              refine ⟨0, ⟨hg7.os, hg7.tape, hg7.output, hg7.size, fun i hi => absurd hi (Nat.not_lt_zero _)⟩, Nat.le_refl _, ?_⟩
              have HLO := Lib.hid (World.ownsRow.lt HO.out)
              have HG7 := Lib.hid ((hg7.block _ (row_lt HG.out) (fun e => by have := (HLO.out _ e.symm).1; omega)).trans HG.out)
              have R37 := Lib.hid ((hg7.block _ (row_lt R3.out) (fun e => by have := (HLO.out _ e.symm).1; omega)).trans R3.out)
              have R67 := Lib.hid ((hg7.block _ (row_lt R6.out) (fun e => by have := (HLO.out _ e.symm).1; omega)).trans R6.out)
              have HB7 := Lib.hid (HB.out.grown hg7 HB.out.size (fun q hq => by have := (HLO.out q hq).1; omega))
              have HO7 := Lib.hid hown7
              have hz7 : w6.heap.size + 1 ≤ w7.heap.size := Nat.le_trans hgs1 hg7.size
              clear hg7 how7 hown7 HG R3 R6 HB HO
              refine Tin.reg_quiets [15] _ 1 rfl (by simp only [Tin.pick, List.map_cons, List.map_nil, Array.getD_eq_getD_getElem?, List.getElem?_toArray, List.getElem?_cons_zero, List.getElem?_cons_succ, Option.getD_some]; rfl) (by kernel_rfl) (by kernel_rfl) ?_
              repeat (first | go_big_quiet_step (fail))
              refine wpQuiet_nil ?_
              have cc7 := row_cell (v := .slice A1 n c1) HG7.out 2 rfl
              have f7 := frozen_of_row w7 w6.heap.size 2 _ _ HG7.out
              refine Tin.reg_one 16 _ rfl (by kernel_rfl) ?_
              try simp only [List.getElem_toArray, List.getElem_cons_succ, List.getElem_cons_zero]
              go_wp2_with fail
              have hk7 := grown_setCells w6.heap.size [.slice A7 n7 c7] 2 w7 w7 (World.grownBy.refl w7 _)
              refine ⟨0, ⟨rfl, rfl, rfl, by simp [World.setCell], fun i hi => absurd hi (Nat.not_lt_zero _)⟩, Nat.le_refl _, ?_⟩
              refine Tin.reg_done (by kernel_rfl) ?_
              go_wp2_with fail
              exact ⟨⟨x + 1, A7, n7, c7, by omega, rfl, row_set HG7.out 2 _, by rw [heap_setCell_other _ _ _ _ (by show w.heap.size ≠ w6.heap.size; omega)]; exact R37.out, by rw [heap_setCell_other _ _ _ _ (by show w.heap.size + 1 ≠ w6.heap.size; omega)]; exact R67.out, by rw [lin, ← List.append_assoc, HV.out]; exact HO7.out.kept hk7 (ne_own (fun q hq => by have := (World.ownsRow.lt HO7.out q hq).1; omega)), HB7.out.setCell (by show w.heap.size ≤ w6.heap.size; omega) _, by simp only [World.setCell]; simp; omega⟩, by simp only [intOf]; omega⟩
          have i3 : (j : Int) < (h : Int) * (s : Int) := by rw [HHN.out]; omega
          have p0 : 0 ≤ (j : Int) % (h : Int) := Int.emod_nonneg _ (by omega)
          have p1 : (j : Int) % (h : Int) < (h : Int) := Int.emod_lt_of_pos _ (by omega)
          have p2 : 0 ≤ (j : Int) / (h : Int) := Int.ediv_nonneg (by omega) (by omega)
          have p3 : (j : Int) / (h : Int) ≤ (j : Int) := Int.ediv_le_self _ (by omega)
          have hf0 := HFB.out j
          have HL := Lib.hid (show lsum fj (j + 1) = lsum fj j + fj j from rfl)
          go_wp2_with fail
          have LT_HG : _ < wr.heap.size := row_lt HG.out
          have LT_R3 : _ < wr.heap.size := row_lt R3.out
          have LT_R6 : _ < wr.heap.size := row_lt R6.out
          have SZ : wr.heap.size ≤ wr.drew.heap.size := Nat.le_refl _
          have hb := ud' (brefl wr)
          replace HG := Lib.hid ((hb.block _ (row_lt HG.out)).trans HG.out)
          replace R3 := Lib.hid ((hb.block _ (row_lt R3.out)).trans R3.out)
          replace R6 := Lib.hid ((hb.block _ (row_lt R6.out)).trans R6.out)
          replace HO := Lib.hid (HO.out.keep hb)
          replace HB := Lib.hid (HB.out.trans (hb.mono HB.out.size))
          clear hb
          refine Tin.reg_begin (wr.heap.size) 19 (by rfl) (by kernel_rfl) ?_
          refine Tin.reg_quiets [0, 1, 2, 3, 4, 5, 6, 7, 8, 9, 10, 11, 12, 13, 14, 15] _ 3 rfl (by simp only [Tin.pick, List.map_cons, List.map_nil, Array.getD_eq_getD_getElem?, List.getElem?_toArray, List.getElem?_cons_zero, List.getElem?_cons_succ, Option.getD_some]; rfl) (by kernel_rfl) (by kernel_rfl) ?_
          repeat (first | ((with_reducible refine wpq_load_row rtP ?_ (.tmp 3) ?_ (w.heap.size) ?_ 24 (plrow (wd : Int) (ht : Int) A v.length c) ?_ (fun W h => by obtain ⟨p, rfl⟩ := h; exact (p.h.block _ LT_R3).trans R3.out) ?_); rfl; rfl; rfl; rfl; simp only [Act.put, List.setIfInBounds_toArray, List.set_cons_succ, List.set_cons_zero]) | go_big_quiet_step (fail))
          refine wpQuiet_nil ?_
          refine Tin.reg_one 16 _ rfl (by kernel_rfl) ?_
          try simp only [List.getElem_toArray, List.getElem_cons_succ, List.getElem_cons_zero]
          go_wp2_with fail
          refine (rnear_any (wd : Int) (ht : Int) _ _ A c v _ (HS.out.keep HB.out) (mayP_W HM.out) (mayP_H HM.out) (mayP_n HM.out) (by omega) (by omega)).mono ?_
          rintro e z1 ⟨rfl, hv⟩
          rw [← HFJ.out j]
          generalize fj j = zj at *
          generalize lsum fj j = S1 at *
          go_wp2_with fail
          refine ⟨wr.heap.size, hv.mono SZ, Nat.le_refl _, ?_⟩
          replace HG := Lib.hid ((hv.block _ (row_lt HG.out)).trans HG.out)
          replace R3 := Lib.hid ((hv.block _ (row_lt R3.out)).trans R3.out)
          replace R6 := Lib.hid ((hv.block _ (row_lt R6.out)).trans R6.out)
          replace HO := Lib.hid (HO.out.keep hv)
          replace HB := Lib.hid (HB.out.trans (hv.mono HB.out.size))
          replace SZ := Nat.le_trans SZ hv.size
          clear hv
          refine Tin.reg_quiets [17, 18] _ 0 rfl (by simp only [Tin.pick, List.map_cons, List.map_nil, Array.getD_eq_getD_getElem?, List.getElem?_toArray, List.getElem?_cons_zero, List.getElem?_cons_succ, Option.getD_some]; rfl) (by kernel_rfl) (by kernel_rfl) ?_
          repeat (first | go_big_quiet_step (fail))
          refine wpQuiet_nil ?_
          refine Tin.reg_done (by kernel_rfl) ?_
          go_wp2_with fail
          exact ⟨⟨j + 1, by omega, rfl, by rw [HL.out], HG.out, R3.out, R6.out, HO.out, HB.out, by have := row_lt HG.out; omega⟩, by simp only [intOf]; omega⟩
  go_wp2_with fail
  have LT_R3 : _ < wr.heap.size := row_lt R3.out
  have LT_R6 : _ < wr.heap.size := row_lt R6.out
  have SZ : wr.heap.size ≤ wr.drew.heap.size := Nat.le_refl _
  have hb := ud' (brefl wr)
  replace R3 := Lib.hid ((hb.block _ (row_lt R3.out)).trans R3.out)
  replace R6 := Lib.hid ((hb.block _ (row_lt R6.out)).trans R6.out)
  replace HB := Lib.hid (HB.out.trans (hb.mono HB.out.size))
  clear hb
  refine Tin.reg_begin (wr.heap.size) 11 (by rfl) (by kernel_rfl) ?_
  have q0 : ∀ p : Bel (wr.heap.size) wr.drew, p.w'.cell? ⟨w.heap.size, 0, none⟩ = some (.int .i64 (wd : Int)) := fun p => row_cell ((p.h.block _ LT_R3).trans R3.out) 0 rfl
  have q1 : ∀ p : Bel (wr.heap.size) wr.drew, p.w'.cell? ⟨w.heap.size, 1, none⟩ = some (.int .i64 (ht : Int)) := fun p => row_cell ((p.h.block _ LT_R3).trans R3.out) 1 rfl
  refine Tin.reg_quiets [0, 1, 2, 4, 5, 6] _ 5 rfl (by simp only [Tin.pick, List.map_cons, List.map_nil, Array.getD_eq_getD_getElem?, List.getElem?_toArray, List.getElem?_cons_zero, List.getElem?_cons_succ, Option.getD_some]; rfl) (by kernel_rfl) (by kernel_rfl) ?_
  repeat (first | go_big_quiet_step (fail))
  refine wpQuiet_nil ?_
  clear q0 q1
  refine Tin.reg_two 3 9 _ _ rfl rfl (by kernel_rfl) ?_ ?_
  · try simp only [List.getElem_toArray, List.getElem_cons_succ, List.getElem_cons_zero]
    go_wp2_with fail
    refine (rparts_any (wd : Int) (h : Int) _ (by omega) (by omega)).mono ?_
    rintro e w' ⟨rfl, rfl⟩
    rw [PWN.out]
    go_wp2_with fail
    refine ⟨wr.heap.size, Below.refl _ _, Nat.le_refl _, ?_⟩
    refine Tin.reg_two 7 9 _ _ rfl rfl (by kernel_rfl) ?_ ?_
    · try simp only [List.getElem_toArray, List.getElem_cons_succ, List.getElem_cons_zero]
      go_wp2_with fail
      refine (rparts_any (ht : Int) (s : Int) _ (by omega) (by omega)).mono ?_
      rintro e w' ⟨rfl, rfl⟩
      rw [PHN.out]
      go_wp2_with fail
      refine ⟨wr.heap.size, Below.refl _ _, Nat.le_refl _, ?_⟩
      refine Tin.reg_quiets [8] _ 2 rfl (by simp only [Tin.pick, List.map_cons, List.map_nil, Array.getD_eq_getD_getElem?, List.getElem?_toArray, List.getElem?_cons_zero, List.getElem?_cons_succ, Option.getD_some]; rfl) (by kernel_rfl) (by kernel_rfl) ?_
      repeat (first | go_big_quiet_step (fail))
      refine wpQuiet_nil ?_
      refine Tin.reg_one 9 _ rfl (by kernel_rfl) ?_
      try simp only [List.getElem_toArray, List.getElem_cons_succ, List.getElem_cons_zero]
      go_wp2_with fail
      refine ⟨wr.heap.size, (ba (brefl wr.drew) (.cells (plrow 0 0 none 0 0) 24)).mono SZ, Nat.le_refl _, ?_⟩
      refine Tin.reg_one 10 _ rfl (by kernel_rfl) ?_
      try simp only [List.getElem_toArray, List.getElem_cons_succ, List.getElem_cons_zero]
      go_wp2_with fail
      refine ⟨wr.heap.size, ⟨rfl, rfl, rfl, by simp, fun i hi => (heap_alloc_old wr _ hi).trans (heap_alloc_old wr _ hi).symm⟩, Nat.le_refl _, ?_⟩
      refine Tin.reg_done (by kernel_rfl) ?_
      exact tail _ _ _ _ _ _ _ _ _ _ _ _ _ _ _ _ _ _ _ _ _ _ _ _ _ _ _ _ _ _ _ _ _ _ _ _ _ _ _ _ _ _ _ _ _ _ _ _ _ _ _ _ _ _ _ _ _ _ _ _ _ _ _ _ _ _ _ _ _
    · try simp only [List.getElem_toArray, List.getElem_cons_succ, List.getElem_cons_zero]
      go_wp2_with fail
      refine ⟨wr.heap.size, (ba (brefl wr.drew) (.cells (plrow 0 0 none 0 0) 24)).mono SZ, Nat.le_refl _, ?_⟩
      refine Tin.reg_one 7 _ rfl (by kernel_rfl) ?_
      try simp only [List.getElem_toArray, List.getElem_cons_succ, List.getElem_cons_zero]
      go_wp2_with fail
      refine (rparts_any (ht : Int) (s : Int) _ (by omega) (by omega)).mono ?_
      rintro e w' ⟨rfl, rfl⟩
      rw [PHN.out]
      go_wp2_with fail
      refine ⟨wr.heap.size, Below.refl _ _, Nat.le_refl _, ?_⟩
      refine Tin.reg_quiets [8] _ 1 rfl (by simp only [Tin.pick, List.map_cons, List.map_nil, Array.getD_eq_getD_getElem?, List.getElem?_toArray, List.getElem?_cons_zero, List.getElem?_cons_succ, Option.getD_some]; rfl) (by kernel_rfl) (by kernel_rfl) ?_
      repeat (first | go_big_quiet_step (fail))
      refine wpQuiet_nil ?_
      refine Tin.reg_one 10 _ rfl (by kernel_rfl) ?_
      try simp only [List.getElem_toArray, List.getElem_cons_succ, List.getElem_cons_zero]
      go_wp2_with fail
      refine ⟨wr.heap.size, ⟨rfl, rfl, rfl, by simp, fun i hi => (heap_alloc_old wr _ hi).trans (heap_alloc_old wr _ hi).symm⟩, Nat.le_refl _, ?_⟩
      refine Tin.reg_done (by kernel_rfl) ?_
      exact tail _ _ _ _ _ _ _ _ _ _ _ _ _ _ _ _ _ _ _ _ _ _ _ _ _ _ _ _ _ _ _ _ _ _ _ _ _ _ _ _ _ _ _ _ _ _ _ _ _ _ _ _ _ _ _ _ _ _ _ _ _ _ _ _ _ _ _ _ _
  · try simp only [List.getElem_toArray, List.getElem_cons_succ, List.getElem_cons_zero]
    go_wp2_with fail
    refine ⟨wr.heap.size, (ba (brefl wr.drew) (.cells (plrow 0 0 none 0 0) 24)).mono SZ, Nat.le_refl _, ?_⟩
    refine Tin.reg_one 3 _ rfl (by kernel_rfl) ?_
    try simp only [List.getElem_toArray, List.getElem_cons_succ, List.getElem_cons_zero]
    go_wp2_with fail
    refine (rparts_any (wd : Int) (h : Int) _ (by omega) (by omega)).mono ?_
    rintro e w' ⟨rfl, rfl⟩
    rw [PWN.out]
    go_wp2_with fail
    refine ⟨wr.heap.size, Below.refl _ _, Nat.le_refl _, ?_⟩
    refine Tin.reg_one 7 _ rfl (by kernel_rfl) ?_
    try simp only [List.getElem_toArray, List.getElem_cons_succ, List.getElem_cons_zero]
    go_wp2_with fail
    refine (rparts_any (ht : Int) (s : Int) _ (by omega) (by omega)).mono ?_
    rintro e w' ⟨rfl, rfl⟩
    rw [PHN.out]
    go_wp2_with fail
    refine ⟨wr.heap.size, Below.refl _ _, Nat.le_refl _, ?_⟩
    refine Tin.reg_quiets [8] _ 1 rfl (by simp only [Tin.pick, List.map_cons, List.map_nil, Array.getD_eq_getD_getElem?, List.getElem?_toArray, List.getElem?_cons_zero, List.getElem?_cons_succ, Option.getD_some]; rfl) (by kernel_rfl) (by kernel_rfl) ?_
    repeat (first | go_big_quiet_step (fail))
    refine wpQuiet_nil ?_
    refine Tin.reg_one 10 _ rfl (by kernel_rfl) ?_
    try simp only [List.getElem_toArray, List.getElem_cons_succ, List.getElem_cons_zero]
    go_wp2_with fail
    refine ⟨wr.heap.size, ⟨rfl, rfl, rfl, by simp, fun i hi => (heap_alloc_old wr _ hi).trans (heap_alloc_old wr _ hi).symm⟩, Nat.le_refl _, ?_⟩
    refine Tin.reg_done (by kernel_rfl) ?_
    exact tail _ _ _ _ _ _ _ _ _ _ _ _ _ _ _ _ _ _ _ _ _ _ _ _ _ _ _ _ _ _ _ _ _ _ _ _ _ _ _ _ _ _ _ _ _ _ _ _ _ _ _ _ _ _ _ _ _ _ _ _ _ _ _ _ _ _ _ _ _
end Go.Proofs.Ytajobboldjgidaa
