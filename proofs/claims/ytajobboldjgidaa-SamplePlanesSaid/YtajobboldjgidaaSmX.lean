/- SamplePlanes: the walk. -/
import Derived.Test.YtajobboldjgidaaSmW
import Derived.Test.YtajobboldjgidaaSmR
namespace Go.Proofs.Ytajobboldjgidaa
open Go.RowKit
open Go.Tin
set_option linter.unusedVariables false
set_option linter.unusedSimpArgs false


theorem pl_short {l : List Int} {wd ht h s : Nat} (hw : wd ≤ 4096) (hh : ht ≤ 4096) (h1 : 1 ≤ h ∧ h ≤ 2) (s1 : 1 ≤ s ∧ s ≤ 2) : ∀ p ∈ plL l wd ht h s 3, p.v.length ≤ 1000000000 := by
  have key : ∀ c, (plO l wd ht h s c).v.length ≤ 1000000000 := by
    intro c
    unfold plO
    split
    · show (grid _ wd ht).length ≤ _
      rw [grid_len]
      have := Nat.mul_le_mul hw hh
      omega
    · show (grid _ (ptN wd h) (ptN ht s)).length ≤ _
      rw [grid_len]
      have e1 : ptN wd h ≤ 4097 := by unfold ptN; have : h = 1 ∨ h = 2 := by omega
                                      rcases this with rfl | rfl <;> omega
      have e2 : ptN ht s ≤ 4097 := by unfold ptN; have : s = 1 ∨ s = 2 := by omega
                                      rcases this with rfl | rfl <;> omega
      have := Nat.mul_le_mul e1 e2
      omega
  intro p hp
  simp only [plL, List.nil_append, List.cons_append, List.mem_cons, List.not_mem_nil, or_false] at hp
  rcases hp with rfl | rfl | rfl <;> exact key _
theorem own_row_apart {k : IntKind} {e t : TypeId} {w : World} {B g : Nat} {v : Value} {l : List Int} {cs : Array Value} (h : Own k e w B v l) (hr : w.heap[g]? = some (.cells cs t (0, 0))) (hne : t ≠ e) : v.ownBlock ≠ some g := by
  intro hv
  rcases h.2 with ⟨rfl, _⟩ | ⟨g', cap, cur, rfl, _, hh, _⟩
  · cases hv
  · have e1 : g' = g := Option.some.inj hv
    subst e1
    rw [hr] at hh
    injection hh with hh
    injection hh with _ hh
    exact hne hh
theorem okK_pos (k : Int) : decide (0 < fH k) = okK k := by
  cases hk : okK k with
  | true => exact decide_eq_true (by have := (fHV_bd hk).1.1; omega)
  | false =>
    unfold okK at hk
    simp only [Bool.and_eq_false_iff, decide_eq_false_iff_not] at hk
    unfold fH
    simp only [if_neg (show ¬ k = 1 by omega), if_neg (show ¬ k = 2 by omega), if_neg (show ¬ k = 3 by omega)]
    rfl
set_option maxRecDepth 100000 in
set_option maxHeartbeats 16000000 in
theorem splanes_any (W H : Int) (A : Option Addr) (len c : Nat) (z0 : List Int) (k : Int) (w : World) (wW : (Lit.int .i64 W).wf = true) (wH : (Lit.int .i64 H).wf = true) (hr : IsRow .u8 w A len c z0) (wk : (Lit.int .i64 k).wf = true) :
    Calls Try.prog 5 #[.agg #[.int .i64 W, .int .i64 H, .slice A len c], .int .i64 k] w fun e w' => e = .returned (.bool true) ∧ Below w.heap.size w w' := by
  obtain ⟨hs, hlen, hlc, hcm, hwf⟩ := Sl.of_row hr
  have hby := byts_of hwf
  generalize z0.take len = l at *
  subst hlen
  clear hwf hr wW wH wk
  unfold maxLen at hcm
  obtain ⟨r0, hb0, hz0⟩ := alloc1 w (.cells (rsrow W H A l.length c) 44)
  have HV := Lib.hid (hs.keep hb0)
  have HBY := Lib.hid hby
  have R2 := Lib.hid r0
  have HB := Lib.hid hb0
  clear hs r0 hb0 hz0 hby
  have k2 := row_cell (v := .slice A l.length c) R2.out 2 rfl
  by_cases h3 : 3000 < l.length
  · have i3 : (3000 : Int) < (l.length : Int) := by omega
    go_enter Try.func5, Try.ntmps5
    go_wp2_with fail
    refine (awake_any _).mono ?_
    rintro e w9 ⟨rfl, hb9⟩
    go_wp2_with fail
    go_ret
    exact ⟨rfl, HB.out.trans (hb9.mono HB.out.size)⟩
  have i3 : (l.length : Int) ≤ 3000 := by omega
  clear h3
  go_enter Try.func5, Try.ntmps5
  refine wp_seq_k fun K0 hK0 => ?_
  have HK0 := Lib.hid hK0
  clear hK0
  go_wp2_with fail
  refine HK0.out _ _ ?_
  clear HK0
  refine wp_seq_k fun K1 hK1 => ?_
  have HK1 := Lib.hid hK1
  clear hK1
  go_wp2_with fail
  refine HK1.out _ _ ?_
  clear HK1 k2
  generalize (w.alloc (.cells (rsrow W H A l.length c) 44)) = v0 at *
  refine wp_seq_k fun K3 hK3 => ?_
  have HK3 := Lib.hid hK3
  clear hK3
  have tail : ∀ (X : World) (g5 : Nat) (A5 : Option Addr) (c5 : Nat), X.heap[g5]? = some (.cells (rsrow W H A5 l.length c5) 44 (0, 0)) → Sl .u8 X A5 l → l.length ≤ c5 → X.heap[w.heap.size]? = some (.cells (rsrow W H A l.length c) 44 (0, 0)) → Sl .u8 X A l → Below w.heap.size w X → ∀ (u3 u4 u6 u7 u8 u9 u10 u11 u12 u13 u14 u15 u16 u17 u18 u19 u20 u21 u22 u23 u24 u25 u26 u27 u28 u29 u30 u31 u32 u33 u34 u35 u36 u37 u38 u39 u40 u41 u42 u43 u44 u45 u46 u47 u48 u49 u50 u51 u52 u53 u54 u55 u56 u57 u58 u59 u60 u61 u62 u63 u64 u65 u66 u67 u68 u69 u70 u71 u72 u73 u74 u75 u76 u77 u78 u79 u80 u81 u82 u83 u84 u85 u86 u87 u88 u89 u90 u91 u92 u93 u94 u95 u96 u97 u98 u99 u100 u101 u102 u103 u104 u105 u106 u107 u108 u109 u110 u111 u112 u113 u114 u115 u116 u117 u118 u119 u120 u121 u122 u123 u124 u125 u126 u127 u128 u129 u130 u131 u132 u133 u134 u135 u136 u137 u138 u139 u140 u141 u142 u143 u144 u145 u146 u147 u148 u149 u150 u151 u152 u153 u154 u155 u156 u157 : Value), K3 { tmps := #[rsA W H A l.length c, .int .i64 k, .pointer (some ⟨w.heap.size, 0, none⟩), u3, u4, .pointer (some ⟨g5, 0, none⟩), u6, u7, u8, u9, u10, u11, u12, u13, u14, u15, u16, u17, u18, u19, u20, u21, u22, u23, u24, u25, u26, u27, u28, u29, u30, u31, u32, u33, u34, u35, u36, u37, u38, u39, u40, u41, u42, u43, u44, u45, u46, u47, u48, u49, u50, u51, u52, u53, u54, u55, u56, u57, u58, u59, u60, u61, u62, u63, u64, u65, u66, u67, u68, u69, u70, u71, u72, u73, u74, u75, u76, u77, u78, u79, u80, u81, u82, u83, u84, u85, u86, u87, u88, u89, u90, u91, u92, u93, u94, u95, u96, u97, u98, u99, u100, u101, u102, u103, u104, u105, u106, u107, u108, u109, u110, u111, u112, u113, u114, u115, u116, u117, u118, u119, u120, u121, u122, u123, u124, u125, u126, u127, u128, u129, u130, u131, u132, u133, u134, u135, u136, u137, u138, u139, u140, u141, u142, u143, u144, u145, u146, u147, u148, u149, u150, u151, u152, u153, u154, u155, u156, u157], defers := [] } X := by
    clear HB R2 HV
    intro X g5 A5 c5 hr5 hs5 hc5 hr2 hsv hbx u3 u4 u6 u7 u8 u9 u10 u11 u12 u13 u14 u15 u16 u17 u18 u19 u20 u21 u22 u23 u24 u25 u26 u27 u28 u29 u30 u31 u32 u33 u34 u35 u36 u37 u38 u39 u40 u41 u42 u43 u44 u45 u46 u47 u48 u49 u50 u51 u52 u53 u54 u55 u56 u57 u58 u59 u60 u61 u62 u63 u64 u65 u66 u67 u68 u69 u70 u71 u72 u73 u74 u75 u76 u77 u78 u79 u80 u81 u82 u83 u84 u85 u86 u87 u88 u89 u90 u91 u92 u93 u94 u95 u96 u97 u98 u99 u100 u101 u102 u103 u104 u105 u106 u107 u108 u109 u110 u111 u112 u113 u114 u115 u116 u117 u118 u119 u120 u121 u122 u123 u124 u125 u126 u127 u128 u129 u130 u131 u132 u133 u134 u135 u136 u137 u138 u139 u140 u141 u142 u143 u144 u145 u146 u147 u148 u149 u150 u151 u152 u153 u154 u155 u156 u157
    have R5 := Lib.hid hr5
    have HS5 := Lib.hid hs5
    have R2 := Lib.hid hr2
    have HV := Lib.hid hsv
    have HB := Lib.hid hbx
    clear hr5 hs5 hr2 hsv hbx
    refine HK3.out _ _ ?_
    clear HK3
    dsimp only
    have hok0 := okK_pos k
    cases hk : okK k with
    | false =>
      rw [hk] at hok0
      have hu : okU k W H = false := by unfold okU; rw [hk]; rfl
      have hp : (okK k && mayB W H l.length) = false := by rw [hk]; rfl
      go_wp2_with fail
      refine (factors_any k _).mono ?_
      rintro e t1 ⟨rfl, hb⟩
      replace R5 := Lib.hid ((hb.block _ (row_lt R5.out)).trans R5.out)
      replace HS5 := Lib.hid (HS5.out.keep hb)
      replace R2 := Lib.hid ((hb.block _ (row_lt R2.out)).trans R2.out)
      replace HV := Lib.hid (HV.out.keep hb)
      replace HB := Lib.hid (HB.out.trans (hb.mono HB.out.size))
      clear hb
      go_wp2_with fail
      refine (rfactors_any k _).mono ?_
      rintro e w' ⟨rfl, rfl⟩
      have k0 := row_cell (v := .int .i64 W) R2.out 0 rfl
      have k1 := row_cell (v := .int .i64 H) R2.out 1 rfl
      go_wp2_with fail
      clear k0 k1
      refine (units_no k W H _ hu).mono ?_
      rintro e t2 ⟨rfl, hb⟩
      replace R5 := Lib.hid ((hb.block _ (row_lt R5.out)).trans R5.out)
      replace HS5 := Lib.hid (HS5.out.keep hb)
      replace R2 := Lib.hid ((hb.block _ (row_lt R2.out)).trans R2.out)
      replace HV := Lib.hid (HV.out.keep hb)
      replace HB := Lib.hid (HB.out.trans (hb.mono HB.out.size))
      clear hb
      go_wp2_with ((with_reducible refine wpl_load_row rtR ?_ (.tmp 5) ?_ g5 ?_ 44 (rsrow W H A5 l.length c5) ?_ R5.out ?_); rfl; rfl; rfl; rfl; simp only [Act.put, List.setIfInBounds_toArray, List.set_cons_succ, List.set_cons_zero])
      refine (planes_no k W H A5 l.length c5 _ hp).mono ?_
      rintro e t3 ⟨rfl, hb⟩
      replace R5 := Lib.hid ((hb.block _ (row_lt R5.out)).trans R5.out)
      replace HS5 := Lib.hid (HS5.out.keep hb)
      replace R2 := Lib.hid ((hb.block _ (row_lt R2.out)).trans R2.out)
      replace HV := Lib.hid (HV.out.keep hb)
      replace HB := Lib.hid (HB.out.trans (hb.mono HB.out.size))
      clear hb
      have j0 := hok0
      go_wp2_with (first | ((with_reducible refine wpl_load_row rtR ?_ (.tmp 5) ?_ g5 ?_ 44 (rsrow W H A5 l.length c5) ?_ R5.out ?_); rfl; rfl; rfl; rfl; simp only [Act.put, List.setIfInBounds_toArray, List.set_cons_succ, List.set_cons_zero]) | ((with_reducible refine wpl_load_row rtR ?_ (.tmp 2) ?_ (w.heap.size) ?_ 44 (rsrow W H A l.length c) ?_ R2.out ?_); rfl; rfl; rfl; rfl; simp only [Act.put, List.setIfInBounds_toArray, List.set_cons_succ, List.set_cons_zero]))
      refine (sameR_eq W H A5 A l c5 c _ HS5.out HV.out).mono ?_
      rintro e t4 ⟨rfl, hb⟩
      replace R5 := Lib.hid ((hb.block _ (row_lt R5.out)).trans R5.out)
      replace HS5 := Lib.hid (HS5.out.keep hb)
      replace R2 := Lib.hid ((hb.block _ (row_lt R2.out)).trans R2.out)
      replace HV := Lib.hid (HV.out.keep hb)
      replace HB := Lib.hid (HB.out.trans (hb.mono HB.out.size))
      clear hb
      have k0 := row_cell (v := .int .i64 W) R2.out 0 rfl
      have k1 := row_cell (v := .int .i64 H) R2.out 1 rfl
      clear j0
      go_wp2_with fail
      refine (awake_any _).mono ?_
      rintro e t5 ⟨rfl, hb⟩
      replace R5 := Lib.hid ((hb.block _ (row_lt R5.out)).trans R5.out)
      replace HS5 := Lib.hid (HS5.out.keep hb)
      replace R2 := Lib.hid ((hb.block _ (row_lt R2.out)).trans R2.out)
      replace HV := Lib.hid (HV.out.keep hb)
      replace HB := Lib.hid (HB.out.trans (hb.mono HB.out.size))
      clear hb
      go_wp2_with fail
      go_ret
      exact ⟨rfl, HB.out⟩
    | true =>
    rw [hk] at hok0
    obtain ⟨⟨x0, x1⟩, y0, y1⟩ := fHV_bd hk
    cases hW : okS W with
    | false =>
      have hu : okU k W H = false := by unfold okU; rw [hk, hW]; rfl
      have hp : (okK k && mayB W H l.length) = false := by unfold mayB; rw [hk, hW]; rfl
      go_wp2_with fail
      refine (factors_any k _).mono ?_
      rintro e t1 ⟨rfl, hb⟩
      replace R5 := Lib.hid ((hb.block _ (row_lt R5.out)).trans R5.out)
      replace HS5 := Lib.hid (HS5.out.keep hb)
      replace R2 := Lib.hid ((hb.block _ (row_lt R2.out)).trans R2.out)
      replace HV := Lib.hid (HV.out.keep hb)
      replace HB := Lib.hid (HB.out.trans (hb.mono HB.out.size))
      clear hb
      go_wp2_with fail
      refine (rfactors_any k _).mono ?_
      rintro e w' ⟨rfl, rfl⟩
      have k0 := row_cell (v := .int .i64 W) R2.out 0 rfl
      have k1 := row_cell (v := .int .i64 H) R2.out 1 rfl
      go_wp2_with fail
      clear k0 k1
      refine (units_no k W H _ hu).mono ?_
      rintro e t2 ⟨rfl, hb⟩
      replace R5 := Lib.hid ((hb.block _ (row_lt R5.out)).trans R5.out)
      replace HS5 := Lib.hid (HS5.out.keep hb)
      replace R2 := Lib.hid ((hb.block _ (row_lt R2.out)).trans R2.out)
      replace HV := Lib.hid (HV.out.keep hb)
      replace HB := Lib.hid (HB.out.trans (hb.mono HB.out.size))
      clear hb
      go_wp2_with ((with_reducible refine wpl_load_row rtR ?_ (.tmp 5) ?_ g5 ?_ 44 (rsrow W H A5 l.length c5) ?_ R5.out ?_); rfl; rfl; rfl; rfl; simp only [Act.put, List.setIfInBounds_toArray, List.set_cons_succ, List.set_cons_zero])
      refine (planes_no k W H A5 l.length c5 _ hp).mono ?_
      rintro e t3 ⟨rfl, hb⟩
      replace R5 := Lib.hid ((hb.block _ (row_lt R5.out)).trans R5.out)
      replace HS5 := Lib.hid (HS5.out.keep hb)
      replace R2 := Lib.hid ((hb.block _ (row_lt R2.out)).trans R2.out)
      replace HV := Lib.hid (HV.out.keep hb)
      replace HB := Lib.hid (HB.out.trans (hb.mono HB.out.size))
      clear hb
      have j0 := hok0
      go_wp2_with (first | ((with_reducible refine wpl_load_row rtR ?_ (.tmp 5) ?_ g5 ?_ 44 (rsrow W H A5 l.length c5) ?_ R5.out ?_); rfl; rfl; rfl; rfl; simp only [Act.put, List.setIfInBounds_toArray, List.set_cons_succ, List.set_cons_zero]) | ((with_reducible refine wpl_load_row rtR ?_ (.tmp 2) ?_ (w.heap.size) ?_ 44 (rsrow W H A l.length c) ?_ R2.out ?_); rfl; rfl; rfl; rfl; simp only [Act.put, List.setIfInBounds_toArray, List.set_cons_succ, List.set_cons_zero]))
      refine (sameR_eq W H A5 A l c5 c _ HS5.out HV.out).mono ?_
      rintro e t4 ⟨rfl, hb⟩
      replace R5 := Lib.hid ((hb.block _ (row_lt R5.out)).trans R5.out)
      replace HS5 := Lib.hid (HS5.out.keep hb)
      replace R2 := Lib.hid ((hb.block _ (row_lt R2.out)).trans R2.out)
      replace HV := Lib.hid (HV.out.keep hb)
      replace HB := Lib.hid (HB.out.trans (hb.mono HB.out.size))
      clear hb
      have k0 := row_cell (v := .int .i64 W) R2.out 0 rfl
      have k1 := row_cell (v := .int .i64 H) R2.out 1 rfl
      clear j0
      go_wp2_with fail
      refine (rsize_any W _).mono ?_
      rintro e w' ⟨rfl, rfl⟩
      rw [hW]
      go_wp2_with fail
      refine (awake_any _).mono ?_
      rintro e t5 ⟨rfl, hb⟩
      replace R5 := Lib.hid ((hb.block _ (row_lt R5.out)).trans R5.out)
      replace HS5 := Lib.hid (HS5.out.keep hb)
      replace R2 := Lib.hid ((hb.block _ (row_lt R2.out)).trans R2.out)
      replace HV := Lib.hid (HV.out.keep hb)
      replace HB := Lib.hid (HB.out.trans (hb.mono HB.out.size))
      clear hb
      go_wp2_with fail
      go_ret
      exact ⟨rfl, HB.out⟩
    | true =>
    cases hH : okS H with
    | false =>
      have hu : okU k W H = false := by unfold okU; rw [hk, hW, hH]; rfl
      have hp : (okK k && mayB W H l.length) = false := by unfold mayB; rw [hk, hW, hH]; rfl
      go_wp2_with fail
      refine (factors_any k _).mono ?_
      rintro e t1 ⟨rfl, hb⟩
      replace R5 := Lib.hid ((hb.block _ (row_lt R5.out)).trans R5.out)
      replace HS5 := Lib.hid (HS5.out.keep hb)
      replace R2 := Lib.hid ((hb.block _ (row_lt R2.out)).trans R2.out)
      replace HV := Lib.hid (HV.out.keep hb)
      replace HB := Lib.hid (HB.out.trans (hb.mono HB.out.size))
      clear hb
      go_wp2_with fail
      refine (rfactors_any k _).mono ?_
      rintro e w' ⟨rfl, rfl⟩
      have k0 := row_cell (v := .int .i64 W) R2.out 0 rfl
      have k1 := row_cell (v := .int .i64 H) R2.out 1 rfl
      go_wp2_with fail
      clear k0 k1
      refine (units_no k W H _ hu).mono ?_
      rintro e t2 ⟨rfl, hb⟩
      replace R5 := Lib.hid ((hb.block _ (row_lt R5.out)).trans R5.out)
      replace HS5 := Lib.hid (HS5.out.keep hb)
      replace R2 := Lib.hid ((hb.block _ (row_lt R2.out)).trans R2.out)
      replace HV := Lib.hid (HV.out.keep hb)
      replace HB := Lib.hid (HB.out.trans (hb.mono HB.out.size))
      clear hb
      go_wp2_with ((with_reducible refine wpl_load_row rtR ?_ (.tmp 5) ?_ g5 ?_ 44 (rsrow W H A5 l.length c5) ?_ R5.out ?_); rfl; rfl; rfl; rfl; simp only [Act.put, List.setIfInBounds_toArray, List.set_cons_succ, List.set_cons_zero])
      refine (planes_no k W H A5 l.length c5 _ hp).mono ?_
      rintro e t3 ⟨rfl, hb⟩
      replace R5 := Lib.hid ((hb.block _ (row_lt R5.out)).trans R5.out)
      replace HS5 := Lib.hid (HS5.out.keep hb)
      replace R2 := Lib.hid ((hb.block _ (row_lt R2.out)).trans R2.out)
      replace HV := Lib.hid (HV.out.keep hb)
      replace HB := Lib.hid (HB.out.trans (hb.mono HB.out.size))
      clear hb
      have j0 := hok0
      go_wp2_with (first | ((with_reducible refine wpl_load_row rtR ?_ (.tmp 5) ?_ g5 ?_ 44 (rsrow W H A5 l.length c5) ?_ R5.out ?_); rfl; rfl; rfl; rfl; simp only [Act.put, List.setIfInBounds_toArray, List.set_cons_succ, List.set_cons_zero]) | ((with_reducible refine wpl_load_row rtR ?_ (.tmp 2) ?_ (w.heap.size) ?_ 44 (rsrow W H A l.length c) ?_ R2.out ?_); rfl; rfl; rfl; rfl; simp only [Act.put, List.setIfInBounds_toArray, List.set_cons_succ, List.set_cons_zero]))
      refine (sameR_eq W H A5 A l c5 c _ HS5.out HV.out).mono ?_
      rintro e t4 ⟨rfl, hb⟩
      replace R5 := Lib.hid ((hb.block _ (row_lt R5.out)).trans R5.out)
      replace HS5 := Lib.hid (HS5.out.keep hb)
      replace R2 := Lib.hid ((hb.block _ (row_lt R2.out)).trans R2.out)
      replace HV := Lib.hid (HV.out.keep hb)
      replace HB := Lib.hid (HB.out.trans (hb.mono HB.out.size))
      clear hb
      have k0 := row_cell (v := .int .i64 W) R2.out 0 rfl
      have k1 := row_cell (v := .int .i64 H) R2.out 1 rfl
      clear j0
      go_wp2_with fail
      refine (rsize_any W _).mono ?_
      rintro e w' ⟨rfl, rfl⟩
      rw [hW]
      go_wp2_with fail
      refine (rsize_any H _).mono ?_
      rintro e w' ⟨rfl, rfl⟩
      rw [hH]
      go_wp2_with fail
      refine (awake_any _).mono ?_
      rintro e t5 ⟨rfl, hb⟩
      replace R5 := Lib.hid ((hb.block _ (row_lt R5.out)).trans R5.out)
      replace HS5 := Lib.hid (HS5.out.keep hb)
      replace R2 := Lib.hid ((hb.block _ (row_lt R2.out)).trans R2.out)
      replace HV := Lib.hid (HV.out.keep hb)
      replace HB := Lib.hid (HB.out.trans (hb.mono HB.out.size))
      clear hb
      go_wp2_with fail
      go_ret
      exact ⟨rfl, HB.out⟩
    | true =>
    have hu : okU k W H = true := by unfold okU; rw [hk, hW, hH]; rfl
    obtain ⟨W0a, W0b⟩ := okS_t hW
    obtain ⟨H0a, H0b⟩ := okS_t hH
    cases hmb : mayB W H l.length with
    | false =>
      have hp : (okK k && mayB W H l.length) = false := by rw [hk, hmb]; rfl
      go_wp2_with fail
      refine (factors_any k _).mono ?_
      rintro e t1 ⟨rfl, hb⟩
      replace R5 := Lib.hid ((hb.block _ (row_lt R5.out)).trans R5.out)
      replace HS5 := Lib.hid (HS5.out.keep hb)
      replace R2 := Lib.hid ((hb.block _ (row_lt R2.out)).trans R2.out)
      replace HV := Lib.hid (HV.out.keep hb)
      replace HB := Lib.hid (HB.out.trans (hb.mono HB.out.size))
      clear hb
      go_wp2_with fail
      refine (rfactors_any k _).mono ?_
      rintro e w' ⟨rfl, rfl⟩
      have k0 := row_cell (v := .int .i64 W) R2.out 0 rfl
      have k1 := row_cell (v := .int .i64 H) R2.out 1 rfl
      go_wp2_with fail
      clear k0 k1
      refine (units_yes k W H _ hu).mono ?_
      rintro e t2 ⟨rfl, hb⟩
      replace R5 := Lib.hid ((hb.block _ (row_lt R5.out)).trans R5.out)
      replace HS5 := Lib.hid (HS5.out.keep hb)
      replace R2 := Lib.hid ((hb.block _ (row_lt R2.out)).trans R2.out)
      replace HV := Lib.hid (HV.out.keep hb)
      replace HB := Lib.hid (HB.out.trans (hb.mono HB.out.size))
      clear hb
      go_wp2_with ((with_reducible refine wpl_load_row rtR ?_ (.tmp 5) ?_ g5 ?_ 44 (rsrow W H A5 l.length c5) ?_ R5.out ?_); rfl; rfl; rfl; rfl; simp only [Act.put, List.setIfInBounds_toArray, List.set_cons_succ, List.set_cons_zero])
      refine (planes_no k W H A5 l.length c5 _ hp).mono ?_
      rintro e t3 ⟨rfl, hb⟩
      replace R5 := Lib.hid ((hb.block _ (row_lt R5.out)).trans R5.out)
      replace HS5 := Lib.hid (HS5.out.keep hb)
      replace R2 := Lib.hid ((hb.block _ (row_lt R2.out)).trans R2.out)
      replace HV := Lib.hid (HV.out.keep hb)
      replace HB := Lib.hid (HB.out.trans (hb.mono HB.out.size))
      clear hb
      have j0 := hok0
      go_wp2_with (first | ((with_reducible refine wpl_load_row rtR ?_ (.tmp 5) ?_ g5 ?_ 44 (rsrow W H A5 l.length c5) ?_ R5.out ?_); rfl; rfl; rfl; rfl; simp only [Act.put, List.setIfInBounds_toArray, List.set_cons_succ, List.set_cons_zero]) | ((with_reducible refine wpl_load_row rtR ?_ (.tmp 2) ?_ (w.heap.size) ?_ 44 (rsrow W H A l.length c) ?_ R2.out ?_); rfl; rfl; rfl; rfl; simp only [Act.put, List.setIfInBounds_toArray, List.set_cons_succ, List.set_cons_zero]))
      refine (sameR_eq W H A5 A l c5 c _ HS5.out HV.out).mono ?_
      rintro e t4 ⟨rfl, hb⟩
      replace R5 := Lib.hid ((hb.block _ (row_lt R5.out)).trans R5.out)
      replace HS5 := Lib.hid (HS5.out.keep hb)
      replace R2 := Lib.hid ((hb.block _ (row_lt R2.out)).trans R2.out)
      replace HV := Lib.hid (HV.out.keep hb)
      replace HB := Lib.hid (HB.out.trans (hb.mono HB.out.size))
      clear hb
      have k0 := row_cell (v := .int .i64 W) R2.out 0 rfl
      have k1 := row_cell (v := .int .i64 H) R2.out 1 rfl
      clear j0
      go_wp2_with fail
      refine (rsize_any W _).mono ?_
      rintro e w' ⟨rfl, rfl⟩
      rw [hW]
      go_wp2_with fail
      refine (rsize_any H _).mono ?_
      rintro e w' ⟨rfl, rfl⟩
      rw [hH]
      go_wp2_with fail
      refine (rparts_any W (8 * fH k) _ (by omega) (by omega)).mono ?_
      rintro e w' ⟨rfl, rfl⟩
      go_wp2_with fail
      refine (rparts_any H (8 * fV k) _ (by omega) (by omega)).mono ?_
      rintro e w' ⟨rfl, rfl⟩
      clear k0 k1
      go_wp2_with ((with_reducible refine wpl_load_row rtR ?_ (.tmp 2) ?_ (w.heap.size) ?_ 44 (rsrow W H A l.length c) ?_ R2.out ?_); rfl; rfl; rfl; rfl; simp only [Act.put, List.setIfInBounds_toArray, List.set_cons_succ, List.set_cons_zero])
      refine (rmay_any W H A l.length c _).mono ?_
      rintro e t5 ⟨rfl, hb⟩
      replace R5 := Lib.hid ((hb.block _ (row_lt R5.out)).trans R5.out)
      replace HS5 := Lib.hid (HS5.out.keep hb)
      replace R2 := Lib.hid ((hb.block _ (row_lt R2.out)).trans R2.out)
      replace HV := Lib.hid (HV.out.keep hb)
      replace HB := Lib.hid (HB.out.trans (hb.mono HB.out.size))
      clear hb
      rw [hmb]
      go_wp2_with fail
      refine (awake_any _).mono ?_
      rintro e t6 ⟨rfl, hb⟩
      replace R5 := Lib.hid ((hb.block _ (row_lt R5.out)).trans R5.out)
      replace HS5 := Lib.hid (HS5.out.keep hb)
      replace R2 := Lib.hid ((hb.block _ (row_lt R2.out)).trans R2.out)
      replace HV := Lib.hid (HV.out.keep hb)
      replace HB := Lib.hid (HB.out.trans (hb.mono HB.out.size))
      clear hb
      go_wp2_with fail
      go_ret
      exact ⟨rfl, HB.out⟩
    | true =>
    obtain ⟨wd, rfl⟩ : ∃ n : Nat, W = (n : Int) := ⟨W.toNat, by omega⟩
    obtain ⟨ht, rfl⟩ : ∃ n : Nat, H = (n : Int) := ⟨H.toNat, by omega⟩
    obtain ⟨h, hfx⟩ : ∃ n : Nat, fH k = (n : Int) := ⟨(fH k).toNat, by omega⟩
    obtain ⟨s, hfy⟩ : ∃ n : Nat, fV k = (n : Int) := ⟨(fV k).toNat, by omega⟩
    have HPL := Lib.hid (pl_short (l := l) (wd := wd) (ht := ht) (h := h) (s := s) (by omega) (by omega) (by omega) (by omega))
    have HFX := Lib.hid hfx
    have HFY := Lib.hid hfy
    clear hfx hfy
    go_wp2_with fail
    refine (factors_any k _).mono ?_
    rintro e t1 ⟨rfl, hb⟩
    replace R5 := Lib.hid ((hb.block _ (row_lt R5.out)).trans R5.out)
    replace HS5 := Lib.hid (HS5.out.keep hb)
    replace R2 := Lib.hid ((hb.block _ (row_lt R2.out)).trans R2.out)
    replace HV := Lib.hid (HV.out.keep hb)
    replace HB := Lib.hid (HB.out.trans (hb.mono HB.out.size))
    clear hb
    go_wp2_with fail
    refine (rfactors_any k _).mono ?_
    rintro e w' ⟨rfl, rfl⟩
    have k0 := row_cell (v := .int .i64 (wd : Int)) R2.out 0 rfl
    have k1 := row_cell (v := .int .i64 (ht : Int)) R2.out 1 rfl
    go_wp2_with fail
    clear k0 k1
    refine (units_yes k (wd : Int) (ht : Int) _ hu).mono ?_
    rintro e t2 ⟨rfl, hb⟩
    replace R5 := Lib.hid ((hb.block _ (row_lt R5.out)).trans R5.out)
    replace HS5 := Lib.hid (HS5.out.keep hb)
    replace R2 := Lib.hid ((hb.block _ (row_lt R2.out)).trans R2.out)
    replace HV := Lib.hid (HV.out.keep hb)
    replace HB := Lib.hid (HB.out.trans (hb.mono HB.out.size))
    clear hb
    go_wp2_with ((with_reducible refine wpl_load_row rtR ?_ (.tmp 5) ?_ g5 ?_ 44 (rsrow (wd : Int) (ht : Int) A5 l.length c5) ?_ R5.out ?_); rfl; rfl; rfl; rfl; simp only [Act.put, List.setIfInBounds_toArray, List.set_cons_succ, List.set_cons_zero])
    refine (planes_yes k wd ht h s l A5 c5 _ HS5.out hc5 HBY.out (by omega) hk hmb HFX.out HFY.out).mono ?_
    rintro e t3 ⟨A14, c14, xs14, rfl, ht3_0, ht3_1, hb⟩
    replace R5 := Lib.hid ((hb.block _ (row_lt R5.out)).trans R5.out)
    replace HS5 := Lib.hid (HS5.out.keep hb)
    replace R2 := Lib.hid ((hb.block _ (row_lt R2.out)).trans R2.out)
    replace HV := Lib.hid (HV.out.keep hb)
    replace HB := Lib.hid (HB.out.trans (hb.mono HB.out.size))
    have HO14 := Lib.hid ht3_0
    have HN14 := Lib.hid ht3_1
    clear ht3_0 ht3_1 hb
    have HP14 := Lib.hid (PlS.own HO14.out HN14.out HPL.out)
    clear HO14 HN14
    have j0 := hok0
    go_wp2_with (first | ((with_reducible refine wpl_load_row rtR ?_ (.tmp 5) ?_ g5 ?_ 44 (rsrow (wd : Int) (ht : Int) A5 l.length c5) ?_ R5.out ?_); rfl; rfl; rfl; rfl; simp only [Act.put, List.setIfInBounds_toArray, List.set_cons_succ, List.set_cons_zero]) | ((with_reducible refine wpl_load_row rtR ?_ (.tmp 2) ?_ (w.heap.size) ?_ 44 (rsrow (wd : Int) (ht : Int) A l.length c) ?_ R2.out ?_); rfl; rfl; rfl; rfl; simp only [Act.put, List.setIfInBounds_toArray, List.set_cons_succ, List.set_cons_zero]))
    refine (sameR_eq (wd : Int) (ht : Int) A5 A l c5 c _ HS5.out HV.out).mono ?_
    rintro e t4 ⟨rfl, hb⟩
    replace R5 := Lib.hid ((hb.block _ (row_lt R5.out)).trans R5.out)
    replace HS5 := Lib.hid (HS5.out.keep hb)
    replace R2 := Lib.hid ((hb.block _ (row_lt R2.out)).trans R2.out)
    replace HV := Lib.hid (HV.out.keep hb)
    replace HP14 := Lib.hid (HP14.out.keep hb)
    replace HB := Lib.hid (HB.out.trans (hb.mono HB.out.size))
    clear hb
    have k0 := row_cell (v := .int .i64 (wd : Int)) R2.out 0 rfl
    have k1 := row_cell (v := .int .i64 (ht : Int)) R2.out 1 rfl
    clear j0
    go_wp2_with fail
    refine (rsize_any (wd : Int) _).mono ?_
    rintro e w' ⟨rfl, rfl⟩
    rw [hW]
    go_wp2_with fail
    refine (rsize_any (ht : Int) _).mono ?_
    rintro e w' ⟨rfl, rfl⟩
    rw [hH]
    go_wp2_with fail
    refine (rparts_any (wd : Int) (8 * fH k) _ (by omega) (by omega)).mono ?_
    rintro e w' ⟨rfl, rfl⟩
    go_wp2_with fail
    refine (rparts_any (ht : Int) (8 * fV k) _ (by omega) (by omega)).mono ?_
    rintro e w' ⟨rfl, rfl⟩
    clear k0 k1
    go_wp2_with ((with_reducible refine wpl_load_row rtR ?_ (.tmp 2) ?_ (w.heap.size) ?_ 44 (rsrow (wd : Int) (ht : Int) A l.length c) ?_ R2.out ?_); rfl; rfl; rfl; rfl; simp only [Act.put, List.setIfInBounds_toArray, List.set_cons_succ, List.set_cons_zero])
    refine (rmay_any (wd : Int) (ht : Int) A l.length c _).mono ?_
    rintro e t5 ⟨rfl, hb⟩
    replace R5 := Lib.hid ((hb.block _ (row_lt R5.out)).trans R5.out)
    replace HS5 := Lib.hid (HS5.out.keep hb)
    replace R2 := Lib.hid ((hb.block _ (row_lt R2.out)).trans R2.out)
    replace HV := Lib.hid (HV.out.keep hb)
    replace HP14 := Lib.hid (HP14.out.keep hb)
    replace HB := Lib.hid (HB.out.trans (hb.mono HB.out.size))
    clear hb
    rw [hmb]
    go_wp2_with ((with_reducible refine wpl_load_row rtR ?_ (.tmp 2) ?_ (w.heap.size) ?_ 44 (rsrow (wd : Int) (ht : Int) A l.length c) ?_ R2.out ?_); rfl; rfl; rfl; rfl; simp only [Act.put, List.setIfInBounds_toArray, List.set_cons_succ, List.set_cons_zero])
    refine (rplanes_any k wd ht h s l A c _ HV.out HBY.out (by omega) hk hmb HFX.out HFY.out).mono ?_
    rintro e t6 ⟨A16, c16, xs16, rfl, ht6_0, ht6_1, hb⟩
    replace R5 := Lib.hid ((hb.block _ (row_lt R5.out)).trans R5.out)
    replace HS5 := Lib.hid (HS5.out.keep hb)
    replace R2 := Lib.hid ((hb.block _ (row_lt R2.out)).trans R2.out)
    replace HV := Lib.hid (HV.out.keep hb)
    replace HP14 := Lib.hid (HP14.out.keep hb)
    replace HB := Lib.hid (HB.out.trans (hb.mono HB.out.size))
    have HO16 := Lib.hid ht6_0
    have HN16 := Lib.hid ht6_1
    clear ht6_0 ht6_1 hb
    have HP16 := Lib.hid (PlS.own HO16.out HN16.out HPL.out)
    clear HO16 HN16
    go_wp2_with fail
    have hl3 : (plL l wd ht h s 3).length = 3 := plL_len _ _ _ _ _ _
    have hre := rows_eq A14 A16 c14 c16 (plL l wd ht h s 3) _ HP14.out HP16.out (by rw [hl3]; omega)
    rw [hl3] at hre
    clear hl3
    refine (hre).mono ?_
    rintro e t7 ⟨rfl, hb⟩
    replace R5 := Lib.hid ((hb.block _ (row_lt R5.out)).trans R5.out)
    replace HS5 := Lib.hid (HS5.out.keep hb)
    replace R2 := Lib.hid ((hb.block _ (row_lt R2.out)).trans R2.out)
    replace HV := Lib.hid (HV.out.keep hb)
    replace HP14 := Lib.hid (HP14.out.keep hb)
    replace HP16 := Lib.hid (HP16.out.keep hb)
    replace HB := Lib.hid (HB.out.trans (hb.mono HB.out.size))
    clear hb
    clear hre
    go_wp2_with fail
    refine (awake_any _).mono ?_
    rintro e t8 ⟨rfl, hb⟩
    replace R5 := Lib.hid ((hb.block _ (row_lt R5.out)).trans R5.out)
    replace HS5 := Lib.hid (HS5.out.keep hb)
    replace R2 := Lib.hid ((hb.block _ (row_lt R2.out)).trans R2.out)
    replace HV := Lib.hid (HV.out.keep hb)
    replace HP14 := Lib.hid (HP14.out.keep hb)
    replace HP16 := Lib.hid (HP16.out.keep hb)
    replace HB := Lib.hid (HB.out.trans (hb.mono HB.out.size))
    clear hb
    go_wp2_with fail
    go_ret
    exact ⟨rfl, HB.out⟩
  go_wp2_with fail
  have LT_R2 : _ < v0.heap.size := row_lt R2.out
  have SZ : v0.heap.size ≤ v0.drew.heap.size := Nat.le_refl _
  have hb := ud' (brefl v0)
  replace R2 := Lib.hid ((hb.block _ (row_lt R2.out)).trans R2.out)
  replace HV := Lib.hid (HV.out.keep hb)
  replace HB := Lib.hid (HB.out.trans (hb.mono HB.out.size))
  clear hb
  refine Tin.reg_begin (v0.heap.size) 11 (by rfl) (by kernel_rfl) ?_
  generalize v0.drew = v1 at *
  have q0 : ∀ p : Bel (v0.heap.size) v1, p.w'.cell? ⟨w.heap.size, 0, none⟩ = some (.int .i64 W) := fun p => row_cell ((p.h.block _ LT_R2).trans R2.out) 0 rfl
  have q1 : ∀ p : Bel (v0.heap.size) v1, p.w'.cell? ⟨w.heap.size, 1, none⟩ = some (.int .i64 H) := fun p => row_cell ((p.h.block _ LT_R2).trans R2.out) 1 rfl
  have q2 : ∀ p : Bel (v0.heap.size) v1, p.w'.cell? ⟨w.heap.size, 2, none⟩ = some (.slice A l.length c) := fun p => row_cell ((p.h.block _ LT_R2).trans R2.out) 2 rfl
  refine Tin.reg_quiets [0, 1, 2, 3, 5, 6] _ 5 rfl (by simp only [Tin.pick, List.map_cons, List.map_nil, Array.getD_eq_getD_getElem?, List.getElem?_toArray, List.getElem?_cons_zero, List.getElem?_cons_succ, Option.getD_some]; rfl) (by kernel_rfl) (by kernel_rfl) ?_
  repeat (first | go_big_quiet_step (fail))
  refine wpQuiet_nil ?_
  clear q0 q1 q2
  have HVK := fun (Y : World) (h : Below v1.heap.size v1 Y) => HV.out.keep h
  have hlw : w.heap.size < v1.heap.size := row_lt R2.out
  have HSV := Lib.hid (brefl v1)
  have HSV_le_HB := HB.out.size
  refine Tin.reg_two 4 9 _ _ rfl rfl (by kernel_rfl) ?_ ?_
  · have HSN := Lib.hid (brefl v1)
    have HSN_R2 := R2
    have HSN_HV := HV
    have HSN_le_HB := HB.out.size
    have HSN_le_HSV := HSV.out.size
    have hgl : v0.heap.size ≤ v1.heap.size := SZ
    try simp only [List.getElem_toArray, List.getElem_cons_succ, List.getElem_cons_zero]
    go_wp2_with fail
    have hv := ba (brefl v1) (.cells #[] 5)
    refine ⟨v0.heap.size, hv.mono SZ, Nat.le_refl _, ?_⟩
    have E1 := Lib.hid (show Own .u8 5 (v1.alloc (.cells #[] 5)) v1.heap.size (.slice (some ⟨v1.heap.size, 0, none⟩) 0 0) [] from Own.new0 v1)
    replace R2 := Lib.hid ((hv.block _ (row_lt R2.out)).trans R2.out)
    replace HV := Lib.hid (HV.out.keep hv)
    replace HB := Lib.hid (HB.out.trans (hv.mono HB.out.size))
    replace HSV := Lib.hid (HSV.out.trans (hv.mono HSV.out.size))
    replace HSN := Lib.hid (HSN.out.trans (hv.mono HSN.out.size))
    replace SZ := Nat.le_trans SZ hv.size
    clear hv
    generalize (v1.alloc (.cells #[] 5)) = x1 at *
    refine Tin.reg_two 7 9 _ _ rfl rfl (by kernel_rfl) ?_ ?_
    · try simp only [List.getElem_toArray, List.getElem_cons_succ, List.getElem_cons_zero]
      refine Tin.wpl_app bt5 _ rfl (.tmp 25) (.tmp 27) rfl (v1.heap.size) (.slice (some ⟨v1.heap.size, 0, none⟩) 0 0) [] rfl E1.out A l.length c l rfl HV.out rfl (by simp; omega) (by simp; omega) HSN.out.size ?_
      intro x1 x2 ho hg hw
      rw [List.nil_append] at ho
      obtain ⟨A5, c5, rfl⟩ := own_form ho
      go_wp2_with fail
      have hb := (Below.refl v1.heap.size x1).grown hg HSN.out.size (fun q hq => (World.ownsRow.lt E1.out q hq).1)
      refine ⟨v0.heap.size, hb.mono hgl, Nat.le_refl _, ?_⟩
      have HO5 := Lib.hid ho
      replace SZ := Nat.le_trans SZ hg.size
      clear hw
      replace HSN := Lib.hid (HSN.out.trans hb)
      replace R2 := Lib.hid ((HSN.out.block _ (row_lt HSN_R2.out)).trans HSN_R2.out)
      replace HV := Lib.hid (HSN_HV.out.keep HSN.out)
      replace HB := Lib.hid (HB.out.trans (hb.mono HSN_le_HB))
      replace HSV := Lib.hid (HSV.out.trans (hb.mono HSN_le_HSV))
      have hc5 : l.length ≤ c5 := by obtain ⟨_, _, he, _, h2, _⟩ := HO5.out.sl; injection he with _ _ e3; subst e3; exact h2
      clear hb hg ho
      refine Tin.reg_quiets [8] _ 2 rfl (by simp only [Tin.pick, List.map_cons, List.map_nil, Array.getD_eq_getD_getElem?, List.getElem?_toArray, List.getElem?_cons_zero, List.getElem?_cons_succ, Option.getD_some]; rfl) (by kernel_rfl) (by kernel_rfl) ?_
      repeat (first | go_big_quiet_step (fail))
      refine wpQuiet_nil ?_
      refine Tin.reg_one 9 _ rfl (by kernel_rfl) ?_
      try simp only [List.getElem_toArray, List.getElem_cons_succ, List.getElem_cons_zero]
      go_wp2_with fail
      refine ⟨v0.heap.size, (ba (brefl x2) (.cells (rsrow 0 0 none 0 0) 44)).mono SZ, Nat.le_refl _, ?_⟩
      refine Tin.reg_one 10 _ rfl (by kernel_rfl) ?_
      try simp only [List.getElem_toArray, List.getElem_cons_succ, List.getElem_cons_zero]
      go_wp2_with fail
      have hv := ba (brefl x2) (.cells (rsrow W H A5 l.length c5) 44)
      refine ⟨v0.heap.size, ⟨rfl, rfl, rfl, by simp, fun i hi => (heap_alloc_old x2 _ (Nat.lt_of_lt_of_le hi SZ)).trans (heap_alloc_old x2 _ (Nat.lt_of_lt_of_le hi SZ)).symm⟩, Nat.le_refl _, ?_⟩
      have R5 := heap_alloc_new x2 (.cells (rsrow W H A5 l.length c5) 44)
      replace R2 := Lib.hid ((hv.block _ (row_lt R2.out)).trans R2.out)
      replace HV := Lib.hid (HV.out.keep hv)
      replace HO5 := Lib.hid (HO5.out.keep hv)
      replace HB := Lib.hid (HB.out.trans (hv.mono HB.out.size))
      replace HSV := Lib.hid (HSV.out.trans (hv.mono HSV.out.size))
      replace HSN := Lib.hid (HSN.out.trans (hv.mono HSN.out.size))
      refine Tin.reg_done (by kernel_rfl) ?_
      exact tail _ _ A5 c5 R5 HO5.out.sl'.2 hc5 R2.out HV.out HB.out _ _ _ _ _ _ _ _ _ _ _ _ _ _ _ _ _ _ _ _ _ _ _ _ _ _ _ _ _ _ _ _ _ _ _ _ _ _ _ _ _ _ _ _ _ _ _ _ _ _ _ _ _ _ _ _ _ _ _ _ _ _ _ _ _ _ _ _ _ _ _ _ _ _ _ _ _ _ _ _ _ _ _ _ _ _ _ _ _ _ _ _ _ _ _ _ _ _ _ _ _ _ _ _ _ _ _ _ _ _ _ _ _ _ _ _ _ _ _ _ _ _ _ _ _ _ _ _ _ _ _ _ _ _ _ _ _ _ _ _ _ _ _ _ _ _ _ _ _ _ _ _ _ _
    · try simp only [List.getElem_toArray, List.getElem_cons_succ, List.getElem_cons_zero]
      go_wp2_with fail
      have hg5lo : v1.heap.size ≤ x1.heap.size := HSV.out.size
      have hv := ba (brefl x1) (.cells (rsrow 0 0 none 0 0) 44)
      have r5 := heap_alloc_new x1 (.cells (rsrow 0 0 none 0 0) 44)
      refine ⟨v0.heap.size, hv.mono SZ, Nat.le_refl _, ?_⟩
      replace R2 := Lib.hid ((hv.block _ (row_lt R2.out)).trans R2.out)
      replace HV := Lib.hid (HV.out.keep hv)
      replace E1 := Lib.hid (E1.out.keep hv)
      replace HB := Lib.hid (HB.out.trans (hv.mono HB.out.size))
      replace HSV := Lib.hid (HSV.out.trans (hv.mono HSV.out.size))
      replace HSN := Lib.hid (HSN.out.trans (hv.mono HSN.out.size))
      replace SZ := Nat.le_trans SZ hv.size
      have R5 := Lib.hid r5
      clear r5 hv
      generalize (x1.alloc (.cells (rsrow 0 0 none 0 0) 44)) = x2 at *
      refine Tin.reg_one 7 _ rfl (by kernel_rfl) ?_
      try simp only [List.getElem_toArray, List.getElem_cons_succ, List.getElem_cons_zero]
      refine Tin.wpl_app bt5 _ rfl (.tmp 25) (.tmp 27) rfl (v1.heap.size) (.slice (some ⟨v1.heap.size, 0, none⟩) 0 0) [] rfl E1.out A l.length c l rfl HV.out rfl (by simp; omega) (by simp; omega) HSN.out.size ?_
      intro x1 x3 ho hg hw
      rw [List.nil_append] at ho
      obtain ⟨A5, c5, rfl⟩ := own_form ho
      go_wp2_with fail
      have hgz : v1.heap.size ≤ x2.heap.size := HSN.out.size
      have hb := (Below.refl v1.heap.size x2).grown hg hgz (fun q hq => (World.ownsRow.lt E1.out q hq).1)
      refine ⟨v0.heap.size, hb.mono (by have := hgl; have := HSN.out.size; omega), Nat.le_refl _, ?_⟩
      have HO5 := Lib.hid ho
      replace SZ := Nat.le_trans SZ hg.size
      have R5n := Lib.hid ((hg.block _ (row_lt R5.out) (fun e => own_row_apart E1.out R5.out (by decide) e.symm)).trans R5.out)
      have hne5 : (Value.slice A5 l.length c5).ownBlock ≠ some (x1.heap.size) := own_row_apart ho R5n.out (by decide)
      clear hw E1 R5
      replace HSN := Lib.hid (HSN.out.trans hb)
      replace R2 := Lib.hid ((HSN.out.block _ (row_lt HSN_R2.out)).trans HSN_R2.out)
      replace HV := Lib.hid (HSN_HV.out.keep HSN.out)
      replace HB := Lib.hid (HB.out.trans (hb.mono HSN_le_HB))
      replace HSV := Lib.hid (HSV.out.trans (hb.mono HSN_le_HSV))
      have hc5 : l.length ≤ c5 := by obtain ⟨_, _, he, _, h2, _⟩ := HO5.out.sl; injection he with _ _ e3; subst e3; exact h2
      clear hb hg ho hgz
      refine Tin.reg_quiets [8] _ 1 rfl (by simp only [Tin.pick, List.map_cons, List.map_nil, Array.getD_eq_getD_getElem?, List.getElem?_toArray, List.getElem?_cons_zero, List.getElem?_cons_succ, Option.getD_some]; rfl) (by kernel_rfl) (by kernel_rfl) ?_
      repeat (first | go_big_quiet_step (fail))
      refine wpQuiet_nil ?_
      refine Tin.reg_one 10 _ rfl (by kernel_rfl) ?_
      try simp only [List.getElem_toArray, List.getElem_cons_succ, List.getElem_cons_zero]
      go_wp2_with ((with_reducible refine wpl_store_row rtR ?_ (.tmp 5) (.tmp 29) ?_ (x1.heap.size) ?_ (rsrow W H A5 l.length c5) ?_ (rs_one _ _ _ _ _) 44 ?_ (rsrow 0 0 none 0 0) ?_ R5n.out ?_); rfl; rfl; rfl; rfl; rfl; rfl; intro x4 hr5 hg5 hs5)
      have hq5 : v1.heap.size ≤ x1.heap.size := hg5lo
      have hb := (Below.refl v1.heap.size x3).grown hg5 (by have := row_lt R5n.out; omega) (fun k hk => by cases hk; exact hq5)
      refine ⟨v0.heap.size, hb.mono (by have := hgl; omega), Nat.le_refl _, ?_⟩
      have HO6 := HO5.out.kept hg5 (.inr (fun e => hne5 e))
      refine Tin.reg_done (by kernel_rfl) ?_
      exact tail _ (x1.heap.size) A5 c5 hr5 HO6.sl'.2 hc5 ((hg5.block _ (row_lt R2.out) (fun e => by have e' : w.heap.size = x1.heap.size := (Option.some.inj e); have := hlw; omega)).trans R2.out) (HVK _ (HSV.out.trans hb)) (HB.out.grown hg5 HB.out.size (fun k hk => by cases hk; have := hlw; omega)) _ _ _ _ _ _ _ _ _ _ _ _ _ _ _ _ _ _ _ _ _ _ _ _ _ _ _ _ _ _ _ _ _ _ _ _ _ _ _ _ _ _ _ _ _ _ _ _ _ _ _ _ _ _ _ _ _ _ _ _ _ _ _ _ _ _ _ _ _ _ _ _ _ _ _ _ _ _ _ _ _ _ _ _ _ _ _ _ _ _ _ _ _ _ _ _ _ _ _ _ _ _ _ _ _ _ _ _ _ _ _ _ _ _ _ _ _ _ _ _ _ _ _ _ _ _ _ _ _ _ _ _ _ _ _ _ _ _ _ _ _ _ _ _ _ _ _ _ _ _ _ _ _ _
  · have HSN := Lib.hid (brefl v1)
    have HSN_R2 := R2
    have HSN_HV := HV
    have HSN_le_HB := HB.out.size
    have HSN_le_HSV := HSV.out.size
    have hgl : v0.heap.size ≤ v1.heap.size := SZ
    try simp only [List.getElem_toArray, List.getElem_cons_succ, List.getElem_cons_zero]
    go_wp2_with fail
    have hg5lo : v1.heap.size ≤ v1.heap.size := HSV.out.size
    have hv := ba (brefl v1) (.cells (rsrow 0 0 none 0 0) 44)
    have r5 := heap_alloc_new v1 (.cells (rsrow 0 0 none 0 0) 44)
    refine ⟨v0.heap.size, hv.mono SZ, Nat.le_refl _, ?_⟩
    replace R2 := Lib.hid ((hv.block _ (row_lt R2.out)).trans R2.out)
    replace HV := Lib.hid (HV.out.keep hv)
    replace HB := Lib.hid (HB.out.trans (hv.mono HB.out.size))
    replace HSV := Lib.hid (HSV.out.trans (hv.mono HSV.out.size))
    replace HSN := Lib.hid (HSN.out.trans (hv.mono HSN.out.size))
    replace SZ := Nat.le_trans SZ hv.size
    have R5 := Lib.hid r5
    clear r5 hv
    generalize (v1.alloc (.cells (rsrow 0 0 none 0 0) 44)) = x1 at *
    have HSN2 := Lib.hid (brefl x1)
    have HSN2_R2 := R2
    have HSN2_HV := HV
    have HSN2_R5 := R5
    have HSN2_le_HB := HB.out.size
    have HSN2_le_HSV := HSV.out.size
    have HSN2_le_HSN := HSN.out.size
    refine Tin.reg_one 4 _ rfl (by kernel_rfl) ?_
    try simp only [List.getElem_toArray, List.getElem_cons_succ, List.getElem_cons_zero]
    go_wp2_with fail
    have hv := ba (brefl x1) (.cells #[] 5)
    refine ⟨v0.heap.size, hv.mono SZ, Nat.le_refl _, ?_⟩
    have E1 := Lib.hid (show Own .u8 5 (x1.alloc (.cells #[] 5)) x1.heap.size (.slice (some ⟨x1.heap.size, 0, none⟩) 0 0) [] from Own.new0 x1)
    replace R2 := Lib.hid ((hv.block _ (row_lt R2.out)).trans R2.out)
    replace HV := Lib.hid (HV.out.keep hv)
    replace R5 := Lib.hid ((hv.block _ (row_lt R5.out)).trans R5.out)
    replace HB := Lib.hid (HB.out.trans (hv.mono HB.out.size))
    replace HSV := Lib.hid (HSV.out.trans (hv.mono HSV.out.size))
    replace HSN := Lib.hid (HSN.out.trans (hv.mono HSN.out.size))
    replace HSN2 := Lib.hid (HSN2.out.trans (hv.mono HSN2.out.size))
    replace SZ := Nat.le_trans SZ hv.size
    clear hv
    generalize (x1.alloc (.cells #[] 5)) = x2 at *
    refine Tin.reg_one 7 _ rfl (by kernel_rfl) ?_
    try simp only [List.getElem_toArray, List.getElem_cons_succ, List.getElem_cons_zero]
    refine Tin.wpl_app bt5 _ rfl (.tmp 25) (.tmp 27) rfl (x1.heap.size) (.slice (some ⟨x1.heap.size, 0, none⟩) 0 0) [] rfl E1.out A l.length c l rfl HV.out rfl (by simp; omega) (by simp; omega) HSN2.out.size ?_
    intro x1 x3 ho hg hw
    rw [List.nil_append] at ho
    obtain ⟨A5, c5, rfl⟩ := own_form ho
    go_wp2_with fail
    have hgz : x1.heap.size ≤ x2.heap.size := HSN2.out.size
    have hb := (Below.refl x1.heap.size x2).grown hg hgz (fun q hq => (World.ownsRow.lt E1.out q hq).1)
    refine ⟨v0.heap.size, hb.mono (by have := hgl; have := HSN.out.size; omega), Nat.le_refl _, ?_⟩
    have HO5 := Lib.hid ho
    replace SZ := Nat.le_trans SZ hg.size
    have R5n := Lib.hid ((hg.block _ (row_lt R5.out) (fun e => own_row_apart E1.out R5.out (by decide) e.symm)).trans R5.out)
    have hne5 : (Value.slice A5 l.length c5).ownBlock ≠ some (v1.heap.size) := own_row_apart ho R5n.out (by decide)
    clear hw E1 R5
    replace HSN2 := Lib.hid (HSN2.out.trans hb)
    replace R2 := Lib.hid ((HSN2.out.block _ (row_lt HSN2_R2.out)).trans HSN2_R2.out)
    replace HV := Lib.hid (HSN2_HV.out.keep HSN2.out)
    replace R5 := Lib.hid ((HSN2.out.block _ (row_lt HSN2_R5.out)).trans HSN2_R5.out)
    replace HB := Lib.hid (HB.out.trans (hb.mono HSN2_le_HB))
    replace HSV := Lib.hid (HSV.out.trans (hb.mono HSN2_le_HSV))
    replace HSN := Lib.hid (HSN.out.trans (hb.mono HSN2_le_HSN))
    have hc5 : l.length ≤ c5 := by obtain ⟨_, _, he, _, h2, _⟩ := HO5.out.sl; injection he with _ _ e3; subst e3; exact h2
    clear hb hg ho hgz
    refine Tin.reg_quiets [8] _ 1 rfl (by simp only [Tin.pick, List.map_cons, List.map_nil, Array.getD_eq_getD_getElem?, List.getElem?_toArray, List.getElem?_cons_zero, List.getElem?_cons_succ, Option.getD_some]; rfl) (by kernel_rfl) (by kernel_rfl) ?_
    repeat (first | go_big_quiet_step (fail))
    refine wpQuiet_nil ?_
    refine Tin.reg_one 10 _ rfl (by kernel_rfl) ?_
    try simp only [List.getElem_toArray, List.getElem_cons_succ, List.getElem_cons_zero]
    go_wp2_with ((with_reducible refine wpl_store_row rtR ?_ (.tmp 5) (.tmp 29) ?_ (v1.heap.size) ?_ (rsrow W H A5 l.length c5) ?_ (rs_one _ _ _ _ _) 44 ?_ (rsrow 0 0 none 0 0) ?_ R5n.out ?_); rfl; rfl; rfl; rfl; rfl; rfl; intro x4 hr5 hg5 hs5)
    have hq5 : v1.heap.size ≤ v1.heap.size := hg5lo
    have hb := (Below.refl v1.heap.size x3).grown hg5 (by have := row_lt R5n.out; omega) (fun k hk => by cases hk; exact hq5)
    refine ⟨v0.heap.size, hb.mono (by have := hgl; omega), Nat.le_refl _, ?_⟩
    have HO6 := HO5.out.kept hg5 (.inr (fun e => hne5 e))
    refine Tin.reg_done (by kernel_rfl) ?_
    exact tail _ (v1.heap.size) A5 c5 hr5 HO6.sl'.2 hc5 ((hg5.block _ (row_lt R2.out) (fun e => by have e' : w.heap.size = v1.heap.size := (Option.some.inj e); have := hlw; omega)).trans R2.out) (HVK _ (HSV.out.trans hb)) (HB.out.grown hg5 HB.out.size (fun k hk => by cases hk; have := hlw; omega)) _ _ _ _ _ _ _ _ _ _ _ _ _ _ _ _ _ _ _ _ _ _ _ _ _ _ _ _ _ _ _ _ _ _ _ _ _ _ _ _ _ _ _ _ _ _ _ _ _ _ _ _ _ _ _ _ _ _ _ _ _ _ _ _ _ _ _ _ _ _ _ _ _ _ _ _ _ _ _ _ _ _ _ _ _ _ _ _ _ _ _ _ _ _ _ _ _ _ _ _ _ _ _ _ _ _ _ _ _ _ _ _ _ _ _ _ _ _ _ _ _ _ _ _ _ _ _ _ _ _ _ _ _ _ _ _ _ _ _ _ _ _ _ _ _ _ _ _ _ _ _ _ _ _
end Go.Proofs.Ytajobboldjgidaa
