/- SampleBlocks: the walk. -/
import Derived.Test.YtajobboldjgidaaSmL
namespace Go.Proofs.Ytajobboldjgidaa
open Go.RowKit
open Go.Tin
set_option linter.unusedVariables false
set_option linter.unusedSimpArgs false


/-- A plane in a slice of its own. -/
def OwP (w : World) (b off : Nat) (W H : Int) (v : List Int) (A : Option Addr) (c : Nat) : Prop := b < w.heap.size ∧ w.rangeAt b off [.int .i64 W, .int .i64 H, .slice A v.length c] ∧ Sl .i64 w A v
theorem OwP.keep {w w' : World} {b off : Nat} {W H : Int} {v : List Int} {A : Option Addr} {c : Nat} (h : OwP w b off W H v A c) (hb : Below w.heap.size w w') : OwP w' b off W H v A c :=
  ⟨Nat.lt_of_lt_of_le h.1 hb.size, fun j x hj => by rw [hb.cell (p := ⟨b, off + j, none⟩) h.1]; exact h.2.1 j x hj, h.2.2.keep hb⟩
theorem PlS.one {w : World} {A : Option Addr} {W H : Int} {v : List Int} (h : PlS w A [⟨W, H, v⟩]) : ∃ b off A1 c1, A = some ⟨b, off, none⟩ ∧ OwP w b off W H v A1 c1 := by
  obtain ⟨b, off, rfl, hb, hc⟩ := h.at_ (by simp)
  obtain ⟨x, y, d, A1, c1, hx, _, _, _, hr, hp⟩ := hc 0 (by simp)
  have e := Option.some.inj hx
  injection e with e1 e2 e3
  subst e1; subst e2; subst e3
  rw [Nat.zero_mul, Nat.add_zero] at hr
  exact ⟨b, off, A1, c1, rfl, hb, hr, hp.sl.2.1⟩
theorem flat_blk (w : World) : FlatSh w .i64 64 (.arr 64 1 (.int .i64)) := by
  intro cs hcs hf j hj
  obtain ⟨n, hn, wn⟩ := hf j hj
  refine ⟨n, ?_, wn⟩
  rw [Nat.mul_one, List.drop_eq_getElem_cons (by omega), List.take_succ_cons, List.take_zero] at hn
  rw [List.getElem?_eq_getElem (by omega)]
  have : cs[j] = .int .i64 n := by simpa using hn
  rw [this]
theorem iv_one (zs : List Int) : ∀ u ∈ iv zs, u.oneCell' = true := by
  intro u hu
  obtain ⟨z, _, rfl⟩ := List.mem_map.1 hu
  rfl
theorem blocks_any (W H a d : Int) (A : Option Addr) (c : Nat) (v : List Int) (w : World) (hs : Sl .i64 w A v) (hn : v.length ≤ 1000000000) :
    Calls Try.prog 10 #[plA W H A v.length c, .int .i64 a, .int .i64 d] w fun e w' => ∃ A' n' c' zs er, e = .returned (.tuple #[.slice A' n' c', .int .i64 er]) ∧ SlV w' A' (iv zs) ∧ zs.length = n' * 64 ∧
      (okBl W H v a d = true → er = 0 ∧ n' = a.toNat * d.toNat ∧ zs = blF (blkV W H v a.toNat) (a.toNat * d.toNat)) ∧ (okBl W H v a d = false → er = 1 ∧ n' = 0) ∧ Below w.heap.size w w' := by
  cases hk : okBl W H v a d with
  | false =>
    refine (blocks_no W H a d A c v w hs hn hk).mono ?_
    rintro e w' ⟨rfl, hb⟩
    exact ⟨none, 0, 0, [], 1, rfl, .inl rfl, rfl, fun h => absurd h (by decide), fun _ => ⟨rfl, rfl⟩, hb⟩
  | true =>
    have hk2 := hk
    unfold okBl at hk2
    simp only [Bool.and_eq_true, decide_eq_true_eq] at hk2
    obtain ⟨hm, ⟨ha, hd⟩, hw, hh⟩ := hk2
    have ha := okF_t ha
    have hd := okF_t hd
    obtain ⟨a', rfl⟩ : ∃ a' : Nat, a = a' := ⟨a.toNat, by omega⟩
    obtain ⟨d', rfl⟩ : ∃ d' : Nat, d = d' := ⟨d.toNat, by omega⟩
    refine (blocks_yes W H a' d' A c v w hs hn hm (by omega) (by omega) hw hh).mono ?_
    rintro e w' ⟨A', c', rfl, ho, hb⟩
    exact ⟨A', _, c', _, 0, rfl, ho.sl'.2.1, by have := ho.len; simpa using this, fun _ => ⟨rfl, rfl, rfl⟩, fun h => absurd h (by decide), hb⟩
theorem join_any (zs : List Int) (W H a : Int) (m : Nat) (A : Option Addr) (c : Nat) (w : World) (hs : SlV w A (iv zs)) (hz : zs.length = m * 64) (hm : m ≤ 1000000) :
    Calls Try.prog 11 #[.slice A m c, .int .i64 a, .int .i64 W, .int .i64 H] w fun e w' => ∃ X Y A' c' l er, e = .returned (.tuple #[plA X Y A' l.length c', .int .i64 er]) ∧ Sl .i64 w' A' l ∧ l.length ≤ 1000000000 ∧
      (okJn m a W H = true → er = 0 ∧ X = W ∧ Y = H ∧ l = grid (joinV zs a.toNat) W.toNat H.toNat) ∧ (okJn m a W H = false → er = 1 ∧ X = 0 ∧ Y = 0 ∧ l = []) ∧ Below w.heap.size w w' := by
  cases hk : okJn m a W H with
  | false =>
    refine (join_no W H a m A c w hm hk).mono ?_
    rintro e w' ⟨rfl, hb⟩
    exact ⟨0, 0, none, 0, [], 1, rfl, .inl rfl, by simp, fun h => absurd h (by decide), fun _ => ⟨rfl, rfl, rfl, rfl⟩, hb⟩
  | true =>
    have hk2 := hk
    unfold okJn at hk2
    simp only [Bool.and_eq_true, decide_eq_true_eq] at hk2
    obtain ⟨⟨hw, hh⟩, ha, h1, h2, h3⟩ := hk2
    have ha := okF_t ha
    have hw := okS_t hw
    have hh := okS_t hh
    obtain ⟨a', rfl⟩ : ∃ a' : Nat, a = a' := ⟨a.toNat, by omega⟩
    obtain ⟨wd, rfl⟩ : ∃ a' : Nat, W = a' := ⟨W.toNat, by omega⟩
    obtain ⟨ht, rfl⟩ : ∃ a' : Nat, H = a' := ⟨H.toNat, by omega⟩
    rw [← Int.natCast_emod] at h2
    rw [← Int.natCast_ediv] at h3
    refine (join_yes zs wd ht a' m A c w hs hz hm (by omega) (by omega) (by omega) (by omega) (by omega) (by omega)).mono ?_
    rintro e w' ⟨A', c', rfl, ho, hb⟩
    have hl : (grid (joinV zs a') wd ht).length = wd * ht := grid_len _ _ _
    have hle : wd * ht ≤ 4096 * 4096 := Nat.mul_le_mul (by omega) (by omega)
    exact ⟨_, _, A', c', grid (joinV zs a') wd ht, 0, by rw [hl], ho.sl'.2, by omega, fun _ => ⟨rfl, rfl, rfl, rfl⟩, fun h => absurd h (by decide), hb⟩
set_option maxRecDepth 100000 in
set_option maxHeartbeats 16000000 in
theorem sblocks_any (W H : Int) (A : Option Addr) (len c : Nat) (z0 : List Int) (a d : Int) (A3 : Option Addr) (m c3 : Nat) (wd ht : Int) (w : World) (wW : (Lit.int .i64 W).wf = true) (wH : (Lit.int .i64 H).wf = true) (hr : IsRow .i64 w A len c z0) (wa : (Lit.int .i64 a).wf = true) (wdd : (Lit.int .i64 d).wf = true)
    (ft : Fits w (.slice 64 (.arr 64 1 (.int .i64))) [.slice A3 m c3]) (wwd : (Lit.int .i64 wd).wf = true) (wht : (Lit.int .i64 ht).wf = true) :
    Calls Try.prog 3 #[.agg #[.int .i64 W, .int .i64 H, .slice A len c], .int .i64 a, .int .i64 d, .slice A3 m c3, .int .i64 wd, .int .i64 ht] w fun e w' => e = .returned (.bool true) ∧ Below w.heap.size w w' := by
  obtain ⟨hs, hlen, hlc, hcm, hwf⟩ := Sl.of_row hr
  generalize z0.take len = v at *
  subst hlen
  clear hwf hr
  obtain ⟨zs, hfs, hzl, hmc, hcm3, hwz, _⟩ := flat_of_fits (flat_blk w) ft
  have hsv : SlV w A3 (iv zs) := SlV.ofSl hfs
  clear ft hfs hwz
  unfold maxLen at hcm hcm3
  have a64 := wf64 wa
  have d64 := wf64 wdd
  have w64 := wf64 wwd
  have h64 := wf64 wht
  clear wa wdd wwd wht wW wH
  obtain ⟨r0, hb0, hz0⟩ := alloc1 w (.cells (plrow W H A v.length c) 24)
  have HV := Lib.hid (hs.keep hb0)
  have HL := Lib.hid (hsv.keep hb0)
  have HZL := Lib.hid hzl
  have R6 := Lib.hid r0
  have HB := Lib.hid hb0
  clear hs hsv hzl r0 hb0 hz0
  go_enter Try.func3, Try.ntmps3
  refine wp_seq_k fun K0 hK0 => ?_
  have HK0 := Lib.hid hK0
  clear hK0
  go_wp2_with fail
  refine HK0.out _ _ ?_
  clear HK0
  refine wp_seq_k fun K1 hK1 => ?_
  have HK1 := Lib.hid hK1
  clear hK1
  generalize (w.alloc (.cells (plrow W H A v.length c) 24)) = v0 at *
  have tail1 : v.length ≤ 1500 → m ≤ 40 → (a ≤ 8 ∨ 512 < a) → (d ≤ 8 ∨ 512 < d) → (wd ≤ 64 ∨ 4096 < wd) → (ht ≤ 64 ∨ 4096 < ht) → ∀ (u7 u8 u9 u10 u11 u12 u13 u14 u15 u16 u17 u18 u19 u20 u21 u22 u23 u24 u25 u26 u27 u28 u29 u30 u31 u32 u33 u34 u35 u36 u37 u38 u39 u40 u41 u42 u43 u44 u45 u46 u47 u48 u49 u50 u51 u52 u53 u54 u55 u56 u57 u58 u59 u60 u61 u62 u63 u64 u65 u66 u67 u68 u69 u70 u71 u72 u73 u74 u75 u76 u77 u78 u79 u80 u81 u82 u83 u84 u85 u86 u87 u88 u89 u90 u91 u92 u93 u94 u95 u96 u97 u98 u99 u100 u101 u102 u103 u104 u105 u106 u107 u108 u109 u110 u111 u112 u113 u114 u115 u116 u117 u118 u119 u120 u121 u122 u123 u124 u125 u126 u127 u128 u129 u130 u131 u132 u133 u134 u135 u136 u137 u138 u139 u140 u141 u142 u143 u144 u145 u146 u147 u148 u149 u150 u151 u152 u153 u154 u155 u156 u157 u158 u159 u160 u161 u162 u163 u164 u165 u166 u167 u168 u169 u170 u171 u172 u173 u174 u175 u176 u177 u178 u179 u180 u181 u182 u183 u184 u185 u186 u187 u188 u189 u190 u191 u192 u193 u194 u195 u196 u197 u198 u199 : Value), K1 { tmps := #[plA W H A v.length c, .int .i64 a, .int .i64 d, .slice A3 m c3, .int .i64 wd, .int .i64 ht, .pointer (some ⟨w.heap.size, 0, none⟩), u7, u8, u9, u10, u11, u12, u13, u14, u15, u16, u17, u18, u19, u20, u21, u22, u23, u24, u25, u26, u27, u28, u29, u30, u31, u32, u33, u34, u35, u36, u37, u38, u39, u40, u41, u42, u43, u44, u45, u46, u47, u48, u49, u50, u51, u52, u53, u54, u55, u56, u57, u58, u59, u60, u61, u62, u63, u64, u65, u66, u67, u68, u69, u70, u71, u72, u73, u74, u75, u76, u77, u78, u79, u80, u81, u82, u83, u84, u85, u86, u87, u88, u89, u90, u91, u92, u93, u94, u95, u96, u97, u98, u99, u100, u101, u102, u103, u104, u105, u106, u107, u108, u109, u110, u111, u112, u113, u114, u115, u116, u117, u118, u119, u120, u121, u122, u123, u124, u125, u126, u127, u128, u129, u130, u131, u132, u133, u134, u135, u136, u137, u138, u139, u140, u141, u142, u143, u144, u145, u146, u147, u148, u149, u150, u151, u152, u153, u154, u155, u156, u157, u158, u159, u160, u161, u162, u163, u164, u165, u166, u167, u168, u169, u170, u171, u172, u173, u174, u175, u176, u177, u178, u179, u180, u181, u182, u183, u184, u185, u186, u187, u188, u189, u190, u191, u192, u193, u194, u195, u196, u197, u198, u199], defers := [] } v0 := by
    intro hv15 hm40 ha8 hd8 hw8 hh8 u7 u8 u9 u10 u11 u12 u13 u14 u15 u16 u17 u18 u19 u20 u21 u22 u23 u24 u25 u26 u27 u28 u29 u30 u31 u32 u33 u34 u35 u36 u37 u38 u39 u40 u41 u42 u43 u44 u45 u46 u47 u48 u49 u50 u51 u52 u53 u54 u55 u56 u57 u58 u59 u60 u61 u62 u63 u64 u65 u66 u67 u68 u69 u70 u71 u72 u73 u74 u75 u76 u77 u78 u79 u80 u81 u82 u83 u84 u85 u86 u87 u88 u89 u90 u91 u92 u93 u94 u95 u96 u97 u98 u99 u100 u101 u102 u103 u104 u105 u106 u107 u108 u109 u110 u111 u112 u113 u114 u115 u116 u117 u118 u119 u120 u121 u122 u123 u124 u125 u126 u127 u128 u129 u130 u131 u132 u133 u134 u135 u136 u137 u138 u139 u140 u141 u142 u143 u144 u145 u146 u147 u148 u149 u150 u151 u152 u153 u154 u155 u156 u157 u158 u159 u160 u161 u162 u163 u164 u165 u166 u167 u168 u169 u170 u171 u172 u173 u174 u175 u176 u177 u178 u179 u180 u181 u182 u183 u184 u185 u186 u187 u188 u189 u190 u191 u192 u193 u194 u195 u196 u197 u198 u199
    refine HK1.out _ _ ?_
    clear HK1
    refine wp_seq_k fun K3 hK3 => ?_
    have HK3 := Lib.hid hK3
    clear hK3
    go_wp2_with ((with_reducible refine wpl_load_row rtP ?_ (.tmp 6) ?_ (w.heap.size) ?_ 24 (plrow W H A v.length c) ?_ R6.out ?_); rfl; rfl; rfl; rfl; simp only [Act.put, List.setIfInBounds_toArray, List.set_cons_succ, List.set_cons_zero])
    have hb := (ba (brefl v0) (.cells #[.int .i64 W, .int .i64 H, .slice A v.length c] 24))
    have HP0 : PlS (v0.alloc (.cells #[.int .i64 W, .int .i64 H, .slice A v.length c] 24)) (some ⟨v0.heap.size, 0, none⟩) [⟨W, H, v⟩] := ⟨_, SlV.new_ v0 _ _, PnV.one ⟨A, c, rfl, HV.out.keep (ba (brefl v0) _), hlc, by omega⟩⟩
    replace R6 := Lib.hid ((hb.block _ (row_lt R6.out)).trans R6.out)
    replace HV := Lib.hid (HV.out.keep hb)
    replace HL := Lib.hid (HL.out.keep hb)
    replace HB := Lib.hid (HB.out.trans (hb.mono HB.out.size))
    clear hb
    replace HP0 := Lib.hid HP0
    generalize (v0.alloc (.cells #[.int .i64 W, .int .i64 H, .slice A v.length c] 24)) = x1 at *
    refine (ownP_any _ 1 [⟨W, H, v⟩] _ HP0.out (by simp)).mono ?_
    rintro e x2 ⟨A13, c13, xs13, rfl, hx2_0, hx2_1, hb⟩
    replace R6 := Lib.hid ((hb.block _ (row_lt R6.out)).trans R6.out)
    replace HV := Lib.hid (HV.out.keep hb)
    replace HL := Lib.hid (HL.out.keep hb)
    replace HP0 := Lib.hid (HP0.out.keep hb)
    replace HB := Lib.hid (HB.out.trans (hb.mono HB.out.size))
    have HO13 := Lib.hid hx2_0
    have HN13 := Lib.hid hx2_1
    clear hx2_0 hx2_1 hb
    have hps := PlS.own HO13.out HN13.out (by intro p hp; simp at hp; subst hp; show v.length ≤ 1000000000; omega)
    obtain ⟨b13, o13, A1, c1, rfl, hop⟩ := hps.one
    have HOP := Lib.hid hop
    clear hop hps HO13 HN13 HP0
    go_wp2_with fail
    refine HK3.out _ _ ?_
    clear HK3
    refine wp_seq_k fun K4 hK4 => ?_
    have HK4 := Lib.hid hK4
    clear hK4
    have HN := Lib.hid (OwnV.new0 67 64 x2)
    go_wp2_with (at_builtin; refine Tin.wplv_app sv64 _ rfl (.tmp 65) (.tmp 66) rfl x2.heap.size _ 0 [] rfl HN.out A3 m c3 (iv zs) rfl (by rw [List.length_map]; exact HZL.out) (HL.out.keep (ba (brefl x2) _)) (iv_one zs) (by omega) (by omega) (by simp) ?_; intro A14 c14 x3 ho hg how; have HO14 := Lib.hid ho; have HG14 := Lib.hid hg; clear ho hg how)
    have hb : Below x2.heap.size x2 x3 := HN.out.grown (ba (brefl x2) _) (by simp) HG14.out
    replace R6 := Lib.hid ((hb.block _ (row_lt R6.out)).trans R6.out)
    replace HV := Lib.hid (HV.out.keep hb)
    replace HL := Lib.hid (HL.out.keep hb)
    replace HOP := Lib.hid (HOP.out.keep hb)
    replace HB := Lib.hid (HB.out.trans (hb.mono HB.out.size))
    have hmi := HO14.out
    rw [Nat.zero_add, List.nil_append] at hmi
    have HMI := Lib.hid hmi.sl'.2.1
    try simp only [Nat.zero_add]
    clear hb hmi HO14 HG14 HN
    refine HK4.out _ _ ?_
    clear HK4
    refine wp_seq_k fun K5 hK5 => ?_
    have HK5 := Lib.hid hK5
    clear hK5
    have HRG := Lib.hid (show x3.rangeAt b13 o13 [.int .i64 W, .int .i64 H, .slice A1 v.length c1] from HOP.out.2.1)
    go_wp2_with ((with_reducible refine wpl_loadv rtP ?_ (.tmp 70) ?_ b13 o13 ?_ [.int .i64 W, .int .i64 H, .slice A1 v.length c1] ?_ HRG.out ?_); rfl; rfl; rfl; rfl; simp only [Act.put, List.setIfInBounds_toArray, List.set_cons_succ, List.set_cons_zero])
    clear HRG
    refine (blocks_any W H a d A1 c1 v _ HOP.out.2.2 (by omega)).mono ?_
    rintro e x4 ⟨A15, n15, c15, zs15, er, rfl, hx4_0, hx4_1, hx4_2, hx4_3, hb⟩
    replace R6 := Lib.hid ((hb.block _ (row_lt R6.out)).trans R6.out)
    replace HV := Lib.hid (HV.out.keep hb)
    replace HL := Lib.hid (HL.out.keep hb)
    replace HOP := Lib.hid (HOP.out.keep hb)
    replace HMI := Lib.hid (HMI.out.keep hb)
    replace HB := Lib.hid (HB.out.trans (hb.mono HB.out.size))
    have HBK := Lib.hid hx4_0
    have HZ15 := Lib.hid hx4_1
    have HBY := Lib.hid hx4_2
    have HBN := Lib.hid hx4_3
    clear hx4_0 hx4_1 hx4_2 hx4_3 hb
    go_wp2_with fail
    refine HK5.out _ _ ?_
    clear HK5
    refine wp_seq_k fun K6 hK6 => ?_
    have HK6 := Lib.hid hK6
    clear hK6
    go_wp2_with fail
    refine (join_any zs wd ht a m A14 c14 _ HMI.out HZL.out (by omega)).mono ?_
    rintro e x5 ⟨jX, jY, A17, c17, jl, jr, rfl, hx5_0, hx5_1, hx5_2, hx5_3, hb⟩
    replace R6 := Lib.hid ((hb.block _ (row_lt R6.out)).trans R6.out)
    replace HV := Lib.hid (HV.out.keep hb)
    replace HL := Lib.hid (HL.out.keep hb)
    replace HOP := Lib.hid (HOP.out.keep hb)
    replace HMI := Lib.hid (HMI.out.keep hb)
    replace HBK := Lib.hid (HBK.out.keep hb)
    replace HB := Lib.hid (HB.out.trans (hb.mono HB.out.size))
    have HJQ := Lib.hid hx5_0
    have HJL := Lib.hid hx5_1
    have HJY := Lib.hid hx5_2
    have HJN := Lib.hid hx5_3
    clear hx5_0 hx5_1 hx5_2 hx5_3 hb
    go_wp2_with fail
    have hb := (ba (brefl x5) (.cells (plrow jX jY A17 jl.length c17) 24))
    have R17 := (alloc1 x5 (.cells (plrow jX jY A17 jl.length c17) 24)).1
    replace R6 := Lib.hid ((hb.block _ (row_lt R6.out)).trans R6.out)
    replace HV := Lib.hid (HV.out.keep hb)
    replace HL := Lib.hid (HL.out.keep hb)
    replace HOP := Lib.hid (HOP.out.keep hb)
    replace HMI := Lib.hid (HMI.out.keep hb)
    replace HBK := Lib.hid (HBK.out.keep hb)
    replace HJQ := Lib.hid (HJQ.out.keep hb)
    replace HB := Lib.hid (HB.out.trans (hb.mono HB.out.size))
    clear hb
    replace R17 := Lib.hid R17
    generalize (x5.alloc (.cells (plrow jX jY A17 jl.length c17) 24)) = x6 at *
    have HG := Lib.hid (show x5.heap.size = x5.heap.size from rfl)
    clear HG
    refine HK6.out _ _ ?_
    clear HK6
    refine wp_seq_k fun K7 hK7 => ?_
    have HK7 := Lib.hid hK7
    clear hK7
    have tail7 : ∀ (u7 u8 u9 u10 u11 u12 u20 u21 u22 u23 u24 u25 u26 u27 u28 u29 u30 u31 u32 u33 u34 u35 u36 u37 u38 u39 u40 u41 u42 u43 u44 u45 u46 u47 u48 u49 u50 u51 u52 u53 u54 u55 u56 u57 u58 u59 u60 u61 u62 u63 u64 u65 u66 u67 u68 u69 u70 u71 u72 u73 u74 u75 u76 u77 u78 u79 u80 u81 u82 u83 u84 u85 u86 u87 u88 u89 u90 u91 u92 u93 u94 u95 u96 u97 u98 u99 u100 u101 u102 u103 u104 u105 u106 u107 u108 u109 u110 u111 u112 u113 u114 u115 u116 u117 u118 u119 u120 u121 u122 u123 u124 u125 u126 u127 u128 u129 u130 u131 u132 u133 u134 u135 u136 u137 u138 u139 u140 u141 u142 u143 u144 u145 u146 u147 u148 u149 u150 u151 u152 u153 u154 u155 u156 u157 u158 u159 u160 u161 u162 u163 u164 u165 u166 u167 u168 u169 u170 u171 u172 u173 u174 u175 u176 u177 u178 u179 u180 u181 u182 u183 u184 u185 u186 u187 u188 u189 u190 u191 u192 u193 u194 u195 u196 u197 u198 u199 : Value), K7 { tmps := #[plA W H A v.length c, .int .i64 a, .int .i64 d, .slice A3 m c3, .int .i64 wd, .int .i64 ht, .pointer (some ⟨w.heap.size, 0, none⟩), u7, u8, u9, u10, u11, u12, .slice (some ⟨b13, o13, none⟩) 1 c13, .slice A14 m c14, .slice A15 n15 c15, .int .i64 er, .pointer (some ⟨x5.heap.size, 0, none⟩), .int .i64 jr, .bool (okF a), u20, u21, u22, u23, u24, u25, u26, u27, u28, u29, u30, u31, u32, u33, u34, u35, u36, u37, u38, u39, u40, u41, u42, u43, u44, u45, u46, u47, u48, u49, u50, u51, u52, u53, u54, u55, u56, u57, u58, u59, u60, u61, u62, u63, u64, u65, u66, u67, u68, u69, u70, u71, u72, u73, u74, u75, u76, u77, u78, u79, u80, u81, u82, u83, u84, u85, u86, u87, u88, u89, u90, u91, u92, u93, u94, u95, u96, u97, u98, u99, u100, u101, u102, u103, u104, u105, u106, u107, u108, u109, u110, u111, u112, u113, u114, u115, u116, u117, u118, u119, u120, u121, u122, u123, u124, u125, u126, u127, u128, u129, u130, u131, u132, u133, u134, u135, u136, u137, u138, u139, u140, u141, u142, u143, u144, u145, u146, u147, u148, u149, u150, u151, u152, u153, u154, u155, u156, u157, u158, u159, u160, u161, u162, u163, u164, u165, u166, u167, u168, u169, u170, u171, u172, u173, u174, u175, u176, u177, u178, u179, u180, u181, u182, u183, u184, u185, u186, u187, u188, u189, u190, u191, u192, u193, u194, u195, u196, u197, u198, u199], defers := [] } x6 := by
      intro u7 u8 u9 u10 u11 u12 u20 u21 u22 u23 u24 u25 u26 u27 u28 u29 u30 u31 u32 u33 u34 u35 u36 u37 u38 u39 u40 u41 u42 u43 u44 u45 u46 u47 u48 u49 u50 u51 u52 u53 u54 u55 u56 u57 u58 u59 u60 u61 u62 u63 u64 u65 u66 u67 u68 u69 u70 u71 u72 u73 u74 u75 u76 u77 u78 u79 u80 u81 u82 u83 u84 u85 u86 u87 u88 u89 u90 u91 u92 u93 u94 u95 u96 u97 u98 u99 u100 u101 u102 u103 u104 u105 u106 u107 u108 u109 u110 u111 u112 u113 u114 u115 u116 u117 u118 u119 u120 u121 u122 u123 u124 u125 u126 u127 u128 u129 u130 u131 u132 u133 u134 u135 u136 u137 u138 u139 u140 u141 u142 u143 u144 u145 u146 u147 u148 u149 u150 u151 u152 u153 u154 u155 u156 u157 u158 u159 u160 u161 u162 u163 u164 u165 u166 u167 u168 u169 u170 u171 u172 u173 u174 u175 u176 u177 u178 u179 u180 u181 u182 u183 u184 u185 u186 u187 u188 u189 u190 u191 u192 u193 u194 u195 u196 u197 u198 u199
      refine HK7.out _ _ ?_
      clear HK7
      have SN := Lib.hid (brefl x6)
      have SN_le_HB := HB.out.size
      refine wp_seq_k fun K8 hK8 => ?_
      have HK8 := Lib.hid hK8
      clear hK8
      have tail8 : ∀ X : World, Below x6.heap.size x6 X → ∀ (u7 u8 u9 u10 u11 u12 u15 u16 u20 u21 u22 u23 u24 u25 u26 u27 u28 u29 u30 u31 u32 u33 u34 u35 u36 u37 u38 u39 u40 u41 u42 u43 u44 u45 u46 u47 u48 u49 u50 u51 u52 u53 u54 u55 u56 u57 u58 u59 u60 u61 u62 u63 u64 u65 u66 u67 u68 u69 u70 u71 u72 u73 u74 u75 u76 u77 u78 u79 u80 u81 u82 u83 u84 u85 u86 u87 u88 u89 u90 u91 u92 u93 u94 u95 u96 u97 u98 u99 u100 u101 u102 u103 u104 u105 u106 u107 u108 u109 u110 u111 u112 u113 u114 u115 u116 u117 u118 u119 u120 u121 u122 u123 u124 u125 u126 u127 u128 u129 u130 u131 u132 u133 u134 u135 u136 u137 u138 u139 u140 u141 u142 u143 u144 u145 u146 u147 u148 u149 u150 u151 u152 u153 u154 u155 u156 u157 u158 u159 u160 u161 u162 u163 u164 u165 u166 u167 u168 u169 u170 u171 u172 u173 u174 u175 u176 u177 u178 u179 u180 u181 u182 u183 u184 u185 u186 u187 u188 u189 u190 u191 u192 u193 u194 u195 u196 u197 u198 u199 : Value), K8 { tmps := #[plA W H A v.length c, .int .i64 a, .int .i64 d, .slice A3 m c3, .int .i64 wd, .int .i64 ht, .pointer (some ⟨w.heap.size, 0, none⟩), u7, u8, u9, u10, u11, u12, .slice (some ⟨b13, o13, none⟩) 1 c13, .slice A14 m c14, u15, u16, .pointer (some ⟨x5.heap.size, 0, none⟩), .int .i64 jr, .bool (okF a), u20, u21, u22, u23, u24, u25, u26, u27, u28, u29, u30, u31, u32, u33, u34, u35, u36, u37, u38, u39, u40, u41, u42, u43, u44, u45, u46, u47, u48, u49, u50, u51, u52, u53, u54, u55, u56, u57, u58, u59, u60, u61, u62, u63, u64, u65, u66, u67, u68, u69, u70, u71, u72, u73, u74, u75, u76, u77, u78, u79, u80, u81, u82, u83, u84, u85, u86, u87, u88, u89, u90, u91, u92, u93, u94, u95, u96, u97, u98, u99, u100, u101, u102, u103, u104, u105, u106, u107, u108, u109, u110, u111, u112, u113, u114, u115, u116, u117, u118, u119, u120, u121, u122, u123, u124, u125, u126, u127, u128, u129, u130, u131, u132, u133, u134, u135, u136, u137, u138, u139, u140, u141, u142, u143, u144, u145, u146, u147, u148, u149, u150, u151, u152, u153, u154, u155, u156, u157, u158, u159, u160, u161, u162, u163, u164, u165, u166, u167, u168, u169, u170, u171, u172, u173, u174, u175, u176, u177, u178, u179, u180, u181, u182, u183, u184, u185, u186, u187, u188, u189, u190, u191, u192, u193, u194, u195, u196, u197, u198, u199], defers := [] } X := by
        intro X hbx u7 u8 u9 u10 u11 u12 u15 u16 u20 u21 u22 u23 u24 u25 u26 u27 u28 u29 u30 u31 u32 u33 u34 u35 u36 u37 u38 u39 u40 u41 u42 u43 u44 u45 u46 u47 u48 u49 u50 u51 u52 u53 u54 u55 u56 u57 u58 u59 u60 u61 u62 u63 u64 u65 u66 u67 u68 u69 u70 u71 u72 u73 u74 u75 u76 u77 u78 u79 u80 u81 u82 u83 u84 u85 u86 u87 u88 u89 u90 u91 u92 u93 u94 u95 u96 u97 u98 u99 u100 u101 u102 u103 u104 u105 u106 u107 u108 u109 u110 u111 u112 u113 u114 u115 u116 u117 u118 u119 u120 u121 u122 u123 u124 u125 u126 u127 u128 u129 u130 u131 u132 u133 u134 u135 u136 u137 u138 u139 u140 u141 u142 u143 u144 u145 u146 u147 u148 u149 u150 u151 u152 u153 u154 u155 u156 u157 u158 u159 u160 u161 u162 u163 u164 u165 u166 u167 u168 u169 u170 u171 u172 u173 u174 u175 u176 u177 u178 u179 u180 u181 u182 u183 u184 u185 u186 u187 u188 u189 u190 u191 u192 u193 u194 u195 u196 u197 u198 u199
        refine HK8.out _ _ ?_
        clear HK8 SN HBY HBN HBK
        replace R6 := Lib.hid ((hbx.block _ (row_lt R6.out)).trans R6.out)
        replace HV := Lib.hid (HV.out.keep hbx)
        replace HL := Lib.hid (HL.out.keep hbx)
        replace HOP := Lib.hid (HOP.out.keep hbx)
        replace HMI := Lib.hid (HMI.out.keep hbx)
        replace HJQ := Lib.hid (HJQ.out.keep hbx)
        replace R17 := Lib.hid ((hbx.block _ (row_lt R17.out)).trans R17.out)
        replace HB := Lib.hid (HB.out.trans (hbx.mono HB.out.size))
        clear hbx
        have SX := Lib.hid (brefl X)
        have SX_le_HB := HB.out.size
        refine wp_seq_k fun K13 hK13 => ?_
        have HK13 := Lib.hid hK13
        clear hK13
        have tail13 : ∀ X2 : World, Below X.heap.size X X2 → ∀ (u7 u8 u9 u10 u11 u12 u15 u16 u17 u18 u19 u20 u21 u22 u23 u24 u25 u26 u27 u28 u29 u30 u31 u32 u33 u34 u35 u36 u37 u38 u39 u40 u41 u42 u43 u44 u45 u46 u47 u48 u49 u50 u51 u52 u53 u54 u55 u56 u57 u58 u59 u60 u61 u62 u63 u64 u65 u66 u67 u68 u69 u70 u71 u72 u73 u74 u75 u76 u77 u78 u79 u80 u81 u82 u83 u84 u85 u86 u87 u88 u89 u90 u91 u92 u93 u94 u95 u96 u97 u98 u99 u100 u101 u102 u103 u104 u105 u106 u107 u108 u109 u110 u111 u112 u113 u114 u115 u116 u117 u118 u119 u120 u121 u122 u123 u124 u125 u126 u127 u128 u129 u130 u131 u132 u133 u134 u135 u136 u137 u138 u139 u140 u141 u142 u143 u144 u145 u146 u147 u148 u149 u150 u151 u152 u153 u154 u155 u156 u157 u158 u159 u160 u161 u162 u163 u164 u165 u166 u167 u168 u169 u170 u171 u172 u173 u174 u175 u176 u177 u178 u179 u180 u181 u182 u183 u184 u185 u186 u187 u188 u189 u190 u191 u192 u193 u194 u195 u196 u197 u198 u199 : Value), K13 { tmps := #[plA W H A v.length c, .int .i64 a, .int .i64 d, .slice A3 m c3, .int .i64 wd, .int .i64 ht, .pointer (some ⟨w.heap.size, 0, none⟩), u7, u8, u9, u10, u11, u12, .slice (some ⟨b13, o13, none⟩) 1 c13, .slice A14 m c14, u15, u16, u17, u18, u19, u20, u21, u22, u23, u24, u25, u26, u27, u28, u29, u30, u31, u32, u33, u34, u35, u36, u37, u38, u39, u40, u41, u42, u43, u44, u45, u46, u47, u48, u49, u50, u51, u52, u53, u54, u55, u56, u57, u58, u59, u60, u61, u62, u63, u64, u65, u66, u67, u68, u69, u70, u71, u72, u73, u74, u75, u76, u77, u78, u79, u80, u81, u82, u83, u84, u85, u86, u87, u88, u89, u90, u91, u92, u93, u94, u95, u96, u97, u98, u99, u100, u101, u102, u103, u104, u105, u106, u107, u108, u109, u110, u111, u112, u113, u114, u115, u116, u117, u118, u119, u120, u121, u122, u123, u124, u125, u126, u127, u128, u129, u130, u131, u132, u133, u134, u135, u136, u137, u138, u139, u140, u141, u142, u143, u144, u145, u146, u147, u148, u149, u150, u151, u152, u153, u154, u155, u156, u157, u158, u159, u160, u161, u162, u163, u164, u165, u166, u167, u168, u169, u170, u171, u172, u173, u174, u175, u176, u177, u178, u179, u180, u181, u182, u183, u184, u185, u186, u187, u188, u189, u190, u191, u192, u193, u194, u195, u196, u197, u198, u199], defers := [] } X2 := by
          intro X2 hbx u7 u8 u9 u10 u11 u12 u15 u16 u17 u18 u19 u20 u21 u22 u23 u24 u25 u26 u27 u28 u29 u30 u31 u32 u33 u34 u35 u36 u37 u38 u39 u40 u41 u42 u43 u44 u45 u46 u47 u48 u49 u50 u51 u52 u53 u54 u55 u56 u57 u58 u59 u60 u61 u62 u63 u64 u65 u66 u67 u68 u69 u70 u71 u72 u73 u74 u75 u76 u77 u78 u79 u80 u81 u82 u83 u84 u85 u86 u87 u88 u89 u90 u91 u92 u93 u94 u95 u96 u97 u98 u99 u100 u101 u102 u103 u104 u105 u106 u107 u108 u109 u110 u111 u112 u113 u114 u115 u116 u117 u118 u119 u120 u121 u122 u123 u124 u125 u126 u127 u128 u129 u130 u131 u132 u133 u134 u135 u136 u137 u138 u139 u140 u141 u142 u143 u144 u145 u146 u147 u148 u149 u150 u151 u152 u153 u154 u155 u156 u157 u158 u159 u160 u161 u162 u163 u164 u165 u166 u167 u168 u169 u170 u171 u172 u173 u174 u175 u176 u177 u178 u179 u180 u181 u182 u183 u184 u185 u186 u187 u188 u189 u190 u191 u192 u193 u194 u195 u196 u197 u198 u199
          refine HK13.out _ _ ?_
          clear HK13 SX HJY HJN HJQ R17
          replace R6 := Lib.hid ((hbx.block _ (row_lt R6.out)).trans R6.out)
          replace HV := Lib.hid (HV.out.keep hbx)
          replace HL := Lib.hid (HL.out.keep hbx)
          replace HOP := Lib.hid (HOP.out.keep hbx)
          replace HMI := Lib.hid (HMI.out.keep hbx)
          replace HB := Lib.hid (HB.out.trans (hbx.mono HB.out.size))
          clear hbx
          go_wp2_with fail
          have LT_R6 : _ < X2.heap.size := row_lt R6.out
          have SZ : X2.heap.size ≤ X2.drew.heap.size := Nat.le_refl _
          have hb := ud' (brefl X2)
          replace R6 := Lib.hid ((hb.block _ (row_lt R6.out)).trans R6.out)
          replace HV := Lib.hid (HV.out.keep hb)
          replace HL := Lib.hid (HL.out.keep hb)
          replace HOP := Lib.hid (HOP.out.keep hb)
          replace HMI := Lib.hid (HMI.out.keep hb)
          replace HB := Lib.hid (HB.out.trans (hb.mono HB.out.size))
          clear hb
          refine Tin.reg_begin (X2.heap.size) 14 (by rfl) (by kernel_rfl) ?_
          have HRG := Lib.hid (fun (Y : World) (h : Below X2.heap.size X2.drew Y) => show Y.rangeAt b13 o13 [.int .i64 W, .int .i64 H, .slice A1 v.length c1] from (OwP.keep HOP.out h).2.1)
          refine Tin.reg_quiets [0, 1, 2, 3] _ 10 rfl (by simp only [Tin.pick, List.map_cons, List.map_nil, Array.getD_eq_getD_getElem?, List.getElem?_toArray, List.getElem?_cons_zero, List.getElem?_cons_succ, Option.getD_some]; rfl) (by kernel_rfl) (by kernel_rfl) ?_
          repeat (first | ((with_reducible refine wpq_loadv rtP ?_ (.tmp 188) ?_ b13 o13 ?_ [.int .i64 W, .int .i64 H, .slice A1 v.length c1] ?_ (fun Y h => by obtain ⟨p, rfl⟩ := h; exact HRG.out _ p.h) ?_); rfl; rfl; rfl; rfl; simp only [Act.put, List.setIfInBounds_toArray, List.set_cons_succ, List.set_cons_zero]) | ((with_reducible refine wpq_load_row rtP ?_ (.tmp 6) ?_ (w.heap.size) ?_ 24 (plrow W H A v.length c) ?_ (fun W h => by obtain ⟨p, rfl⟩ := h; exact (p.h.block _ LT_R6).trans R6.out) ?_); rfl; rfl; rfl; rfl; simp only [Act.put, List.setIfInBounds_toArray, List.set_cons_succ, List.set_cons_zero]) | go_big_quiet_step (fail))
          refine wpQuiet_nil ?_
          refine Tin.reg_one 4 _ rfl (by kernel_rfl) ?_
          try simp only [List.getElem_toArray, List.getElem_cons_succ, List.getElem_cons_zero]
          go_wp2_with fail
          refine (sameP_any W H W H A1 A c1 c v v _ HOP.out.2.2 HV.out (by omega) (by omega)).mono ?_
          rintro e t1 ⟨rfl, hv⟩
          rw [show sameP W H v W H v = true by unfold sameP; simp]
          go_wp2_with fail
          refine ⟨X2.heap.size, hv.mono SZ, Nat.le_refl _, ?_⟩
          replace R6 := Lib.hid ((hv.block _ (row_lt R6.out)).trans R6.out)
          replace HV := Lib.hid (HV.out.keep hv)
          replace HL := Lib.hid (HL.out.keep hv)
          replace HOP := Lib.hid (HOP.out.keep hv)
          replace HMI := Lib.hid (HMI.out.keep hv)
          replace HB := Lib.hid (HB.out.trans (hv.mono HB.out.size))
          replace SZ := Nat.le_trans SZ hv.size
          clear hv
          refine Tin.reg_quiets [5, 6, 7] _ 6 rfl (by simp only [Tin.pick, List.map_cons, List.map_nil, Array.getD_eq_getD_getElem?, List.getElem?_toArray, List.getElem?_cons_zero, List.getElem?_cons_succ, Option.getD_some]; rfl) (by kernel_rfl) (by kernel_rfl) ?_
          repeat (first | go_big_quiet_step (fail))
          refine wpQuiet_nil ?_
          refine Tin.reg_one 8 _ rfl (by kernel_rfl) ?_
          try simp only [List.getElem_toArray, List.getElem_cons_succ, List.getElem_cons_zero]
          go_wp2_with fail
          refine (alike_any A14 A3 m m c14 c3 zs zs _ HMI.out HL.out HZL.out HZL.out (by omega) (by omega)).mono ?_
          rintro e t2 ⟨rfl, hv⟩
          rw [decide_eq_true (Eq.refl zs)]
          go_wp2_with fail
          refine ⟨X2.heap.size, hv.mono SZ, Nat.le_refl _, ?_⟩
          replace R6 := Lib.hid ((hv.block _ (row_lt R6.out)).trans R6.out)
          replace HV := Lib.hid (HV.out.keep hv)
          replace HL := Lib.hid (HL.out.keep hv)
          replace HOP := Lib.hid (HOP.out.keep hv)
          replace HMI := Lib.hid (HMI.out.keep hv)
          replace HB := Lib.hid (HB.out.trans (hv.mono HB.out.size))
          replace SZ := Nat.le_trans SZ hv.size
          clear hv
          refine Tin.reg_quiets [9, 10] _ 3 rfl (by simp only [Tin.pick, List.map_cons, List.map_nil, Array.getD_eq_getD_getElem?, List.getElem?_toArray, List.getElem?_cons_zero, List.getElem?_cons_succ, Option.getD_some]; rfl) (by kernel_rfl) (by kernel_rfl) ?_
          repeat (first | go_big_quiet_step (fail))
          refine wpQuiet_nil ?_
          refine Tin.reg_one 11 _ rfl (by kernel_rfl) ?_
          try simp only [List.getElem_toArray, List.getElem_cons_succ, List.getElem_cons_zero]
          go_wp2_with fail
          refine (awake_any _).mono ?_
          rintro e t3 ⟨rfl, hv⟩
          go_wp2_with fail
          refine ⟨X2.heap.size, hv.mono SZ, Nat.le_refl _, ?_⟩
          replace R6 := Lib.hid ((hv.block _ (row_lt R6.out)).trans R6.out)
          replace HV := Lib.hid (HV.out.keep hv)
          replace HL := Lib.hid (HL.out.keep hv)
          replace HOP := Lib.hid (HOP.out.keep hv)
          replace HMI := Lib.hid (HMI.out.keep hv)
          replace HB := Lib.hid (HB.out.trans (hv.mono HB.out.size))
          replace SZ := Nat.le_trans SZ hv.size
          clear hv
          refine Tin.reg_quiets [12, 13] _ 0 rfl (by simp only [Tin.pick, List.map_cons, List.map_nil, Array.getD_eq_getD_getElem?, List.getElem?_toArray, List.getElem?_cons_zero, List.getElem?_cons_succ, Option.getD_some]; rfl) (by kernel_rfl) (by kernel_rfl) ?_
          repeat (first | go_big_quiet_step (fail))
          refine wpQuiet_nil ?_
          refine Tin.reg_done (by kernel_rfl) ?_
          go_wp2_with fail
          go_ret
          exact ⟨rfl, HB.out⟩
        cases hk : okF a with
        | false =>
          have hjn : okJn m a wd ht = false := by unfold okJn; rw [hk, Bool.false_and, Bool.and_false]
          obtain ⟨e1, e2, e3, e4⟩ := HJN.out hjn
          subst e1
          subst e2
          subst e3
          subst e4
          clear hjn HJN HJY
          go_wp2_with ((with_reducible refine wpl_load_row rtP ?_ (.tmp 17) ?_ (x5.heap.size) ?_ 24 (plrow 0 0 A17 ([] : List Int).length c17) ?_ R17.out ?_); rfl; rfl; rfl; rfl; simp only [Act.put, List.setIfInBounds_toArray, List.set_cons_succ, List.set_cons_zero])
          refine (sameP_any 0 0 0 0 A17 none c17 0 [] [] _ HJQ.out (.inl rfl) (by simp) (by simp)).mono ?_
          rintro e z1 ⟨rfl, hb⟩
          replace R6 := Lib.hid ((hb.block _ (row_lt R6.out)).trans R6.out)
          replace HV := Lib.hid (HV.out.keep hb)
          replace HL := Lib.hid (HL.out.keep hb)
          replace HOP := Lib.hid (HOP.out.keep hb)
          replace HMI := Lib.hid (HMI.out.keep hb)
          replace HJQ := Lib.hid (HJQ.out.keep hb)
          replace R17 := Lib.hid ((hb.block _ (row_lt R17.out)).trans R17.out)
          replace HB := Lib.hid (HB.out.trans (hb.mono HB.out.size))
          replace SX := Lib.hid (SX.out.trans (hb.mono SX.out.size))
          clear hb
          rw [show sameP 0 0 [] 0 0 [] = true from rfl]
          go_wp2_with fail
          all_goals (first | exact SX.out | exact tail13 _ SX.out _ _ _ _ _ _ _ _ _ _ _ _ _ _ _ _ _ _ _ _ _ _ _ _ _ _ _ _ _ _ _ _ _ _ _ _ _ _ _ _ _ _ _ _ _ _ _ _ _ _ _ _ _ _ _ _ _ _ _ _ _ _ _ _ _ _ _ _ _ _ _ _ _ _ _ _ _ _ _ _ _ _ _ _ _ _ _ _ _ _ _ _ _ _ _ _ _ _ _ _ _ _ _ _ _ _ _ _ _ _ _ _ _ _ _ _ _ _ _ _ _ _ _ _ _ _ _ _ _ _ _ _ _ _ _ _ _ _ _ _ _ _ _ _ _ _ _ _ _ _ _ _ _ _ _ _ _ _ _ _ _ _ _ _ _ _ _ _ _ _ _ _ _ _ _ _ _ _ _ _ _ _ _ _ _ _ _ _ _ _ _)
        | true =>
        obtain ⟨a0, a1⟩ := okF_t hk
        go_wp2_with fail
        refine (rsize_any wd _).mono ?_
        rintro e w' ⟨rfl, rfl⟩
        cases hw : okS wd with
        | false =>
          have hjn : okJn m a wd ht = false := by unfold okJn; rw [hw, Bool.false_and, Bool.false_and]
          obtain ⟨e1, e2, e3, e4⟩ := HJN.out hjn
          subst e1
          subst e2
          subst e3
          subst e4
          clear hjn HJN HJY
          go_wp2_with ((with_reducible refine wpl_load_row rtP ?_ (.tmp 17) ?_ (x5.heap.size) ?_ 24 (plrow 0 0 A17 ([] : List Int).length c17) ?_ R17.out ?_); rfl; rfl; rfl; rfl; simp only [Act.put, List.setIfInBounds_toArray, List.set_cons_succ, List.set_cons_zero])
          refine (sameP_any 0 0 0 0 A17 none c17 0 [] [] _ HJQ.out (.inl rfl) (by simp) (by simp)).mono ?_
          rintro e z1 ⟨rfl, hb⟩
          replace R6 := Lib.hid ((hb.block _ (row_lt R6.out)).trans R6.out)
          replace HV := Lib.hid (HV.out.keep hb)
          replace HL := Lib.hid (HL.out.keep hb)
          replace HOP := Lib.hid (HOP.out.keep hb)
          replace HMI := Lib.hid (HMI.out.keep hb)
          replace HJQ := Lib.hid (HJQ.out.keep hb)
          replace R17 := Lib.hid ((hb.block _ (row_lt R17.out)).trans R17.out)
          replace HB := Lib.hid (HB.out.trans (hb.mono HB.out.size))
          replace SX := Lib.hid (SX.out.trans (hb.mono SX.out.size))
          clear hb
          rw [show sameP 0 0 [] 0 0 [] = true from rfl]
          go_wp2_with fail
          all_goals (first | exact SX.out | exact tail13 _ SX.out _ _ _ _ _ _ _ _ _ _ _ _ _ _ _ _ _ _ _ _ _ _ _ _ _ _ _ _ _ _ _ _ _ _ _ _ _ _ _ _ _ _ _ _ _ _ _ _ _ _ _ _ _ _ _ _ _ _ _ _ _ _ _ _ _ _ _ _ _ _ _ _ _ _ _ _ _ _ _ _ _ _ _ _ _ _ _ _ _ _ _ _ _ _ _ _ _ _ _ _ _ _ _ _ _ _ _ _ _ _ _ _ _ _ _ _ _ _ _ _ _ _ _ _ _ _ _ _ _ _ _ _ _ _ _ _ _ _ _ _ _ _ _ _ _ _ _ _ _ _ _ _ _ _ _ _ _ _ _ _ _ _ _ _ _ _ _ _ _ _ _ _ _ _ _ _ _ _ _ _ _ _ _ _ _ _ _ _ _ _ _)
        | true =>
        obtain ⟨w0, w1⟩ := okS_t hw
        go_wp2_with fail
        refine (rsize_any ht _).mono ?_
        rintro e w' ⟨rfl, rfl⟩
        cases hh : okS ht with
        | false =>
          have hjn : okJn m a wd ht = false := by unfold okJn; rw [hw, hh, Bool.and_false, Bool.false_and]
          obtain ⟨e1, e2, e3, e4⟩ := HJN.out hjn
          subst e1
          subst e2
          subst e3
          subst e4
          clear hjn HJN HJY
          go_wp2_with ((with_reducible refine wpl_load_row rtP ?_ (.tmp 17) ?_ (x5.heap.size) ?_ 24 (plrow 0 0 A17 ([] : List Int).length c17) ?_ R17.out ?_); rfl; rfl; rfl; rfl; simp only [Act.put, List.setIfInBounds_toArray, List.set_cons_succ, List.set_cons_zero])
          refine (sameP_any 0 0 0 0 A17 none c17 0 [] [] _ HJQ.out (.inl rfl) (by simp) (by simp)).mono ?_
          rintro e z1 ⟨rfl, hb⟩
          replace R6 := Lib.hid ((hb.block _ (row_lt R6.out)).trans R6.out)
          replace HV := Lib.hid (HV.out.keep hb)
          replace HL := Lib.hid (HL.out.keep hb)
          replace HOP := Lib.hid (HOP.out.keep hb)
          replace HMI := Lib.hid (HMI.out.keep hb)
          replace HJQ := Lib.hid (HJQ.out.keep hb)
          replace R17 := Lib.hid ((hb.block _ (row_lt R17.out)).trans R17.out)
          replace HB := Lib.hid (HB.out.trans (hb.mono HB.out.size))
          replace SX := Lib.hid (SX.out.trans (hb.mono SX.out.size))
          clear hb
          rw [show sameP 0 0 [] 0 0 [] = true from rfl]
          go_wp2_with fail
          all_goals (first | exact SX.out | exact tail13 _ SX.out _ _ _ _ _ _ _ _ _ _ _ _ _ _ _ _ _ _ _ _ _ _ _ _ _ _ _ _ _ _ _ _ _ _ _ _ _ _ _ _ _ _ _ _ _ _ _ _ _ _ _ _ _ _ _ _ _ _ _ _ _ _ _ _ _ _ _ _ _ _ _ _ _ _ _ _ _ _ _ _ _ _ _ _ _ _ _ _ _ _ _ _ _ _ _ _ _ _ _ _ _ _ _ _ _ _ _ _ _ _ _ _ _ _ _ _ _ _ _ _ _ _ _ _ _ _ _ _ _ _ _ _ _ _ _ _ _ _ _ _ _ _ _ _ _ _ _ _ _ _ _ _ _ _ _ _ _ _ _ _ _ _ _ _ _ _ _ _ _ _ _ _ _ _ _ _ _ _ _ _ _ _ _ _ _ _ _ _ _ _ _)
        | true =>
        obtain ⟨h0, h1⟩ := okS_t hh
        have p0 : 0 ≤ (m : Int) % a := Int.emod_nonneg _ (by omega)
        have p1 : (m : Int) % a < a := Int.emod_lt_of_pos _ (by omega)
        have p2 : 0 ≤ (m : Int) / a := Int.ediv_nonneg (by omega) (by omega)
        have p3 : (m : Int) / a ≤ (m : Int) := Int.ediv_le_self _ (by omega)
        by_cases b1 : wd ≤ 8 * a
        case neg =>
          have j1 : decide (wd ≤ 8 * a) = false := decide_eq_false b1
          have hjn : okJn m a wd ht = false := by unfold okJn; rw [hw, hh, hk, decide_eq_false b1, Bool.false_and, Bool.and_false, Bool.and_false]
          obtain ⟨e1, e2, e3, e4⟩ := HJN.out hjn
          subst e1
          subst e2
          subst e3
          subst e4
          clear hjn HJN HJY
          go_wp2_with ((with_reducible refine wpl_load_row rtP ?_ (.tmp 17) ?_ (x5.heap.size) ?_ 24 (plrow 0 0 A17 ([] : List Int).length c17) ?_ R17.out ?_); rfl; rfl; rfl; rfl; simp only [Act.put, List.setIfInBounds_toArray, List.set_cons_succ, List.set_cons_zero])
          refine (sameP_any 0 0 0 0 A17 none c17 0 [] [] _ HJQ.out (.inl rfl) (by simp) (by simp)).mono ?_
          rintro e z1 ⟨rfl, hb⟩
          replace R6 := Lib.hid ((hb.block _ (row_lt R6.out)).trans R6.out)
          replace HV := Lib.hid (HV.out.keep hb)
          replace HL := Lib.hid (HL.out.keep hb)
          replace HOP := Lib.hid (HOP.out.keep hb)
          replace HMI := Lib.hid (HMI.out.keep hb)
          replace HJQ := Lib.hid (HJQ.out.keep hb)
          replace R17 := Lib.hid ((hb.block _ (row_lt R17.out)).trans R17.out)
          replace HB := Lib.hid (HB.out.trans (hb.mono HB.out.size))
          replace SX := Lib.hid (SX.out.trans (hb.mono SX.out.size))
          clear hb
          rw [show sameP 0 0 [] 0 0 [] = true from rfl]
          go_wp2_with fail
          all_goals (first | exact SX.out | exact tail13 _ SX.out _ _ _ _ _ _ _ _ _ _ _ _ _ _ _ _ _ _ _ _ _ _ _ _ _ _ _ _ _ _ _ _ _ _ _ _ _ _ _ _ _ _ _ _ _ _ _ _ _ _ _ _ _ _ _ _ _ _ _ _ _ _ _ _ _ _ _ _ _ _ _ _ _ _ _ _ _ _ _ _ _ _ _ _ _ _ _ _ _ _ _ _ _ _ _ _ _ _ _ _ _ _ _ _ _ _ _ _ _ _ _ _ _ _ _ _ _ _ _ _ _ _ _ _ _ _ _ _ _ _ _ _ _ _ _ _ _ _ _ _ _ _ _ _ _ _ _ _ _ _ _ _ _ _ _ _ _ _ _ _ _ _ _ _ _ _ _ _ _ _ _ _ _ _ _ _ _ _ _ _ _ _ _ _ _ _ _ _ _ _ _)
        by_cases b2 : (m : Int) % a = 0
        case neg =>
          have j1 : decide (wd ≤ 8 * a) = true := decide_eq_true b1
          have j2 : ((m : Int) % a == 0) = false := by rw [beq_eq_false_iff_ne]; exact b2
          have q2 := b2
          clear p0 p1
          have hjn : okJn m a wd ht = false := by unfold okJn; rw [hw, hh, hk, decide_eq_true b1, decide_eq_false q2, Bool.false_and, Bool.and_false, Bool.and_false, Bool.and_false]
          obtain ⟨e1, e2, e3, e4⟩ := HJN.out hjn
          subst e1
          subst e2
          subst e3
          subst e4
          clear hjn HJN HJY
          go_wp2_with ((with_reducible refine wpl_load_row rtP ?_ (.tmp 17) ?_ (x5.heap.size) ?_ 24 (plrow 0 0 A17 ([] : List Int).length c17) ?_ R17.out ?_); rfl; rfl; rfl; rfl; simp only [Act.put, List.setIfInBounds_toArray, List.set_cons_succ, List.set_cons_zero])
          refine (sameP_any 0 0 0 0 A17 none c17 0 [] [] _ HJQ.out (.inl rfl) (by simp) (by simp)).mono ?_
          rintro e z1 ⟨rfl, hb⟩
          replace R6 := Lib.hid ((hb.block _ (row_lt R6.out)).trans R6.out)
          replace HV := Lib.hid (HV.out.keep hb)
          replace HL := Lib.hid (HL.out.keep hb)
          replace HOP := Lib.hid (HOP.out.keep hb)
          replace HMI := Lib.hid (HMI.out.keep hb)
          replace HJQ := Lib.hid (HJQ.out.keep hb)
          replace R17 := Lib.hid ((hb.block _ (row_lt R17.out)).trans R17.out)
          replace HB := Lib.hid (HB.out.trans (hb.mono HB.out.size))
          replace SX := Lib.hid (SX.out.trans (hb.mono SX.out.size))
          clear hb
          rw [show sameP 0 0 [] 0 0 [] = true from rfl]
          go_wp2_with fail
          all_goals (first | exact SX.out | exact tail13 _ SX.out _ _ _ _ _ _ _ _ _ _ _ _ _ _ _ _ _ _ _ _ _ _ _ _ _ _ _ _ _ _ _ _ _ _ _ _ _ _ _ _ _ _ _ _ _ _ _ _ _ _ _ _ _ _ _ _ _ _ _ _ _ _ _ _ _ _ _ _ _ _ _ _ _ _ _ _ _ _ _ _ _ _ _ _ _ _ _ _ _ _ _ _ _ _ _ _ _ _ _ _ _ _ _ _ _ _ _ _ _ _ _ _ _ _ _ _ _ _ _ _ _ _ _ _ _ _ _ _ _ _ _ _ _ _ _ _ _ _ _ _ _ _ _ _ _ _ _ _ _ _ _ _ _ _ _ _ _ _ _ _ _ _ _ _ _ _ _ _ _ _ _ _ _ _ _ _ _ _ _ _ _ _ _ _ _ _ _ _ _ _ _)
        by_cases b3 : ht ≤ 8 * ((m : Int) / a)
        case neg =>
          have j1 : decide (wd ≤ 8 * a) = true := decide_eq_true b1
          have j3 : decide (ht ≤ 8 * ((m : Int) / a)) = false := decide_eq_false b3
          clear p0 p1
          have hjn : okJn m a wd ht = false := by unfold okJn; rw [hw, hh, hk, decide_eq_true b1, decide_eq_true b2, decide_eq_false b3, Bool.and_false, Bool.and_false, Bool.and_false, Bool.and_false]
          obtain ⟨e1, e2, e3, e4⟩ := HJN.out hjn
          subst e1
          subst e2
          subst e3
          subst e4
          clear hjn HJN HJY
          go_wp2_with ((with_reducible refine wpl_load_row rtP ?_ (.tmp 17) ?_ (x5.heap.size) ?_ 24 (plrow 0 0 A17 ([] : List Int).length c17) ?_ R17.out ?_); rfl; rfl; rfl; rfl; simp only [Act.put, List.setIfInBounds_toArray, List.set_cons_succ, List.set_cons_zero])
          refine (sameP_any 0 0 0 0 A17 none c17 0 [] [] _ HJQ.out (.inl rfl) (by simp) (by simp)).mono ?_
          rintro e z1 ⟨rfl, hb⟩
          replace R6 := Lib.hid ((hb.block _ (row_lt R6.out)).trans R6.out)
          replace HV := Lib.hid (HV.out.keep hb)
          replace HL := Lib.hid (HL.out.keep hb)
          replace HOP := Lib.hid (HOP.out.keep hb)
          replace HMI := Lib.hid (HMI.out.keep hb)
          replace HJQ := Lib.hid (HJQ.out.keep hb)
          replace R17 := Lib.hid ((hb.block _ (row_lt R17.out)).trans R17.out)
          replace HB := Lib.hid (HB.out.trans (hb.mono HB.out.size))
          replace SX := Lib.hid (SX.out.trans (hb.mono SX.out.size))
          clear hb
          rw [show sameP 0 0 [] 0 0 [] = true from rfl]
          go_wp2_with fail
          all_goals (first | exact SX.out | exact tail13 _ SX.out _ _ _ _ _ _ _ _ _ _ _ _ _ _ _ _ _ _ _ _ _ _ _ _ _ _ _ _ _ _ _ _ _ _ _ _ _ _ _ _ _ _ _ _ _ _ _ _ _ _ _ _ _ _ _ _ _ _ _ _ _ _ _ _ _ _ _ _ _ _ _ _ _ _ _ _ _ _ _ _ _ _ _ _ _ _ _ _ _ _ _ _ _ _ _ _ _ _ _ _ _ _ _ _ _ _ _ _ _ _ _ _ _ _ _ _ _ _ _ _ _ _ _ _ _ _ _ _ _ _ _ _ _ _ _ _ _ _ _ _ _ _ _ _ _ _ _ _ _ _ _ _ _ _ _ _ _ _ _ _ _ _ _ _ _ _ _ _ _ _ _ _ _ _ _ _ _ _ _ _ _ _ _ _ _ _ _ _ _ _ _)
        have hjn : okJn m a wd ht = true := by unfold okJn; rw [hw, hh, hk, decide_eq_true b1, decide_eq_true b2, decide_eq_true b3]; rfl
        have j1 : decide (wd ≤ 8 * a) = true := decide_eq_true b1
        have j3 : decide (ht ≤ 8 * ((m : Int) / a)) = true := decide_eq_true b3
        clear p0 p1
        obtain ⟨a', rfl⟩ : ∃ a' : Nat, a = a' := ⟨a.toNat, by omega⟩
        obtain ⟨w', rfl⟩ : ∃ w' : Nat, wd = w' := ⟨wd.toNat, by omega⟩
        obtain ⟨h', rfl⟩ : ∃ h' : Nat, ht = h' := ⟨ht.toNat, by omega⟩
        obtain ⟨e1, e2, e3, e4⟩ := HJY.out hjn
        rw [Int.toNat_natCast, Int.toNat_natCast, Int.toNat_natCast] at e4
        clear HJN HJY hjn
        subst e1
        subst e2
        subst e3
        subst e4
        have hgl : (grid (joinV zs a') w' h').length = w' * h' := grid_len _ _ _
        have hwh : w' * h' ≤ 4096 * 4096 := Nat.mul_le_mul (by omega) (by omega)
        have HGL := Lib.hid hgl
        clear hgl
        have b3' : h' ≤ 8 * (m / a') := by rw [← Int.natCast_ediv] at b3; omega
        go_wp2_with fail
        have LT_R6 : _ < X.heap.size := row_lt R6.out
        have LT_R17 : _ < X.heap.size := row_lt R17.out
        have SZ : X.heap.size ≤ X.drew.heap.size := Nat.le_refl _
        have hb := ud' (brefl X)
        replace R6 := Lib.hid ((hb.block _ (row_lt R6.out)).trans R6.out)
        replace HV := Lib.hid (HV.out.keep hb)
        replace HL := Lib.hid (HL.out.keep hb)
        replace HOP := Lib.hid (HOP.out.keep hb)
        replace HMI := Lib.hid (HMI.out.keep hb)
        replace HJQ := Lib.hid (HJQ.out.keep hb)
        replace R17 := Lib.hid ((hb.block _ (row_lt R17.out)).trans R17.out)
        replace HB := Lib.hid (HB.out.trans (hb.mono HB.out.size))
        replace SX := Lib.hid (SX.out.trans (hb.mono SX.out.size))
        clear hb
        refine Tin.reg_begin (X.heap.size) 12 (by rfl) (by kernel_rfl) ?_
        refine Tin.reg_quiets [0, 1, 2, 3, 4, 5, 6, 7] _ 4 rfl (by simp only [Tin.pick, List.map_cons, List.map_nil, Array.getD_eq_getD_getElem?, List.getElem?_toArray, List.getElem?_cons_zero, List.getElem?_cons_succ, Option.getD_some]; rfl) (by kernel_rfl) (by kernel_rfl) ?_
        repeat (first | ((with_reducible refine wpq_load_row rtP ?_ (.tmp 17) ?_ (x5.heap.size) ?_ 24 (plrow (w' : Int) (h' : Int) A17 (grid (joinV zs a') w' h').length c17) ?_ (fun W h => by obtain ⟨p, rfl⟩ := h; exact (p.h.block _ LT_R17).trans R17.out) ?_); rfl; rfl; rfl; rfl; simp only [Act.put, List.setIfInBounds_toArray, List.set_cons_succ, List.set_cons_zero]) | go_big_quiet_step (fail))
        refine wpQuiet_nil ?_
        refine Tin.reg_one 8 _ rfl (by kernel_rfl) ?_
        try simp only [List.getElem_toArray, List.getElem_cons_succ, List.getElem_cons_zero]
        go_wp2_with fail
        refine (rjoin_any zs w' h' a' m A3 c3 _ HL.out HZL.out (by omega) (by omega) (by omega) (by omega) (by omega) b3').mono ?_
        rintro e z1 ⟨A8, c8, rfl, hz1_0, hv⟩
        go_wp2_with fail
        refine ⟨X.heap.size, hv.mono SZ, Nat.le_refl _, ?_⟩
        replace R6 := Lib.hid ((hv.block _ (row_lt R6.out)).trans R6.out)
        replace HV := Lib.hid (HV.out.keep hv)
        replace HL := Lib.hid (HL.out.keep hv)
        replace HOP := Lib.hid (HOP.out.keep hv)
        replace HMI := Lib.hid (HMI.out.keep hv)
        replace HJQ := Lib.hid (HJQ.out.keep hv)
        replace R17 := Lib.hid ((hv.block _ (row_lt R17.out)).trans R17.out)
        replace HB := Lib.hid (HB.out.trans (hv.mono HB.out.size))
        replace SX := Lib.hid (SX.out.trans (hv.mono SX.out.size))
        have HRJ := Lib.hid hz1_0
        replace SZ := Nat.le_trans SZ hv.size
        clear hz1_0 hv
        have hrj := HRJ.out
        rw [← HGL.out] at hrj
        try rw [← HGL.out]
        refine Tin.reg_one 9 _ rfl (by kernel_rfl) ?_
        try simp only [List.getElem_toArray, List.getElem_cons_succ, List.getElem_cons_zero]
        go_wp2_with fail
        refine (sameP_any (w' : Int) (h' : Int) (w' : Int) (h' : Int) A17 A8 c17 c8 (grid (joinV zs a') w' h') (grid (joinV zs a') w' h') _ HJQ.out hrj.sl'.2 (by rw [HGL.out]; omega) (by rw [HGL.out]; omega)).mono ?_
        rintro e z2 ⟨rfl, hv⟩
        rw [show sameP (w' : Int) (h' : Int) (grid (joinV zs a') w' h') (w' : Int) (h' : Int) (grid (joinV zs a') w' h') = true by unfold sameP; simp]
        clear hrj
        go_wp2_with fail
        refine ⟨X.heap.size, hv.mono SZ, Nat.le_refl _, ?_⟩
        replace R6 := Lib.hid ((hv.block _ (row_lt R6.out)).trans R6.out)
        replace HV := Lib.hid (HV.out.keep hv)
        replace HL := Lib.hid (HL.out.keep hv)
        replace HOP := Lib.hid (HOP.out.keep hv)
        replace HMI := Lib.hid (HMI.out.keep hv)
        replace HJQ := Lib.hid (HJQ.out.keep hv)
        replace R17 := Lib.hid ((hv.block _ (row_lt R17.out)).trans R17.out)
        replace HRJ := Lib.hid (HRJ.out.keep hv)
        replace HB := Lib.hid (HB.out.trans (hv.mono HB.out.size))
        replace SX := Lib.hid (SX.out.trans (hv.mono SX.out.size))
        replace SZ := Nat.le_trans SZ hv.size
        clear hv
        refine Tin.reg_quiets [10, 11] _ 0 rfl (by simp only [Tin.pick, List.map_cons, List.map_nil, Array.getD_eq_getD_getElem?, List.getElem?_toArray, List.getElem?_cons_zero, List.getElem?_cons_succ, Option.getD_some]; rfl) (by kernel_rfl) (by kernel_rfl) ?_
        repeat (first | go_big_quiet_step (fail))
        refine wpQuiet_nil ?_
        refine Tin.reg_done (by kernel_rfl) ?_
        go_wp2_with fail
        all_goals (first | exact SX.out | exact tail13 _ SX.out _ _ _ _ _ _ _ _ _ _ _ _ _ _ _ _ _ _ _ _ _ _ _ _ _ _ _ _ _ _ _ _ _ _ _ _ _ _ _ _ _ _ _ _ _ _ _ _ _ _ _ _ _ _ _ _ _ _ _ _ _ _ _ _ _ _ _ _ _ _ _ _ _ _ _ _ _ _ _ _ _ _ _ _ _ _ _ _ _ _ _ _ _ _ _ _ _ _ _ _ _ _ _ _ _ _ _ _ _ _ _ _ _ _ _ _ _ _ _ _ _ _ _ _ _ _ _ _ _ _ _ _ _ _ _ _ _ _ _ _ _ _ _ _ _ _ _ _ _ _ _ _ _ _ _ _ _ _ _ _ _ _ _ _ _ _ _ _ _ _ _ _ _ _ _ _ _ _ _ _ _ _ _ _ _ _ _ _ _ _ _)
      go_wp2_with ((with_reducible refine wpl_load_row rtP ?_ (.tmp 6) ?_ (w.heap.size) ?_ 24 (plrow W H A v.length c) ?_ R6.out ?_); rfl; rfl; rfl; rfl; simp only [Act.put, List.setIfInBounds_toArray, List.set_cons_succ, List.set_cons_zero])
      refine (rmayP_any W H A c v _ HV.out (by omega)).mono ?_
      rintro e y1 ⟨rfl, hb⟩
      replace R6 := Lib.hid ((hb.block _ (row_lt R6.out)).trans R6.out)
      replace HV := Lib.hid (HV.out.keep hb)
      replace HL := Lib.hid (HL.out.keep hb)
      replace HOP := Lib.hid (HOP.out.keep hb)
      replace HMI := Lib.hid (HMI.out.keep hb)
      replace HBK := Lib.hid (HBK.out.keep hb)
      replace HJQ := Lib.hid (HJQ.out.keep hb)
      replace R17 := Lib.hid ((hb.block _ (row_lt R17.out)).trans R17.out)
      replace HB := Lib.hid (HB.out.trans (hb.mono HB.out.size))
      replace SN := Lib.hid (SN.out.trans (hb.mono SN.out.size))
      clear hb
      cases hm : mayP W H v with
      | false =>
        have hbl : okBl W H v a d = false := by unfold okBl; rw [hm]; rfl
        obtain ⟨e1, e2⟩ := HBN.out hbl
        subst e1
        subst e2
        clear hbl HBN HBY
        go_wp2_with ((with_reducible refine wpl_load_row rtP ?_ (.tmp 6) ?_ (w.heap.size) ?_ 24 (plrow W H A v.length c) ?_ R6.out ?_); rfl; rfl; rfl; rfl; simp only [Act.put, List.setIfInBounds_toArray, List.set_cons_succ, List.set_cons_zero])
        all_goals (first | exact SN.out | exact tail8 _ SN.out _ _ _ _ _ _ _ _ _ _ _ _ _ _ _ _ _ _ _ _ _ _ _ _ _ _ _ _ _ _ _ _ _ _ _ _ _ _ _ _ _ _ _ _ _ _ _ _ _ _ _ _ _ _ _ _ _ _ _ _ _ _ _ _ _ _ _ _ _ _ _ _ _ _ _ _ _ _ _ _ _ _ _ _ _ _ _ _ _ _ _ _ _ _ _ _ _ _ _ _ _ _ _ _ _ _ _ _ _ _ _ _ _ _ _ _ _ _ _ _ _ _ _ _ _ _ _ _ _ _ _ _ _ _ _ _ _ _ _ _ _ _ _ _ _ _ _ _ _ _ _ _ _ _ _ _ _ _ _ _ _ _ _ _ _ _ _ _ _ _ _ _ _ _ _ _ _ _ _ _ _ _ _ _ _ _ _ _)
      | true =>
      have k0 := row_cell (v := .int .i64 W) R6.out 0 rfl
      have k1 := row_cell (v := .int .i64 H) R6.out 1 rfl
      cases hk : okF a with
      | false =>
        rw [hk] at tail8
        have hbl : okBl W H v a d = false := by unfold okBl; rw [hm, hk]; rfl
        obtain ⟨e1, e2⟩ := HBN.out hbl
        subst e1
        subst e2
        clear hbl HBN HBY
        go_wp2_with ((with_reducible refine wpl_load_row rtP ?_ (.tmp 6) ?_ (w.heap.size) ?_ 24 (plrow W H A v.length c) ?_ R6.out ?_); rfl; rfl; rfl; rfl; simp only [Act.put, List.setIfInBounds_toArray, List.set_cons_succ, List.set_cons_zero])
        all_goals (first | exact SN.out | exact tail8 _ SN.out _ _ _ _ _ _ _ _ _ _ _ _ _ _ _ _ _ _ _ _ _ _ _ _ _ _ _ _ _ _ _ _ _ _ _ _ _ _ _ _ _ _ _ _ _ _ _ _ _ _ _ _ _ _ _ _ _ _ _ _ _ _ _ _ _ _ _ _ _ _ _ _ _ _ _ _ _ _ _ _ _ _ _ _ _ _ _ _ _ _ _ _ _ _ _ _ _ _ _ _ _ _ _ _ _ _ _ _ _ _ _ _ _ _ _ _ _ _ _ _ _ _ _ _ _ _ _ _ _ _ _ _ _ _ _ _ _ _ _ _ _ _ _ _ _ _ _ _ _ _ _ _ _ _ _ _ _ _ _ _ _ _ _ _ _ _ _ _ _ _ _ _ _ _ _ _ _ _ _ _ _ _ _ _ _ _ _ _)
      | true =>
      obtain ⟨a0, a1⟩ := okF_t hk
      rw [hk] at tail8
      by_cases d1 : d < 1
      · have j1 : decide (1 ≤ d) = false := decide_eq_false (by omega)
        have hbl : okBl W H v a d = false := by unfold okBl; rw [hm, hk, show okF d = false by unfold okF; rw [decide_eq_false (show ¬ 1 ≤ d by omega)]; rfl]; rfl
        obtain ⟨e1, e2⟩ := HBN.out hbl
        subst e1
        subst e2
        clear hbl HBN HBY
        go_wp2_with ((with_reducible refine wpl_load_row rtP ?_ (.tmp 6) ?_ (w.heap.size) ?_ 24 (plrow W H A v.length c) ?_ R6.out ?_); rfl; rfl; rfl; rfl; simp only [Act.put, List.setIfInBounds_toArray, List.set_cons_succ, List.set_cons_zero])
        all_goals (first | exact SN.out | exact tail8 _ SN.out _ _ _ _ _ _ _ _ _ _ _ _ _ _ _ _ _ _ _ _ _ _ _ _ _ _ _ _ _ _ _ _ _ _ _ _ _ _ _ _ _ _ _ _ _ _ _ _ _ _ _ _ _ _ _ _ _ _ _ _ _ _ _ _ _ _ _ _ _ _ _ _ _ _ _ _ _ _ _ _ _ _ _ _ _ _ _ _ _ _ _ _ _ _ _ _ _ _ _ _ _ _ _ _ _ _ _ _ _ _ _ _ _ _ _ _ _ _ _ _ _ _ _ _ _ _ _ _ _ _ _ _ _ _ _ _ _ _ _ _ _ _ _ _ _ _ _ _ _ _ _ _ _ _ _ _ _ _ _ _ _ _ _ _ _ _ _ _ _ _ _ _ _ _ _ _ _ _ _ _ _ _ _ _ _ _ _ _)
      by_cases d2 : 512 < d
      · have j1 : decide (1 ≤ d) = true := decide_eq_true (by omega)
        have j2 : decide (d ≤ 512) = false := decide_eq_false (by omega)
        have hbl : okBl W H v a d = false := by unfold okBl; rw [hm, hk, show okF d = false by unfold okF; rw [decide_eq_false (show ¬ d ≤ 512 by omega), Bool.and_false]]; rfl
        obtain ⟨e1, e2⟩ := HBN.out hbl
        subst e1
        subst e2
        clear hbl HBN HBY
        go_wp2_with ((with_reducible refine wpl_load_row rtP ?_ (.tmp 6) ?_ (w.heap.size) ?_ 24 (plrow W H A v.length c) ?_ R6.out ?_); rfl; rfl; rfl; rfl; simp only [Act.put, List.setIfInBounds_toArray, List.set_cons_succ, List.set_cons_zero])
        all_goals (first | exact SN.out | exact tail8 _ SN.out _ _ _ _ _ _ _ _ _ _ _ _ _ _ _ _ _ _ _ _ _ _ _ _ _ _ _ _ _ _ _ _ _ _ _ _ _ _ _ _ _ _ _ _ _ _ _ _ _ _ _ _ _ _ _ _ _ _ _ _ _ _ _ _ _ _ _ _ _ _ _ _ _ _ _ _ _ _ _ _ _ _ _ _ _ _ _ _ _ _ _ _ _ _ _ _ _ _ _ _ _ _ _ _ _ _ _ _ _ _ _ _ _ _ _ _ _ _ _ _ _ _ _ _ _ _ _ _ _ _ _ _ _ _ _ _ _ _ _ _ _ _ _ _ _ _ _ _ _ _ _ _ _ _ _ _ _ _ _ _ _ _ _ _ _ _ _ _ _ _ _ _ _ _ _ _ _ _ _ _ _ _ _ _ _ _ _ _)
      have hd : okF d = true := by unfold okF; rw [decide_eq_true (show 1 ≤ d by omega), decide_eq_true (show d ≤ 512 by omega)]; rfl
      have j1 : decide (1 ≤ d) = true := decide_eq_true (by omega)
      have j2 : decide (d ≤ 512) = true := decide_eq_true (by omega)
      by_cases hW : W ≤ 8 * a
      case neg =>
        have j3 : decide (W ≤ 8 * a) = false := decide_eq_false hW
        have hbl : okBl W H v a d = false := by unfold okBl; rw [hm, hk, hd, decide_eq_false hW]; rfl
        obtain ⟨e1, e2⟩ := HBN.out hbl
        subst e1
        subst e2
        clear hbl HBN HBY
        go_wp2_with ((with_reducible refine wpl_load_row rtP ?_ (.tmp 6) ?_ (w.heap.size) ?_ 24 (plrow W H A v.length c) ?_ R6.out ?_); rfl; rfl; rfl; rfl; simp only [Act.put, List.setIfInBounds_toArray, List.set_cons_succ, List.set_cons_zero])
        all_goals (first | exact SN.out | exact tail8 _ SN.out _ _ _ _ _ _ _ _ _ _ _ _ _ _ _ _ _ _ _ _ _ _ _ _ _ _ _ _ _ _ _ _ _ _ _ _ _ _ _ _ _ _ _ _ _ _ _ _ _ _ _ _ _ _ _ _ _ _ _ _ _ _ _ _ _ _ _ _ _ _ _ _ _ _ _ _ _ _ _ _ _ _ _ _ _ _ _ _ _ _ _ _ _ _ _ _ _ _ _ _ _ _ _ _ _ _ _ _ _ _ _ _ _ _ _ _ _ _ _ _ _ _ _ _ _ _ _ _ _ _ _ _ _ _ _ _ _ _ _ _ _ _ _ _ _ _ _ _ _ _ _ _ _ _ _ _ _ _ _ _ _ _ _ _ _ _ _ _ _ _ _ _ _ _ _ _ _ _ _ _ _ _ _ _ _ _ _ _)
      by_cases hH : H ≤ 8 * d
      case neg =>
        have j4 : decide (H ≤ 8 * d) = false := decide_eq_false hH
        have hbl : okBl W H v a d = false := by unfold okBl; rw [hm, hk, hd, decide_eq_true hW, decide_eq_false hH]; rfl
        obtain ⟨e1, e2⟩ := HBN.out hbl
        subst e1
        subst e2
        clear hbl HBN HBY
        go_wp2_with ((with_reducible refine wpl_load_row rtP ?_ (.tmp 6) ?_ (w.heap.size) ?_ 24 (plrow W H A v.length c) ?_ R6.out ?_); rfl; rfl; rfl; rfl; simp only [Act.put, List.setIfInBounds_toArray, List.set_cons_succ, List.set_cons_zero])
        all_goals (first | exact SN.out | exact tail8 _ SN.out _ _ _ _ _ _ _ _ _ _ _ _ _ _ _ _ _ _ _ _ _ _ _ _ _ _ _ _ _ _ _ _ _ _ _ _ _ _ _ _ _ _ _ _ _ _ _ _ _ _ _ _ _ _ _ _ _ _ _ _ _ _ _ _ _ _ _ _ _ _ _ _ _ _ _ _ _ _ _ _ _ _ _ _ _ _ _ _ _ _ _ _ _ _ _ _ _ _ _ _ _ _ _ _ _ _ _ _ _ _ _ _ _ _ _ _ _ _ _ _ _ _ _ _ _ _ _ _ _ _ _ _ _ _ _ _ _ _ _ _ _ _ _ _ _ _ _ _ _ _ _ _ _ _ _ _ _ _ _ _ _ _ _ _ _ _ _ _ _ _ _ _ _ _ _ _ _ _ _ _ _ _ _ _ _ _ _ _)
      have hbl : okBl W H v a d = true := by unfold okBl; rw [hm, hk, hd, decide_eq_true hW, decide_eq_true hH]; rfl
      obtain ⟨a', rfl⟩ : ∃ a' : Nat, a = a' := ⟨a.toNat, by omega⟩
      obtain ⟨d', rfl⟩ : ∃ d' : Nat, d = d' := ⟨d.toNat, by omega⟩
      obtain ⟨e1, e2, e3⟩ := HBY.out hbl
      rw [Int.toNat_natCast, Int.toNat_natCast] at e2 e3
      clear HBN HBY hbl
      subst e1
      subst e2
      subst e3
      have hab : a' * d' ≤ 512 * 512 := Nat.mul_le_mul (by omega) (by omega)
      go_wp2_with ((with_reducible refine wpl_load_row rtP ?_ (.tmp 6) ?_ (w.heap.size) ?_ 24 (plrow W H A v.length c) ?_ R6.out ?_); rfl; rfl; rfl; rfl; simp only [Act.put, List.setIfInBounds_toArray, List.set_cons_succ, List.set_cons_zero])
      refine (rblocks_any W H a' d' A c v _ HV.out (by omega) hm (by omega) (by omega)).mono ?_
      rintro e y2 ⟨A9, c9, rfl, hy2_0, hb⟩
      replace R6 := Lib.hid ((hb.block _ (row_lt R6.out)).trans R6.out)
      replace HV := Lib.hid (HV.out.keep hb)
      replace HL := Lib.hid (HL.out.keep hb)
      replace HOP := Lib.hid (HOP.out.keep hb)
      replace HMI := Lib.hid (HMI.out.keep hb)
      replace HBK := Lib.hid (HBK.out.keep hb)
      replace HJQ := Lib.hid (HJQ.out.keep hb)
      replace R17 := Lib.hid ((hb.block _ (row_lt R17.out)).trans R17.out)
      replace HB := Lib.hid (HB.out.trans (hb.mono HB.out.size))
      replace SN := Lib.hid (SN.out.trans (hb.mono SN.out.size))
      have HRB := Lib.hid hy2_0
      clear hy2_0 hb
      go_wp2_with fail
      refine (alike_any A15 A9 (a' * d') (a' * d') c15 c9 _ _ _ HBK.out HRB.out.sl'.2.1 (blF_len _ _) (blF_len _ _) (by omega) (by omega)).mono ?_
      rintro e y3 ⟨rfl, hb⟩
      replace R6 := Lib.hid ((hb.block _ (row_lt R6.out)).trans R6.out)
      replace HV := Lib.hid (HV.out.keep hb)
      replace HL := Lib.hid (HL.out.keep hb)
      replace HOP := Lib.hid (HOP.out.keep hb)
      replace HMI := Lib.hid (HMI.out.keep hb)
      replace HBK := Lib.hid (HBK.out.keep hb)
      replace HJQ := Lib.hid (HJQ.out.keep hb)
      replace R17 := Lib.hid ((hb.block _ (row_lt R17.out)).trans R17.out)
      replace HRB := Lib.hid (HRB.out.keep hb)
      replace HB := Lib.hid (HB.out.trans (hb.mono HB.out.size))
      replace SN := Lib.hid (SN.out.trans (hb.mono SN.out.size))
      clear hb
      rw [decide_eq_true (Eq.refl (blF (blkV W H v a') (a' * d')))]
      go_wp2_with fail
      all_goals (first | exact SN.out | exact tail8 _ SN.out _ _ _ _ _ _ _ _ _ _ _ _ _ _ _ _ _ _ _ _ _ _ _ _ _ _ _ _ _ _ _ _ _ _ _ _ _ _ _ _ _ _ _ _ _ _ _ _ _ _ _ _ _ _ _ _ _ _ _ _ _ _ _ _ _ _ _ _ _ _ _ _ _ _ _ _ _ _ _ _ _ _ _ _ _ _ _ _ _ _ _ _ _ _ _ _ _ _ _ _ _ _ _ _ _ _ _ _ _ _ _ _ _ _ _ _ _ _ _ _ _ _ _ _ _ _ _ _ _ _ _ _ _ _ _ _ _ _ _ _ _ _ _ _ _ _ _ _ _ _ _ _ _ _ _ _ _ _ _ _ _ _ _ _ _ _ _ _ _ _ _ _ _ _ _ _ _ _ _ _ _ _ _ _ _ _ _ _)
    by_cases a1 : a < 1
    · have hk : okF a = false := by unfold okF; rw [decide_eq_false (show ¬ 1 ≤ a by omega)]; rfl
      have j1 : decide (1 ≤ a) = false := decide_eq_false (by omega)
      rw [hk] at tail7
      clear hk
      go_wp2_with fail
      all_goals exact tail7 _ _ _ _ _ _ _ _ _ _ _ _ _ _ _ _ _ _ _ _ _ _ _ _ _ _ _ _ _ _ _ _ _ _ _ _ _ _ _ _ _ _ _ _ _ _ _ _ _ _ _ _ _ _ _ _ _ _ _ _ _ _ _ _ _ _ _ _ _ _ _ _ _ _ _ _ _ _ _ _ _ _ _ _ _ _ _ _ _ _ _ _ _ _ _ _ _ _ _ _ _ _ _ _ _ _ _ _ _ _ _ _ _ _ _ _ _ _ _ _ _ _ _ _ _ _ _ _ _ _ _ _ _ _ _ _ _ _ _ _ _ _ _ _ _ _ _ _ _ _ _ _ _ _ _ _ _ _ _ _ _ _ _ _ _ _ _ _ _ _ _ _ _ _ _ _ _ _ _ _ _ _ _ _ _ _
    by_cases a2 : 512 < a
    · have hk : okF a = false := by unfold okF; rw [decide_eq_false (show ¬ a ≤ 512 by omega), Bool.and_false]
      have j1 : decide (1 ≤ a) = true := decide_eq_true (by omega)
      have j2 : decide (a ≤ 512) = false := decide_eq_false (by omega)
      rw [hk] at tail7
      clear hk
      go_wp2_with fail
      all_goals exact tail7 _ _ _ _ _ _ _ _ _ _ _ _ _ _ _ _ _ _ _ _ _ _ _ _ _ _ _ _ _ _ _ _ _ _ _ _ _ _ _ _ _ _ _ _ _ _ _ _ _ _ _ _ _ _ _ _ _ _ _ _ _ _ _ _ _ _ _ _ _ _ _ _ _ _ _ _ _ _ _ _ _ _ _ _ _ _ _ _ _ _ _ _ _ _ _ _ _ _ _ _ _ _ _ _ _ _ _ _ _ _ _ _ _ _ _ _ _ _ _ _ _ _ _ _ _ _ _ _ _ _ _ _ _ _ _ _ _ _ _ _ _ _ _ _ _ _ _ _ _ _ _ _ _ _ _ _ _ _ _ _ _ _ _ _ _ _ _ _ _ _ _ _ _ _ _ _ _ _ _ _ _ _ _ _ _ _
    · have hk : okF a = true := by unfold okF; rw [decide_eq_true (show 1 ≤ a by omega), decide_eq_true (show a ≤ 512 by omega)]; rfl
      have j1 : decide (1 ≤ a) = true := decide_eq_true (by omega)
      have j2 : decide (a ≤ 512) = true := decide_eq_true (by omega)
      rw [hk] at tail7
      clear hk
      go_wp2_with fail
      all_goals exact tail7 _ _ _ _ _ _ _ _ _ _ _ _ _ _ _ _ _ _ _ _ _ _ _ _ _ _ _ _ _ _ _ _ _ _ _ _ _ _ _ _ _ _ _ _ _ _ _ _ _ _ _ _ _ _ _ _ _ _ _ _ _ _ _ _ _ _ _ _ _ _ _ _ _ _ _ _ _ _ _ _ _ _ _ _ _ _ _ _ _ _ _ _ _ _ _ _ _ _ _ _ _ _ _ _ _ _ _ _ _ _ _ _ _ _ _ _ _ _ _ _ _ _ _ _ _ _ _ _ _ _ _ _ _ _ _ _ _ _ _ _ _ _ _ _ _ _ _ _ _ _ _ _ _ _ _ _ _ _ _ _ _ _ _ _ _ _ _ _ _ _ _ _ _ _ _ _ _ _ _ _ _ _ _ _ _ _
  have k2 := row_cell (v := .slice A v.length c) R6.out 2 rfl
  by_cases c1500 : 1500 < v.length
  · have i1 : (1500 : Int) < (v.length : Int) := by omega
    clear tail1
    go_wp2_with fail
    refine (awake_any _).mono ?_
    rintro e w9 ⟨rfl, hb9⟩
    go_wp2_with fail
    go_ret
    exact ⟨rfl, HB.out.trans (hb9.mono HB.out.size)⟩
  have i1 : (v.length : Int) ≤ 1500 := by omega
  by_cases c40 : 40 < m
  · have i2 : (40 : Int) < (m : Int) := by omega
    clear tail1
    go_wp2_with fail
    refine (awake_any _).mono ?_
    rintro e w9 ⟨rfl, hb9⟩
    go_wp2_with fail
    go_ret
    exact ⟨rfl, HB.out.trans (hb9.mono HB.out.size)⟩
  have i2 : (m : Int) ≤ 40 := by omega
  by_cases c0 : a ≤ 8
  · have j0 : decide (8 < a) = false := decide_eq_false (by omega)
    by_cases c1 : d ≤ 8
    · have j1 : decide (8 < d) = false := decide_eq_false (by omega)
      by_cases c2 : wd ≤ 64
      · have j2 : decide (64 < wd) = false := decide_eq_false (by omega)
        by_cases c3 : ht ≤ 64
        · have j3 : decide (64 < ht) = false := decide_eq_false (by omega)
          clear HV HL HZL R6
          go_wp2_with fail
          all_goals exact tail1 (by omega) (by omega) (.inl c0) (.inl c1) (.inl c2) (.inl c3) _ _ _ _ _ _ _ _ _ _ _ _ _ _ _ _ _ _ _ _ _ _ _ _ _ _ _ _ _ _ _ _ _ _ _ _ _ _ _ _ _ _ _ _ _ _ _ _ _ _ _ _ _ _ _ _ _ _ _ _ _ _ _ _ _ _ _ _ _ _ _ _ _ _ _ _ _ _ _ _ _ _ _ _ _ _ _ _ _ _ _ _ _ _ _ _ _ _ _ _ _ _ _ _ _ _ _ _ _ _ _ _ _ _ _ _ _ _ _ _ _ _ _ _ _ _ _ _ _ _ _ _ _ _ _ _ _ _ _ _ _ _ _ _ _ _ _ _ _ _ _ _ _ _ _ _ _ _ _ _ _ _ _ _ _ _ _ _ _ _ _ _ _ _ _ _ _ _ _ _ _ _ _ _ _ _ _ _ _ _ _ _ _
        by_cases g3 : 4096 < ht
        · have j3 : decide (64 < ht) = true := decide_eq_true (by omega)
          have l3 : decide (ht ≤ 4096) = false := decide_eq_false (by omega)
          clear HV HL HZL R6
          go_wp2_with fail
          all_goals exact tail1 (by omega) (by omega) (.inl c0) (.inl c1) (.inl c2) (.inr g3) _ _ _ _ _ _ _ _ _ _ _ _ _ _ _ _ _ _ _ _ _ _ _ _ _ _ _ _ _ _ _ _ _ _ _ _ _ _ _ _ _ _ _ _ _ _ _ _ _ _ _ _ _ _ _ _ _ _ _ _ _ _ _ _ _ _ _ _ _ _ _ _ _ _ _ _ _ _ _ _ _ _ _ _ _ _ _ _ _ _ _ _ _ _ _ _ _ _ _ _ _ _ _ _ _ _ _ _ _ _ _ _ _ _ _ _ _ _ _ _ _ _ _ _ _ _ _ _ _ _ _ _ _ _ _ _ _ _ _ _ _ _ _ _ _ _ _ _ _ _ _ _ _ _ _ _ _ _ _ _ _ _ _ _ _ _ _ _ _ _ _ _ _ _ _ _ _ _ _ _ _ _ _ _ _ _ _ _ _ _ _ _ _
        · have j3 : decide (64 < ht) = true := decide_eq_true (by omega)
          have l3 : decide (ht ≤ 4096) = true := decide_eq_true (by omega)
          clear tail1
          go_wp2_with fail
          refine (awake_any _).mono ?_
          rintro e w9 ⟨rfl, hb9⟩
          go_wp2_with fail
          go_ret
          exact ⟨rfl, HB.out.trans (hb9.mono HB.out.size)⟩
      by_cases g2 : 4096 < wd
      · have j2 : decide (64 < wd) = true := decide_eq_true (by omega)
        have l2 : decide (wd ≤ 4096) = false := decide_eq_false (by omega)
        by_cases c3 : ht ≤ 64
        · have j3 : decide (64 < ht) = false := decide_eq_false (by omega)
          clear HV HL HZL R6
          go_wp2_with fail
          all_goals exact tail1 (by omega) (by omega) (.inl c0) (.inl c1) (.inr g2) (.inl c3) _ _ _ _ _ _ _ _ _ _ _ _ _ _ _ _ _ _ _ _ _ _ _ _ _ _ _ _ _ _ _ _ _ _ _ _ _ _ _ _ _ _ _ _ _ _ _ _ _ _ _ _ _ _ _ _ _ _ _ _ _ _ _ _ _ _ _ _ _ _ _ _ _ _ _ _ _ _ _ _ _ _ _ _ _ _ _ _ _ _ _ _ _ _ _ _ _ _ _ _ _ _ _ _ _ _ _ _ _ _ _ _ _ _ _ _ _ _ _ _ _ _ _ _ _ _ _ _ _ _ _ _ _ _ _ _ _ _ _ _ _ _ _ _ _ _ _ _ _ _ _ _ _ _ _ _ _ _ _ _ _ _ _ _ _ _ _ _ _ _ _ _ _ _ _ _ _ _ _ _ _ _ _ _ _ _ _ _ _ _ _ _ _
        by_cases g3 : 4096 < ht
        · have j3 : decide (64 < ht) = true := decide_eq_true (by omega)
          have l3 : decide (ht ≤ 4096) = false := decide_eq_false (by omega)
          clear HV HL HZL R6
          go_wp2_with fail
          all_goals exact tail1 (by omega) (by omega) (.inl c0) (.inl c1) (.inr g2) (.inr g3) _ _ _ _ _ _ _ _ _ _ _ _ _ _ _ _ _ _ _ _ _ _ _ _ _ _ _ _ _ _ _ _ _ _ _ _ _ _ _ _ _ _ _ _ _ _ _ _ _ _ _ _ _ _ _ _ _ _ _ _ _ _ _ _ _ _ _ _ _ _ _ _ _ _ _ _ _ _ _ _ _ _ _ _ _ _ _ _ _ _ _ _ _ _ _ _ _ _ _ _ _ _ _ _ _ _ _ _ _ _ _ _ _ _ _ _ _ _ _ _ _ _ _ _ _ _ _ _ _ _ _ _ _ _ _ _ _ _ _ _ _ _ _ _ _ _ _ _ _ _ _ _ _ _ _ _ _ _ _ _ _ _ _ _ _ _ _ _ _ _ _ _ _ _ _ _ _ _ _ _ _ _ _ _ _ _ _ _ _ _ _ _ _
        · have j3 : decide (64 < ht) = true := decide_eq_true (by omega)
          have l3 : decide (ht ≤ 4096) = true := decide_eq_true (by omega)
          clear tail1
          go_wp2_with fail
          refine (awake_any _).mono ?_
          rintro e w9 ⟨rfl, hb9⟩
          go_wp2_with fail
          go_ret
          exact ⟨rfl, HB.out.trans (hb9.mono HB.out.size)⟩
      · have j2 : decide (64 < wd) = true := decide_eq_true (by omega)
        have l2 : decide (wd ≤ 4096) = true := decide_eq_true (by omega)
        clear tail1
        go_wp2_with fail
        refine (awake_any _).mono ?_
        rintro e w9 ⟨rfl, hb9⟩
        go_wp2_with fail
        go_ret
        exact ⟨rfl, HB.out.trans (hb9.mono HB.out.size)⟩
    by_cases g1 : 512 < d
    · have j1 : decide (8 < d) = true := decide_eq_true (by omega)
      have l1 : decide (d ≤ 512) = false := decide_eq_false (by omega)
      by_cases c2 : wd ≤ 64
      · have j2 : decide (64 < wd) = false := decide_eq_false (by omega)
        by_cases c3 : ht ≤ 64
        · have j3 : decide (64 < ht) = false := decide_eq_false (by omega)
          clear HV HL HZL R6
          go_wp2_with fail
          all_goals exact tail1 (by omega) (by omega) (.inl c0) (.inr g1) (.inl c2) (.inl c3) _ _ _ _ _ _ _ _ _ _ _ _ _ _ _ _ _ _ _ _ _ _ _ _ _ _ _ _ _ _ _ _ _ _ _ _ _ _ _ _ _ _ _ _ _ _ _ _ _ _ _ _ _ _ _ _ _ _ _ _ _ _ _ _ _ _ _ _ _ _ _ _ _ _ _ _ _ _ _ _ _ _ _ _ _ _ _ _ _ _ _ _ _ _ _ _ _ _ _ _ _ _ _ _ _ _ _ _ _ _ _ _ _ _ _ _ _ _ _ _ _ _ _ _ _ _ _ _ _ _ _ _ _ _ _ _ _ _ _ _ _ _ _ _ _ _ _ _ _ _ _ _ _ _ _ _ _ _ _ _ _ _ _ _ _ _ _ _ _ _ _ _ _ _ _ _ _ _ _ _ _ _ _ _ _ _ _ _ _ _ _ _ _
        by_cases g3 : 4096 < ht
        · have j3 : decide (64 < ht) = true := decide_eq_true (by omega)
          have l3 : decide (ht ≤ 4096) = false := decide_eq_false (by omega)
          clear HV HL HZL R6
          go_wp2_with fail
          all_goals exact tail1 (by omega) (by omega) (.inl c0) (.inr g1) (.inl c2) (.inr g3) _ _ _ _ _ _ _ _ _ _ _ _ _ _ _ _ _ _ _ _ _ _ _ _ _ _ _ _ _ _ _ _ _ _ _ _ _ _ _ _ _ _ _ _ _ _ _ _ _ _ _ _ _ _ _ _ _ _ _ _ _ _ _ _ _ _ _ _ _ _ _ _ _ _ _ _ _ _ _ _ _ _ _ _ _ _ _ _ _ _ _ _ _ _ _ _ _ _ _ _ _ _ _ _ _ _ _ _ _ _ _ _ _ _ _ _ _ _ _ _ _ _ _ _ _ _ _ _ _ _ _ _ _ _ _ _ _ _ _ _ _ _ _ _ _ _ _ _ _ _ _ _ _ _ _ _ _ _ _ _ _ _ _ _ _ _ _ _ _ _ _ _ _ _ _ _ _ _ _ _ _ _ _ _ _ _ _ _ _ _ _ _ _
        · have j3 : decide (64 < ht) = true := decide_eq_true (by omega)
          have l3 : decide (ht ≤ 4096) = true := decide_eq_true (by omega)
          clear tail1
          go_wp2_with fail
          refine (awake_any _).mono ?_
          rintro e w9 ⟨rfl, hb9⟩
          go_wp2_with fail
          go_ret
          exact ⟨rfl, HB.out.trans (hb9.mono HB.out.size)⟩
      by_cases g2 : 4096 < wd
      · have j2 : decide (64 < wd) = true := decide_eq_true (by omega)
        have l2 : decide (wd ≤ 4096) = false := decide_eq_false (by omega)
        by_cases c3 : ht ≤ 64
        · have j3 : decide (64 < ht) = false := decide_eq_false (by omega)
          clear HV HL HZL R6
          go_wp2_with fail
          all_goals exact tail1 (by omega) (by omega) (.inl c0) (.inr g1) (.inr g2) (.inl c3) _ _ _ _ _ _ _ _ _ _ _ _ _ _ _ _ _ _ _ _ _ _ _ _ _ _ _ _ _ _ _ _ _ _ _ _ _ _ _ _ _ _ _ _ _ _ _ _ _ _ _ _ _ _ _ _ _ _ _ _ _ _ _ _ _ _ _ _ _ _ _ _ _ _ _ _ _ _ _ _ _ _ _ _ _ _ _ _ _ _ _ _ _ _ _ _ _ _ _ _ _ _ _ _ _ _ _ _ _ _ _ _ _ _ _ _ _ _ _ _ _ _ _ _ _ _ _ _ _ _ _ _ _ _ _ _ _ _ _ _ _ _ _ _ _ _ _ _ _ _ _ _ _ _ _ _ _ _ _ _ _ _ _ _ _ _ _ _ _ _ _ _ _ _ _ _ _ _ _ _ _ _ _ _ _ _ _ _ _ _ _ _ _
        by_cases g3 : 4096 < ht
        · have j3 : decide (64 < ht) = true := decide_eq_true (by omega)
          have l3 : decide (ht ≤ 4096) = false := decide_eq_false (by omega)
          clear HV HL HZL R6
          go_wp2_with fail
          all_goals exact tail1 (by omega) (by omega) (.inl c0) (.inr g1) (.inr g2) (.inr g3) _ _ _ _ _ _ _ _ _ _ _ _ _ _ _ _ _ _ _ _ _ _ _ _ _ _ _ _ _ _ _ _ _ _ _ _ _ _ _ _ _ _ _ _ _ _ _ _ _ _ _ _ _ _ _ _ _ _ _ _ _ _ _ _ _ _ _ _ _ _ _ _ _ _ _ _ _ _ _ _ _ _ _ _ _ _ _ _ _ _ _ _ _ _ _ _ _ _ _ _ _ _ _ _ _ _ _ _ _ _ _ _ _ _ _ _ _ _ _ _ _ _ _ _ _ _ _ _ _ _ _ _ _ _ _ _ _ _ _ _ _ _ _ _ _ _ _ _ _ _ _ _ _ _ _ _ _ _ _ _ _ _ _ _ _ _ _ _ _ _ _ _ _ _ _ _ _ _ _ _ _ _ _ _ _ _ _ _ _ _ _ _ _
        · have j3 : decide (64 < ht) = true := decide_eq_true (by omega)
          have l3 : decide (ht ≤ 4096) = true := decide_eq_true (by omega)
          clear tail1
          go_wp2_with fail
          refine (awake_any _).mono ?_
          rintro e w9 ⟨rfl, hb9⟩
          go_wp2_with fail
          go_ret
          exact ⟨rfl, HB.out.trans (hb9.mono HB.out.size)⟩
      · have j2 : decide (64 < wd) = true := decide_eq_true (by omega)
        have l2 : decide (wd ≤ 4096) = true := decide_eq_true (by omega)
        clear tail1
        go_wp2_with fail
        refine (awake_any _).mono ?_
        rintro e w9 ⟨rfl, hb9⟩
        go_wp2_with fail
        go_ret
        exact ⟨rfl, HB.out.trans (hb9.mono HB.out.size)⟩
    · have j1 : decide (8 < d) = true := decide_eq_true (by omega)
      have l1 : decide (d ≤ 512) = true := decide_eq_true (by omega)
      clear tail1
      go_wp2_with fail
      refine (awake_any _).mono ?_
      rintro e w9 ⟨rfl, hb9⟩
      go_wp2_with fail
      go_ret
      exact ⟨rfl, HB.out.trans (hb9.mono HB.out.size)⟩
  by_cases g0 : 512 < a
  · have j0 : decide (8 < a) = true := decide_eq_true (by omega)
    have l0 : decide (a ≤ 512) = false := decide_eq_false (by omega)
    by_cases c1 : d ≤ 8
    · have j1 : decide (8 < d) = false := decide_eq_false (by omega)
      by_cases c2 : wd ≤ 64
      · have j2 : decide (64 < wd) = false := decide_eq_false (by omega)
        by_cases c3 : ht ≤ 64
        · have j3 : decide (64 < ht) = false := decide_eq_false (by omega)
          clear HV HL HZL R6
          go_wp2_with fail
          all_goals exact tail1 (by omega) (by omega) (.inr g0) (.inl c1) (.inl c2) (.inl c3) _ _ _ _ _ _ _ _ _ _ _ _ _ _ _ _ _ _ _ _ _ _ _ _ _ _ _ _ _ _ _ _ _ _ _ _ _ _ _ _ _ _ _ _ _ _ _ _ _ _ _ _ _ _ _ _ _ _ _ _ _ _ _ _ _ _ _ _ _ _ _ _ _ _ _ _ _ _ _ _ _ _ _ _ _ _ _ _ _ _ _ _ _ _ _ _ _ _ _ _ _ _ _ _ _ _ _ _ _ _ _ _ _ _ _ _ _ _ _ _ _ _ _ _ _ _ _ _ _ _ _ _ _ _ _ _ _ _ _ _ _ _ _ _ _ _ _ _ _ _ _ _ _ _ _ _ _ _ _ _ _ _ _ _ _ _ _ _ _ _ _ _ _ _ _ _ _ _ _ _ _ _ _ _ _ _ _ _ _ _ _ _ _
        by_cases g3 : 4096 < ht
        · have j3 : decide (64 < ht) = true := decide_eq_true (by omega)
          have l3 : decide (ht ≤ 4096) = false := decide_eq_false (by omega)
          clear HV HL HZL R6
          go_wp2_with fail
          all_goals exact tail1 (by omega) (by omega) (.inr g0) (.inl c1) (.inl c2) (.inr g3) _ _ _ _ _ _ _ _ _ _ _ _ _ _ _ _ _ _ _ _ _ _ _ _ _ _ _ _ _ _ _ _ _ _ _ _ _ _ _ _ _ _ _ _ _ _ _ _ _ _ _ _ _ _ _ _ _ _ _ _ _ _ _ _ _ _ _ _ _ _ _ _ _ _ _ _ _ _ _ _ _ _ _ _ _ _ _ _ _ _ _ _ _ _ _ _ _ _ _ _ _ _ _ _ _ _ _ _ _ _ _ _ _ _ _ _ _ _ _ _ _ _ _ _ _ _ _ _ _ _ _ _ _ _ _ _ _ _ _ _ _ _ _ _ _ _ _ _ _ _ _ _ _ _ _ _ _ _ _ _ _ _ _ _ _ _ _ _ _ _ _ _ _ _ _ _ _ _ _ _ _ _ _ _ _ _ _ _ _ _ _ _ _
        · have j3 : decide (64 < ht) = true := decide_eq_true (by omega)
          have l3 : decide (ht ≤ 4096) = true := decide_eq_true (by omega)
          clear tail1
          go_wp2_with fail
          refine (awake_any _).mono ?_
          rintro e w9 ⟨rfl, hb9⟩
          go_wp2_with fail
          go_ret
          exact ⟨rfl, HB.out.trans (hb9.mono HB.out.size)⟩
      by_cases g2 : 4096 < wd
      · have j2 : decide (64 < wd) = true := decide_eq_true (by omega)
        have l2 : decide (wd ≤ 4096) = false := decide_eq_false (by omega)
        by_cases c3 : ht ≤ 64
        · have j3 : decide (64 < ht) = false := decide_eq_false (by omega)
          clear HV HL HZL R6
          go_wp2_with fail
          all_goals exact tail1 (by omega) (by omega) (.inr g0) (.inl c1) (.inr g2) (.inl c3) _ _ _ _ _ _ _ _ _ _ _ _ _ _ _ _ _ _ _ _ _ _ _ _ _ _ _ _ _ _ _ _ _ _ _ _ _ _ _ _ _ _ _ _ _ _ _ _ _ _ _ _ _ _ _ _ _ _ _ _ _ _ _ _ _ _ _ _ _ _ _ _ _ _ _ _ _ _ _ _ _ _ _ _ _ _ _ _ _ _ _ _ _ _ _ _ _ _ _ _ _ _ _ _ _ _ _ _ _ _ _ _ _ _ _ _ _ _ _ _ _ _ _ _ _ _ _ _ _ _ _ _ _ _ _ _ _ _ _ _ _ _ _ _ _ _ _ _ _ _ _ _ _ _ _ _ _ _ _ _ _ _ _ _ _ _ _ _ _ _ _ _ _ _ _ _ _ _ _ _ _ _ _ _ _ _ _ _ _ _ _ _ _
        by_cases g3 : 4096 < ht
        · have j3 : decide (64 < ht) = true := decide_eq_true (by omega)
          have l3 : decide (ht ≤ 4096) = false := decide_eq_false (by omega)
          clear HV HL HZL R6
          go_wp2_with fail
          all_goals exact tail1 (by omega) (by omega) (.inr g0) (.inl c1) (.inr g2) (.inr g3) _ _ _ _ _ _ _ _ _ _ _ _ _ _ _ _ _ _ _ _ _ _ _ _ _ _ _ _ _ _ _ _ _ _ _ _ _ _ _ _ _ _ _ _ _ _ _ _ _ _ _ _ _ _ _ _ _ _ _ _ _ _ _ _ _ _ _ _ _ _ _ _ _ _ _ _ _ _ _ _ _ _ _ _ _ _ _ _ _ _ _ _ _ _ _ _ _ _ _ _ _ _ _ _ _ _ _ _ _ _ _ _ _ _ _ _ _ _ _ _ _ _ _ _ _ _ _ _ _ _ _ _ _ _ _ _ _ _ _ _ _ _ _ _ _ _ _ _ _ _ _ _ _ _ _ _ _ _ _ _ _ _ _ _ _ _ _ _ _ _ _ _ _ _ _ _ _ _ _ _ _ _ _ _ _ _ _ _ _ _ _ _ _
        · have j3 : decide (64 < ht) = true := decide_eq_true (by omega)
          have l3 : decide (ht ≤ 4096) = true := decide_eq_true (by omega)
          clear tail1
          go_wp2_with fail
          refine (awake_any _).mono ?_
          rintro e w9 ⟨rfl, hb9⟩
          go_wp2_with fail
          go_ret
          exact ⟨rfl, HB.out.trans (hb9.mono HB.out.size)⟩
      · have j2 : decide (64 < wd) = true := decide_eq_true (by omega)
        have l2 : decide (wd ≤ 4096) = true := decide_eq_true (by omega)
        clear tail1
        go_wp2_with fail
        refine (awake_any _).mono ?_
        rintro e w9 ⟨rfl, hb9⟩
        go_wp2_with fail
        go_ret
        exact ⟨rfl, HB.out.trans (hb9.mono HB.out.size)⟩
    by_cases g1 : 512 < d
    · have j1 : decide (8 < d) = true := decide_eq_true (by omega)
      have l1 : decide (d ≤ 512) = false := decide_eq_false (by omega)
      by_cases c2 : wd ≤ 64
      · have j2 : decide (64 < wd) = false := decide_eq_false (by omega)
        by_cases c3 : ht ≤ 64
        · have j3 : decide (64 < ht) = false := decide_eq_false (by omega)
          clear HV HL HZL R6
          go_wp2_with fail
          all_goals exact tail1 (by omega) (by omega) (.inr g0) (.inr g1) (.inl c2) (.inl c3) _ _ _ _ _ _ _ _ _ _ _ _ _ _ _ _ _ _ _ _ _ _ _ _ _ _ _ _ _ _ _ _ _ _ _ _ _ _ _ _ _ _ _ _ _ _ _ _ _ _ _ _ _ _ _ _ _ _ _ _ _ _ _ _ _ _ _ _ _ _ _ _ _ _ _ _ _ _ _ _ _ _ _ _ _ _ _ _ _ _ _ _ _ _ _ _ _ _ _ _ _ _ _ _ _ _ _ _ _ _ _ _ _ _ _ _ _ _ _ _ _ _ _ _ _ _ _ _ _ _ _ _ _ _ _ _ _ _ _ _ _ _ _ _ _ _ _ _ _ _ _ _ _ _ _ _ _ _ _ _ _ _ _ _ _ _ _ _ _ _ _ _ _ _ _ _ _ _ _ _ _ _ _ _ _ _ _ _ _ _ _ _ _
        by_cases g3 : 4096 < ht
        · have j3 : decide (64 < ht) = true := decide_eq_true (by omega)
          have l3 : decide (ht ≤ 4096) = false := decide_eq_false (by omega)
          clear HV HL HZL R6
          go_wp2_with fail
          all_goals exact tail1 (by omega) (by omega) (.inr g0) (.inr g1) (.inl c2) (.inr g3) _ _ _ _ _ _ _ _ _ _ _ _ _ _ _ _ _ _ _ _ _ _ _ _ _ _ _ _ _ _ _ _ _ _ _ _ _ _ _ _ _ _ _ _ _ _ _ _ _ _ _ _ _ _ _ _ _ _ _ _ _ _ _ _ _ _ _ _ _ _ _ _ _ _ _ _ _ _ _ _ _ _ _ _ _ _ _ _ _ _ _ _ _ _ _ _ _ _ _ _ _ _ _ _ _ _ _ _ _ _ _ _ _ _ _ _ _ _ _ _ _ _ _ _ _ _ _ _ _ _ _ _ _ _ _ _ _ _ _ _ _ _ _ _ _ _ _ _ _ _ _ _ _ _ _ _ _ _ _ _ _ _ _ _ _ _ _ _ _ _ _ _ _ _ _ _ _ _ _ _ _ _ _ _ _ _ _ _ _ _ _ _ _
        · have j3 : decide (64 < ht) = true := decide_eq_true (by omega)
          have l3 : decide (ht ≤ 4096) = true := decide_eq_true (by omega)
          clear tail1
          go_wp2_with fail
          refine (awake_any _).mono ?_
          rintro e w9 ⟨rfl, hb9⟩
          go_wp2_with fail
          go_ret
          exact ⟨rfl, HB.out.trans (hb9.mono HB.out.size)⟩
      by_cases g2 : 4096 < wd
      · have j2 : decide (64 < wd) = true := decide_eq_true (by omega)
        have l2 : decide (wd ≤ 4096) = false := decide_eq_false (by omega)
        by_cases c3 : ht ≤ 64
        · have j3 : decide (64 < ht) = false := decide_eq_false (by omega)
          clear HV HL HZL R6
          go_wp2_with fail
          all_goals exact tail1 (by omega) (by omega) (.inr g0) (.inr g1) (.inr g2) (.inl c3) _ _ _ _ _ _ _ _ _ _ _ _ _ _ _ _ _ _ _ _ _ _ _ _ _ _ _ _ _ _ _ _ _ _ _ _ _ _ _ _ _ _ _ _ _ _ _ _ _ _ _ _ _ _ _ _ _ _ _ _ _ _ _ _ _ _ _ _ _ _ _ _ _ _ _ _ _ _ _ _ _ _ _ _ _ _ _ _ _ _ _ _ _ _ _ _ _ _ _ _ _ _ _ _ _ _ _ _ _ _ _ _ _ _ _ _ _ _ _ _ _ _ _ _ _ _ _ _ _ _ _ _ _ _ _ _ _ _ _ _ _ _ _ _ _ _ _ _ _ _ _ _ _ _ _ _ _ _ _ _ _ _ _ _ _ _ _ _ _ _ _ _ _ _ _ _ _ _ _ _ _ _ _ _ _ _ _ _ _ _ _ _ _
        by_cases g3 : 4096 < ht
        · have j3 : decide (64 < ht) = true := decide_eq_true (by omega)
          have l3 : decide (ht ≤ 4096) = false := decide_eq_false (by omega)
          clear HV HL HZL R6
          go_wp2_with fail
          all_goals exact tail1 (by omega) (by omega) (.inr g0) (.inr g1) (.inr g2) (.inr g3) _ _ _ _ _ _ _ _ _ _ _ _ _ _ _ _ _ _ _ _ _ _ _ _ _ _ _ _ _ _ _ _ _ _ _ _ _ _ _ _ _ _ _ _ _ _ _ _ _ _ _ _ _ _ _ _ _ _ _ _ _ _ _ _ _ _ _ _ _ _ _ _ _ _ _ _ _ _ _ _ _ _ _ _ _ _ _ _ _ _ _ _ _ _ _ _ _ _ _ _ _ _ _ _ _ _ _ _ _ _ _ _ _ _ _ _ _ _ _ _ _ _ _ _ _ _ _ _ _ _ _ _ _ _ _ _ _ _ _ _ _ _ _ _ _ _ _ _ _ _ _ _ _ _ _ _ _ _ _ _ _ _ _ _ _ _ _ _ _ _ _ _ _ _ _ _ _ _ _ _ _ _ _ _ _ _ _ _ _ _ _ _ _
        · have j3 : decide (64 < ht) = true := decide_eq_true (by omega)
          have l3 : decide (ht ≤ 4096) = true := decide_eq_true (by omega)
          clear tail1
          go_wp2_with fail
          refine (awake_any _).mono ?_
          rintro e w9 ⟨rfl, hb9⟩
          go_wp2_with fail
          go_ret
          exact ⟨rfl, HB.out.trans (hb9.mono HB.out.size)⟩
      · have j2 : decide (64 < wd) = true := decide_eq_true (by omega)
        have l2 : decide (wd ≤ 4096) = true := decide_eq_true (by omega)
        clear tail1
        go_wp2_with fail
        refine (awake_any _).mono ?_
        rintro e w9 ⟨rfl, hb9⟩
        go_wp2_with fail
        go_ret
        exact ⟨rfl, HB.out.trans (hb9.mono HB.out.size)⟩
    · have j1 : decide (8 < d) = true := decide_eq_true (by omega)
      have l1 : decide (d ≤ 512) = true := decide_eq_true (by omega)
      clear tail1
      go_wp2_with fail
      refine (awake_any _).mono ?_
      rintro e w9 ⟨rfl, hb9⟩
      go_wp2_with fail
      go_ret
      exact ⟨rfl, HB.out.trans (hb9.mono HB.out.size)⟩
  · have j0 : decide (8 < a) = true := decide_eq_true (by omega)
    have l0 : decide (a ≤ 512) = true := decide_eq_true (by omega)
    clear tail1
    go_wp2_with fail
    refine (awake_any _).mono ?_
    rintro e w9 ⟨rfl, hb9⟩
    go_wp2_with fail
    go_ret
    exact ⟨rfl, HB.out.trans (hb9.mono HB.out.size)⟩
end Go.Proofs.Ytajobboldjgidaa
