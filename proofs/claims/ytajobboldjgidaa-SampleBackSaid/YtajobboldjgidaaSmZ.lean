/- SampleFlat: the walk. -/
import Derived.Test.YtajobboldjgidaaSmY
import Derived.Test.YtajobboldjgidaaClD
namespace Go.Proofs.Ytajobboldjgidaa
open Go.RowKit
open Go.Tin
set_option linter.unusedVariables false
set_option linter.unusedSimpArgs false


theorem pl_short2 {l : List Int} {wd ht h s : Nat} (hw : wd ≤ 4096) (hh : ht ≤ 4096) (h1 : 1 ≤ h ∧ h ≤ 2) (s1 : 1 ≤ s ∧ s ≤ 2) : ∀ p ∈ plL l wd ht h s 3, p.v.length ≤ 1000000000 := by
  have key : ∀ c, (plO l wd ht h s c).v.length ≤ 1000000000 := by
    intro c
    unfold plO
    split
    · show (grid _ wd ht).length ≤ _
      rw [grid_len]
      have := Nat.mul_le_mul hw hh
      omega
    · show (grid _ (ptN wd h) (ptN ht s)).length ≤ _
      rw [grid_len]
      have e1 : ptN wd h ≤ 4097 := by unfold ptN; have : h = 1 ∨ h = 2 := by omega
                                      rcases this with rfl | rfl <;> omega
      have e2 : ptN ht s ≤ 4097 := by unfold ptN; have : s = 1 ∨ s = 2 := by omega
                                      rcases this with rfl | rfl <;> omega
      have := Nat.mul_le_mul e1 e2
      omega
  intro p hp
  simp only [plL, List.nil_append, List.cons_append, List.mem_cons, List.not_mem_nil, or_false] at hp
  rcases hp with rfl | rfl | rfl <;> exact key _
theorem sl_low {k : IntKind} {w w' : World} {b o : Nat} {l : List Int} {B : Nat} (h : Sl k w (some ⟨b, o, none⟩) l) (hh : ∀ i, i < B → w'.heap[i]? = w.heap[i]?) (hz : B ≤ w'.heap.size) (hb : b < B := by omega) : Sl k w' (some ⟨b, o, none⟩) l := by
  rcases h with h | ⟨b', o', he, hlt, hc⟩
  · exact .inl h
  · injection he with he
    injection he with e1 e2 _
    subst e1; subst e2
    refine .inr ⟨b, o, rfl, Nat.lt_of_lt_of_le hb hz, fun i hi => ?_⟩
    rw [← hc i hi]
    unfold World.cell?
    simp only [hh b hb]
theorem planes_n (k : Int) (wd ht h s n : Nat) (l : List Int) (A : Option Addr) (c : Nat) (w : World) (hn : l.length = n) (hs : Sl .u8 w A l) (hlc : n ≤ c) (hby : Byts l) (hl : n ≤ 900000) (hk : okK k = true) (hmb : mayB (wd : Int) (ht : Int) n = true) (hfx : fH k = (h : Int)) (hfy : fV k = (s : Int)) :
    Calls Try.prog 27 #[rsA (wd : Int) (ht : Int) A n c, .int .i64 k] w fun e w' => ∃ A' c' xs, e = .returned (.tuple #[.slice A' 3 c', .int .i64 0]) ∧ OwnV 24 3 w' w.heap.size (.slice A' 3 c') 3 xs ∧ PnV (fun v d => Own .i64 3 w' w.heap.size v d) xs (plL l wd ht h s 3) ∧ Below w.heap.size w w' := by
  subst hn
  exact planes_yes k wd ht h s l A c w hs hlc hby hl hk hmb hfx hfy
theorem repT_mem {z : List Int} : ∀ n x, x ∈ repT z n → x ∈ z
  | 0, x, h => by simp [repT] at h
  | n + 1, x, h => by
    rw [repT, List.mem_append] at h
    rcases h with h | h
    · exact repT_mem n x h
    · exact h
theorem repT_byts {z : List Int} (hz : ∀ x ∈ z, 0 ≤ x ∧ x < 256) (n : Nat) : Byts (repT z n) := by
  intro j
  unfold nth
  rw [List.getD_eq_getElem?_getD]
  by_cases hj : j < (repT z n).length
  · rw [List.getElem?_eq_getElem hj]
    exact hz _ (repT_mem n _ (List.getElem_mem hj))
  · rw [List.getElem?_eq_none (by omega)]
    decide
theorem repT_at {z : List Int} (hz : z.length = 3) {N j : Nat} (hj : j < 3 * N) : nth (repT z N) j = nth z (j % 3) := by
  have h := repT_nth hz (k := j / 3) (j := j % 3) (Nat.mod_lt _ (by decide)) N (by omega)
  rwa [Nat.div_add_mod] at h
/-- The bytes of a flat picture's own picture. -/
def flatT (z : List Int) : List Int := [paiR (lumZ z 0) (lumZ z 1) (lumZ z 2), paiG (lumZ z 0) (lumZ z 1) (lumZ z 2), paiB (lumZ z 0) (lumZ z 1) (lumZ z 2)]
theorem flat_near {z : List Int} (hz : ∀ x ∈ z, 0 ≤ x ∧ x < 256) (h3 : z.length = 3) {m : Nat} (hm : m < 3) : (0 ≤ nth z m ∧ nth z m ≤ 255) ∧ (0 ≤ nth (flatT z) m ∧ nth (flatT z) m ≤ 255) ∧ nth (flatT z) m - nth z m ≤ 1 ∧ nth z m - nth (flatT z) m ≤ 1 := by
  obtain ⟨a, b, c, rfl⟩ : ∃ a b c, z = [a, b, c] := by
    match z, h3 with
    | [a, b, c], _ => exact ⟨a, b, c, rfl⟩
  have ha := hz a (by simp)
  have hb := hz b (by simp)
  have hc := hz c (by simp)
  have hk := back_ok a b c ha.1 (by omega) hb.1 (by omega) hc.1 (by omega)
  have hp := pai_bd (lumY a b c) (lumB a b c) (lumR a b c)
  have : m = 0 ∨ m = 1 ∨ m = 2 := by omega
  rcases this with rfl | rfl | rfl
  · exact ⟨⟨ha.1, by show a ≤ 255; omega⟩, hp.1, hk.1.1, hk.1.2⟩
  · exact ⟨⟨hb.1, by show b ≤ 255; omega⟩, hp.2.1, hk.2.1.1, hk.2.1.2⟩
  · exact ⟨⟨hc.1, by show c ≤ 255; omega⟩, hp.2.2, hk.2.2.1, hk.2.2.2⟩
theorem flat_pix {z : List Int} (hz : z.length = 3) {k : Int} {wd ht h s : Nat} (hw : 1 ≤ wd ∧ wd ≤ 4096) (hh : 1 ≤ ht ∧ ht ≤ 4096) (hk : okK k = true) (hfx : fH k = (h : Int)) (hfy : fV k = (s : Int)) :
    gridT (pixV (wd : Int) (ht : Int) (grid (pcV (repT z (wd * ht)) wd 0) wd ht) (plO (repT z (wd * ht)) wd ht h s 1).W (plO (repT z (wd * ht)) wd ht h s 1).H (plO (repT z (wd * ht)) wd ht h s 1).v (plO (repT z (wd * ht)) wd ht h s 2).v (fH k) (fV k)) wd ht = repT (flatT z) (wd * ht) := by
  obtain ⟨⟨x0, x1⟩, y0, y1⟩ := fHV_bd hk
  rw [hfx] at x0 x1
  rw [hfy] at y0 y1
  have h1 : 1 ≤ h ∧ h ≤ 2 := by omega
  have s1 : 1 ≤ s ∧ s ≤ 2 := by omega
  have hg : ∀ c, grid (pcV (repT z (wd * ht)) wd c) wd ht = List.replicate (wd * ht) (lumZ z c) := fun c =>
    grid_const (fun x y hx hy => flat_lum hz (by
      have h1 : (y + 1) * wd ≤ ht * wd := Nat.mul_le_mul_right wd (by omega)
      rw [Nat.succ_mul, Nat.mul_comm ht wd] at h1
      omega) c) ht (Nat.le_refl _)
  have hd : ∀ c, c ≠ 0 → plO (repT z (wd * ht)) wd ht h s c = ⟨(ptN wd h : Nat), (ptN ht s : Nat), List.replicate (ptN wd h * ptN ht s) (lumZ z c)⟩ := by
    intro c hc
    unfold plO
    rw [if_neg hc, hg c, grid_const (fun x y _ _ => dn_const hw hh h1 s1 x y) _ (Nat.le_refl _)]
  rw [hd 1 (by decide), hd 2 (by decide), hg 0, hfx, hfy]
  refine gridT_const (fun x y hx hy => ?_) ht (Nat.le_refl _)
  unfold pixV flatT
  have e0 := near_const (K := lumZ z 0) hw hh (x := (x : Int)) (y := (y : Int)) (by omega) (by omega)
  have e1 := fun K => near_const (K := K) (ptN_bd hw h1) (ptN_bd hh s1) (x := (x : Int) / (h : Int)) (y := (y : Int) / (s : Int)) (Int.ediv_nonneg (by omega) (by omega)) (Int.ediv_nonneg (by omega) (by omega))
  rw [e0, e1, e1]
/-- The three planes of a flat picture, in memory. -/
theorem flat_at {w : World} {A : Option Addr} {z : List Int} (hz : z.length = 3) {wd ht h s : Nat} (hw : 1 ≤ wd ∧ wd ≤ 4096) (hh : 1 ≤ ht ∧ ht ≤ 4096) (h1 : 1 ≤ h ∧ h ≤ 2) (s1 : 1 ≤ s ∧ s ≤ 2) (hp : PlS w A (plL (repT z (wd * ht)) wd ht h s 3)) :
    ∃ b off, A = some ⟨b, off, none⟩ ∧ b < w.heap.size ∧ ∀ i, i < 3 → ∃ n c1 bi oi K, 1 ≤ n ∧ n ≤ 1000000000 ∧ bi < w.heap.size ∧ w.cell? ⟨b, off + i * 3 + 2, none⟩ = some (.slice (some ⟨bi, oi, none⟩) n c1) ∧ ∀ j, j < n → w.cell? ⟨bi, oi + j, none⟩ = some (.int .i64 K) := by
  obtain ⟨b, off, rfl, hb, hc⟩ := hp.at_ (by rw [plL_len]; decide)
  refine ⟨b, off, rfl, hb, fun i hi => ?_⟩
  obtain ⟨x, y, d, A1, c1, hx, _, _, h2, _, hpt⟩ := hc i (by rw [plL_len]; exact hi)
  obtain ⟨n, hn, hd⟩ := flat_pl hz hw hh h1 s1 i
  have e : plO (repT z (wd * ht)) wd ht h s i = ⟨x, y, d⟩ := by
    have : i = 0 ∨ i = 1 ∨ i = 2 := by omega
    rcases this with rfl | rfl | rfl <;> exact Option.some.inj hx
  rw [e] at hd
  dsimp only at hd
  subst hd
  rw [List.length_replicate] at h2
  obtain ⟨_, hsl, _, hle⟩ := hpt.sl
  rw [List.length_replicate] at hle
  obtain ⟨bi, oi, rfl, hbi, hcell⟩ := hsl.at_ (by rw [List.length_replicate]; omega)
  refine ⟨n, c1, bi, oi, lumZ z i, hn, hle, hbi, h2, fun j hj => ?_⟩
  rw [hcell j (by rw [List.length_replicate]; exact hj)]
  simp [List.getD_eq_getElem?_getD, List.getElem?_replicate, hj]
set_option maxRecDepth 100000 in
set_option maxHeartbeats 16000000 in
theorem sflat_any (z : List Int) (W H k : Int) (w : World) (hz : z.length = 3) (wz : ∀ x ∈ z, (Lit.int .u8 x).wf = true) (wW : (Lit.int .i64 W).wf = true) (wH : (Lit.int .i64 H).wf = true) (wk : (Lit.int .i64 k).wf = true) :
    Calls Try.prog 6 #[.agg (arr .u8 z), .int .i64 W, .int .i64 H, .int .i64 k] w fun e w' => e = .returned (.bool true) ∧ Below w.heap.size w w' := by
  clear wW wH wk
  have hzb : ∀ x ∈ z, 0 ≤ x ∧ x < 256 := fun x hx => by have := Go.bounds_u8 (wz x hx); omega
  have HZB := Lib.hid hzb
  have HZ3 := Lib.hid hz
  clear hzb wz hz
  by_cases g0 : W < 1
  · go_enter Try.func6, Try.ntmps6
    go_wp2_with fail
    refine (awake_any _).mono ?_
    rintro e w9 ⟨rfl, hb9⟩
    go_wp2_with fail
    go_ret
    exact ⟨rfl, (ba (brefl w) _).trans (hb9.mono (by simp))⟩
  by_cases g1 : H < 1
  · go_enter Try.func6, Try.ntmps6
    go_wp2_with fail
    refine (awake_any _).mono ?_
    rintro e w9 ⟨rfl, hb9⟩
    go_wp2_with fail
    go_ret
    exact ⟨rfl, (ba (brefl w) _).trans (hb9.mono (by simp))⟩
  by_cases g2 : 20 < W
  · go_enter Try.func6, Try.ntmps6
    go_wp2_with fail
    refine (awake_any _).mono ?_
    rintro e w9 ⟨rfl, hb9⟩
    go_wp2_with fail
    go_ret
    exact ⟨rfl, (ba (brefl w) _).trans (hb9.mono (by simp))⟩
  by_cases g3 : 20 < H
  · go_enter Try.func6, Try.ntmps6
    go_wp2_with fail
    refine (awake_any _).mono ?_
    rintro e w9 ⟨rfl, hb9⟩
    go_wp2_with fail
    go_ret
    exact ⟨rfl, (ba (brefl w) _).trans (hb9.mono (by simp))⟩
  by_cases g4 : k < 1
  · go_enter Try.func6, Try.ntmps6
    go_wp2_with fail
    refine (awake_any _).mono ?_
    rintro e w9 ⟨rfl, hb9⟩
    go_wp2_with fail
    go_ret
    exact ⟨rfl, (ba (brefl w) _).trans (hb9.mono (by simp))⟩
  by_cases g5 : 3 < k
  · go_enter Try.func6, Try.ntmps6
    go_wp2_with fail
    refine (awake_any _).mono ?_
    rintro e w9 ⟨rfl, hb9⟩
    go_wp2_with fail
    go_ret
    exact ⟨rfl, (ba (brefl w) _).trans (hb9.mono (by simp))⟩
  have hk : okK k = true := by unfold okK; rw [decide_eq_true (show 1 ≤ k by omega), decide_eq_true (show k ≤ 3 by omega)]; rfl
  obtain ⟨⟨x0, x1⟩, y0, y1⟩ := fHV_bd hk
  obtain ⟨h, hfx⟩ : ∃ n : Nat, fH k = (n : Int) := ⟨(fH k).toNat, by omega⟩
  obtain ⟨s, hfy⟩ : ∃ n : Nat, fV k = (n : Int) := ⟨(fV k).toNat, by omega⟩
  have h1 : 1 ≤ h ∧ h ≤ 2 := by omega
  have s1 : 1 ≤ s ∧ s ≤ 2 := by omega
  obtain ⟨wd, rfl⟩ : ∃ n : Nat, W = (n : Int) := ⟨W.toNat, by omega⟩
  obtain ⟨ht, rfl⟩ : ∃ n : Nat, H = (n : Int) := ⟨H.toNat, by omega⟩
  have w1 : 1 ≤ wd := by omega
  have w20 : wd ≤ 20 := by omega
  have t1 : 1 ≤ ht := by omega
  have t20 : ht ≤ 20 := by omega
  obtain ⟨N, hN⟩ : ∃ N, wd * ht = N := ⟨_, rfl⟩
  have hN1 : 1 ≤ N := by rw [← hN]; exact Nat.mul_pos w1 t1
  have hN4 : N ≤ 400 := by rw [← hN]; exact Nat.mul_le_mul w20 t20
  have hNe : (wd : Int) * (ht : Int) = (N : Int) := by rw [← hN]; exact (Int.natCast_mul wd ht).symm
  have m0 : 0 ≤ (wd : Int) * (ht : Int) := by omega
  have m1 : (wd : Int) * (ht : Int) ≤ 400 := by omega
  have HK := Lib.hid hk
  have HFX := Lib.hid hfx
  have HFY := Lib.hid hfy
  have HH1 := Lib.hid h1
  have HS1 := Lib.hid s1
  have HN := Lib.hid hN
  have HNE := Lib.hid hNe
  have HOKP := Lib.hid (okPt_pl (repT z N) hk hfx hfy (wd := wd) (ht := ht) (by omega) (by omega))
  have HMB := Lib.hid (show mayB (wd : Int) (ht : Int) (3 * N) = true by
    unfold mayB okS
    rw [decide_eq_true (show (1 : Int) ≤ (wd : Int) by omega), decide_eq_true (show (wd : Int) ≤ 4096 by omega), decide_eq_true (show (1 : Int) ≤ (ht : Int) by omega), decide_eq_true (show (ht : Int) ≤ 4096 by omega), Int.mul_assoc, hNe]
    simp)
  have HPL := Lib.hid (pl_short2 (l := repT z N) (wd := wd) (ht := ht) (h := h) (s := s) (by omega) (by omega) h1 s1)
  clear hk hfx hfy h1 s1 x0 x1 y0 y1 hN hNe
  obtain ⟨r0, r1, hb, hz2⟩ := alloc2 w (.cells (arr .u8 z) 63) (.cells (rsrow (wd : Int) (ht : Int) none 0 0) 44)
  have hsz : Sl .u8 (w.alloc (.cells (arr .u8 z) 63)) (some ⟨w.heap.size, 0, none⟩) z := Sl.new_ w _ _ _ arr_toList
  have HZ := Lib.hid (hsz.keep (ba (brefl _) (.cells (rsrow (wd : Int) (ht : Int) none 0 0) 44)))
  have R9 := Lib.hid r1
  have HB := Lib.hid hb
  have HO := Lib.hid (Own.nil_ .u8 5 ((w.alloc (.cells (arr .u8 z) 63)).alloc (.cells (rsrow (wd : Int) (ht : Int) none 0 0) 44)) (w.heap.size + 2))
  have HSZ := Lib.hid (Nat.le_of_eq hz2.symm)
  clear r0 r1 hb hz2 hsz
  go_enter Try.func6, Try.ntmps6
  go_wp2_with fail
  generalize ((w.alloc (.cells (arr .u8 z) 63)).alloc (.cells (rsrow (wd : Int) (ht : Int) none 0 0) 44)) = v0 at *
  go_loopw [10] (fun s10 wr => ∃ (i : Nat) (A1 : Option Addr) (n c1 : Nat), i ≤ N ∧ s10 = .int .i64 (i : Int) ∧ wr.heap[w.heap.size + 1]? = some (.cells (rsrow (wd : Int) (ht : Int) A1 n c1) 44 (0, 0)) ∧ Sl .u8 wr (some ⟨w.heap.size, 0, none⟩) z ∧ Own .u8 5 wr (w.heap.size + 2) (.slice A1 n c1) (repT z i) ∧ Below w.heap.size w wr ∧ w.heap.size + 2 ≤ wr.heap.size) (fun s10 _ => N - (intOf s10).toNat)
  case atStart => exact ⟨0, none, 0, 0, by omega, rfl, R9.out, HZ.out, HO.out, HB.out, HSZ.out⟩
  case round =>
    clear R9 HZ HO HB HSZ
    obtain ⟨i, A1, n, c1, hi, rfl, hr9, hzz, ho, hb, hgs⟩ := hrel
    have R9 := Lib.hid hr9
    have HZ := Lib.hid hzz
    have HO := Lib.hid ho
    have HB := Lib.hid hb
    clear hr9 hzz ho hb
    by_cases hiN : i < N
    case neg =>
      obtain rfl : i = N := by omega
      have i1 : ¬ (i : Int) < (wd : Int) * (ht : Int) := by rw [HNE.out]; omega
      have hl3 : (repT z i).length = 3 * i := repT_len HZ3.out i
      have HL3 := Lib.hid hl3
      have hn3 := HO.out.sl'.1
      rw [hl3] at hn3
      subst hn3
      clear hl3 HZ
      have hcap : 3 * i ≤ c1 := by obtain ⟨_, _, he, _, h2, _⟩ := HO.out.sl; injection he with _ _ e3; subst e3; rw [HL3.out] at h2; exact h2
      go_wp2_with ((with_reducible refine wpl_load_row rtR ?_ (.tmp 9) ?_ (w.heap.size + 1) ?_ 44 (rsrow (wd : Int) (ht : Int) A1 (3 * i) c1) ?_ R9.out ?_); rfl; rfl; rfl; rfl; simp only [Act.put, List.setIfInBounds_toArray, List.set_cons_succ, List.set_cons_zero])
      refine (planes_n k wd ht h s (3 * i) (repT z i) A1 c1 _ HL3.out HO.out.sl'.2 hcap (repT_byts HZB.out i) (by omega) HK.out HMB.out HFX.out HFY.out).mono ?_
      rintro e p1 ⟨A11, c11, xs11, rfl, hp1_0, hp1_1, hb⟩
      replace R9 := Lib.hid ((hb.block _ (row_lt R9.out)).trans R9.out)
      replace HO := Lib.hid (HO.out.keep hb)
      replace HB := Lib.hid (HB.out.trans (hb.mono HB.out.size))
      have HO11 := Lib.hid hp1_0
      have HN11 := Lib.hid hp1_1
      clear hp1_0 hp1_1 hb
      have hc11 : 3 ≤ c11 := HO11.out.sl'.2.2.1
      have hpls := PlS.own HO11.out HN11.out HPL.out
      have HP := Lib.hid hpls
      rw [show plL (repT z i) wd ht h s 3 = [plO (repT z i) wd ht h s 0, plO (repT z i) wd ht h s 1, plO (repT z i) wd ht h s 2] from rfl] at hpls
      have HP3 := Lib.hid hpls
      clear hpls HO11 HN11
      go_wp2_with fail
      refine (paint_yes k wd ht (grid (pcV (repT z i) wd 0) wd ht) (plO (repT z i) wd ht h s 1) (plO (repT z i) wd ht h s 2) A11 c11 _ HP3.out hc11 HOKP.out).mono ?_
      rintro e p2 ⟨A13, c13, rfl, hp2_0, hb⟩
      replace R9 := Lib.hid ((hb.block _ (row_lt R9.out)).trans R9.out)
      replace HO := Lib.hid (HO.out.keep hb)
      replace HP := Lib.hid (HP.out.keep hb)
      replace HP3 := Lib.hid (HP3.out.keep hb)
      replace HB := Lib.hid (HB.out.trans (hb.mono HB.out.size))
      have HO13 := Lib.hid hp2_0
      clear hp2_0 hb
      rw [HN.out] at HO13
      try rw [HN.out]
      have hb := ba (brefl p2) (.cells (rsrow (wd : Int) (ht : Int) A13 (3 * i) c13) 44)
      have R13 := Lib.hid (heap_alloc_new p2 (.cells (rsrow (wd : Int) (ht : Int) A13 (3 * i) c13) 44))
      replace R9 := Lib.hid ((hb.block _ (row_lt R9.out)).trans R9.out)
      replace HO := Lib.hid (HO.out.keep hb)
      replace HP := Lib.hid (HP.out.keep hb)
      replace HP3 := Lib.hid (HP3.out.keep hb)
      replace HO13 := Lib.hid (HO13.out.keep hb)
      replace HB := Lib.hid (HB.out.trans (hb.mono HB.out.size))
      clear hb
      have k9 := row_cell (v := .slice A1 (3 * i) c1) R9.out 2 rfl
      clear HP3 HMB HOKP
      go_wp2_with fail
      clear k9
      generalize (p2.alloc (.cells (rsrow (wd : Int) (ht : Int) A13 (3 * i) c13) 44)) = q0 at *
      obtain ⟨G13, hG13⟩ : ∃ G, G = p2.heap.size := ⟨_, rfl⟩
      rw [← hG13] at R13 ⊢
      clear hG13
      obtain ⟨bp, op, rfl, hbp, hpl⟩ := flat_at HZ3.out (wd := wd) (ht := ht) (h := h) (s := s) (by omega) (by omega) HH1.out HS1.out (by rw [HN.out]; exact HP.out)
      have HPL2 := Lib.hid hpl
      clear hpl HP
      go_loopw [15] (fun s15 wr => ∃ (j : Nat), j ≤ 3 ∧ s15 = .int .i64 (j : Int) ∧ Below q0.heap.size q0 wr) (fun s15 _ => 3 - (intOf s15).toNat)
      case atStart => exact ⟨0, by omega, rfl, Below.refl _ _⟩
      case round =>
        obtain ⟨j, hj, rfl, hbj⟩ := hrel
        have HBJ := Lib.hid hbj
        clear hbj
        by_cases hj3 : j < 3
        case neg =>
          obtain rfl : j = 3 := by omega
          rw [show ((3 : Nat) : Int) = 3 from rfl]
          replace R9 := Lib.hid ((HBJ.out.block _ (row_lt R9.out)).trans R9.out)
          replace R13 := Lib.hid ((HBJ.out.block _ (row_lt R13.out)).trans R13.out)
          replace HO := Lib.hid (HO.out.keep HBJ.out)
          replace HO13 := Lib.hid (HO13.out.keep HBJ.out)
          replace HB := Lib.hid (HB.out.trans (HBJ.out.mono HB.out.size))
          clear HBJ HPL2
          go_wp2_with fail
          have hfl : gridT (pixV (wd : Int) (ht : Int) (grid (pcV (repT z i) wd 0) wd ht) (plO (repT z i) wd ht h s 1).W (plO (repT z i) wd ht h s 1).H (plO (repT z i) wd ht h s 1).v (plO (repT z i) wd ht h s 2).v (fH k) (fV k)) wd ht = repT (flatT z) i := by
            rw [← HN.out]
            exact flat_pix HZ3.out (by omega) (by omega) HK.out HFX.out HFY.out
          rw [hfl] at HO13
          clear hfl
          obtain ⟨b9, o9, rfl, hb9, hc9⟩ := (HO.out.sl'.2).at_ (by rw [HL3.out]; omega)
          obtain ⟨b13, o13, rfl, hb13, hc13⟩ := (HO13.out.sl'.2).at_ (by rw [repT_len rfl]; omega)
          have HC9 := Lib.hid (fun m (hm : m < 3 * i) => show wr.cell? ⟨b9, o9 + m, none⟩ = some (.int .u8 (nth z (m % 3))) by rw [← repT_at HZ3.out hm]; exact hc9 m (by rw [HL3.out]; exact hm))
          have HC13 := Lib.hid (fun m (hm : m < 3 * i) => show wr.cell? ⟨b13, o13 + m, none⟩ = some (.int .u8 (nth (flatT z) (m % 3))) by rw [← repT_at rfl hm]; exact hc13 m (by rw [repT_len rfl]; exact hm))
          have HNR := Lib.hid (fun m (hm : m < 3) => flat_near HZB.out HZ3.out hm)
          clear hc9 hc13 HO HO13
          obtain ⟨w8, rfl⟩ : ∃ w8, w8 = wr := ⟨_, rfl⟩
          go_loopw [17] (fun s17 wr => ∃ (m : Nat), m ≤ 3 * i ∧ s17 = .int .i64 (m : Int) ∧ Below w8.heap.size w8 wr) (fun s17 _ => 3 * i - (intOf s17).toNat)
          case atStart => exact ⟨0, by omega, rfl, Below.refl _ _⟩
          case round =>
            obtain ⟨m, hm, rfl, hbj⟩ := hrel
            have HBJ := Lib.hid hbj
            clear hbj
            have R9c := Lib.hid ((HBJ.out.block _ (row_lt R9.out)).trans R9.out)
            have k9 := row_cell (v := .slice (some ⟨b9, o9, none⟩) (3 * i) c1) R9c.out 2 rfl
            by_cases hmn : m < 3 * i
            case neg =>
              obtain rfl : m = 3 * i := by omega
              replace HB := Lib.hid (HB.out.trans (HBJ.out.mono HB.out.size))
              go_wp2_with fail
              refine (awake_any _).mono ?_
              rintro e w9 ⟨rfl, hb9⟩
              go_wp2_with fail
              go_ret
              exact ⟨rfl, HB.out.trans (hb9.mono HB.out.size)⟩
            have i2 : (m : Int) < ((3 * i : Nat) : Int) := by omega
            obtain ⟨⟨z0, z1⟩, ⟨t0, t1⟩, d0, d1⟩ := HNR.out (m % 3) (Nat.mod_lt _ (by decide))
            have c9 := HC9.out m hmn
            have c13 := HC13.out m hmn
            have c13b := HC13.out (m % 3) (by omega)
            rw [Nat.mod_mod] at c13b
            obtain ⟨mm, hmm⟩ : ∃ mm, m % 3 = mm := ⟨_, rfl⟩
            rw [hmm] at z0 z1 t0 t1 d0 d1 c9 c13 c13b
            have e3 : (m : Int) % 3 = (mm : Int) := by omega
            have i4 : (mm : Int) < ((3 * i : Nat) : Int) := by omega
            have C9 := Lib.hid c9
            have C13 := Lib.hid c13
            have C13b := Lib.hid c13b
            clear c9 c13 c13b hmm
            generalize nth z mm = zv at *
            generalize nth (flatT z) mm = tv at *
            go_wp2_with fail
            clear k9
            have HBD := Lib.hid (ud' HBJ.out)
            have q1 : ∀ p : Bel w8.heap.size wr.drew, p.w'.cell? ⟨w.heap.size + 1, 2, none⟩ = some (.slice (some ⟨b9, o9, none⟩) (3 * i) c1) := fun p => row_cell (((HBD.out.trans p.h).block _ (row_lt R9.out)).trans R9.out) 2 rfl
            have q2 : ∀ p : Bel w8.heap.size wr.drew, p.w'.cell? ⟨G13, 2, none⟩ = some (.slice (some ⟨b13, o13, none⟩) (3 * i) c13) := fun p => row_cell (((HBD.out.trans p.h).block _ (row_lt R13.out)).trans R13.out) 2 rfl
            have q3 : ∀ p : Bel w8.heap.size wr.drew, p.w'.cell? ⟨b9, o9 + m, none⟩ = some (.int .u8 zv) := fun p => ((HBD.out.trans p.h).cell (p := ⟨b9, o9 + m, none⟩) hb9).trans C9.out
            have q4 : ∀ p : Bel w8.heap.size wr.drew, p.w'.cell? ⟨b13, o13 + m, none⟩ = some (.int .u8 tv) := fun p => ((HBD.out.trans p.h).cell (p := ⟨b13, o13 + m, none⟩) hb13).trans C13.out
            refine Tin.reg_begin w8.heap.size 14 (by rfl) (by kernel_rfl) ?_
            refine Tin.reg_quiets [0, 1, 2, 3, 4, 5, 6, 7, 8, 9, 10, 11, 12, 13] _ 0 rfl (by simp only [Tin.pick, List.map_cons, List.map_nil, Array.getD_eq_getD_getElem?, List.getElem?_toArray, List.getElem?_cons_zero, List.getElem?_cons_succ, Option.getD_some]; rfl) (by kernel_rfl) (by kernel_rfl) ?_
            repeat (first | go_big_quiet_step (fail))
            refine wpQuiet_nil ?_
            clear q1 q2 q3 q4
            refine Tin.reg_done (by kernel_rfl) ?_
            go_wp2_with fail
            have HBE := Lib.hid (ud' HBD.out)
            have j1 : decide ((1 : Int) < tv - zv) = false := decide_eq_false (by omega)
            have j2 : decide (tv - zv < (-1 : Int)) = false := decide_eq_false (by omega)
            have q2 : ∀ p : Bel w8.heap.size wr.drew.drew, p.w'.cell? ⟨G13, 2, none⟩ = some (.slice (some ⟨b13, o13, none⟩) (3 * i) c13) := fun p => row_cell (((HBE.out.trans p.h).block _ (row_lt R13.out)).trans R13.out) 2 rfl
            have q4 : ∀ p : Bel w8.heap.size wr.drew.drew, p.w'.cell? ⟨b13, o13 + m, none⟩ = some (.int .u8 tv) := fun p => ((HBE.out.trans p.h).cell (p := ⟨b13, o13 + m, none⟩) hb13).trans C13.out
            have q5 : ∀ p : Bel w8.heap.size wr.drew.drew, p.w'.cell? ⟨b13, o13 + mm, none⟩ = some (.int .u8 tv) := fun p => ((HBE.out.trans p.h).cell (p := ⟨b13, o13 + mm, none⟩) hb13).trans C13b.out
            refine Tin.reg_begin w8.heap.size 20 (by rfl) (by kernel_rfl) ?_
            refine Tin.reg_quiets [0, 1, 2, 3, 4, 5, 6, 7, 8, 9, 10, 11, 12, 13, 14, 15, 16, 17, 18, 19] _ 0 rfl (by simp only [Tin.pick, List.map_cons, List.map_nil, Array.getD_eq_getD_getElem?, List.getElem?_toArray, List.getElem?_cons_zero, List.getElem?_cons_succ, Option.getD_some]; rfl) (by kernel_rfl) (by kernel_rfl) ?_
            repeat (first | go_big_quiet_step (fail))
            refine wpQuiet_nil ?_
            clear q2 q4 q5
            refine Tin.reg_done (by kernel_rfl) ?_
            go_wp2_with fail
            exact ⟨⟨m + 1, by omega, rfl, HBE.out⟩, by simp only [intOf]; omega⟩
        have j1 : (j : Int) < 3 := by omega
        obtain ⟨n, cn, bi, oi, K, hn1, hnb, hbi, hc2, hcv⟩ := HPL2.out j hj3
        have HC2 := Lib.hid hc2
        have HCV := Lib.hid hcv
        clear hc2 hcv
        go_wp2_with fail
        go_loopw [16] (fun s16 wr => ∃ (m : Nat), m ≤ n ∧ s16 = .int .i64 (m : Int) ∧ Below q0.heap.size q0 wr) (fun s16 _ => n - (intOf s16).toNat)
        case atStart => exact ⟨0, by omega, rfl, HBJ.out⟩
        case round =>
          clear HBJ
          obtain ⟨m, hm, rfl, hbj⟩ := hrel
          have HBJ := Lib.hid hbj
          clear hbj
          have k2 := (HBJ.out.cell (p := ⟨bp, op + j * 3 + 2, none⟩) hbp).trans HC2.out
          by_cases hmn : m < n
          case neg =>
            obtain rfl : m = n := by omega
            go_wp2_with fail
            exact ⟨⟨j + 1, by omega, rfl, HBJ.out⟩, by simp only [intOf]; omega⟩
          have i2 : (m : Int) < (n : Int) := by omega
          have i3 : (0 : Int) < (n : Int) := by omega
          go_wp2_with fail
          clear k2
          have q2 : ∀ p : Bel q0.heap.size wr.drew, p.w'.cell? ⟨bp, op + j * 3 + 2, none⟩ = some (.slice (some ⟨bi, oi, none⟩) n cn) := fun p => (((ud' HBJ.out).trans p.h).cell (p := ⟨bp, op + j * 3 + 2, none⟩) hbp).trans HC2.out
          have q3 : ∀ p : Bel q0.heap.size wr.drew, p.w'.cell? ⟨bi, oi + m, none⟩ = some (.int .i64 K) := fun p => (((ud' HBJ.out).trans p.h).cell (p := ⟨bi, oi + m, none⟩) hbi).trans (HCV.out m hmn)
          have q4 : ∀ p : Bel q0.heap.size wr.drew, p.w'.cell? ⟨bi, oi, none⟩ = some (.int .i64 K) := fun p => (((ud' HBJ.out).trans p.h).cell (p := ⟨bi, oi, none⟩) hbi).trans (HCV.out 0 (by omega))
          refine Tin.reg_begin q0.heap.size 16 (by rfl) (by kernel_rfl) ?_
          refine Tin.reg_quiets [0, 1, 2, 3, 4, 5, 6, 7, 8, 9, 10, 11, 12, 13, 14, 15] _ 0 rfl (by simp only [Tin.pick, List.map_cons, List.map_nil, Array.getD_eq_getD_getElem?, List.getElem?_toArray, List.getElem?_cons_zero, List.getElem?_cons_succ, Option.getD_some]; rfl) (by kernel_rfl) (by kernel_rfl) ?_
          repeat (first | go_big_quiet_step (fail))
          refine wpQuiet_nil ?_
          clear q2 q3 q4
          refine Tin.reg_done (by kernel_rfl) ?_
          go_wp2_with fail
          exact ⟨⟨m + 1, by omega, rfl, ud' HBJ.out⟩, by simp only [intOf]; omega⟩
    have i1 : (i : Int) < (wd : Int) * (ht : Int) := by rw [HNE.out]; omega
    have hl3 : (repT z i).length = 3 * i := repT_len HZ3.out i
    have HL3 := Lib.hid hl3
    clear hl3
    go_wp2_with fail
    refine Tin.reg_begin 0 6 (by rfl) (by kernel_rfl) ?_
    replace HB := Lib.hid (ud' HB.out)
    replace HO := Lib.hid HO.out.drew
    replace R9 := Lib.hid (show wr.drew.heap[w.heap.size + 1]? = _ from R9.out)
    replace HZ := Lib.hid (show Sl .u8 wr.drew _ _ from HZ.out)
    have hgs0 : w.heap.size + 2 ≤ wr.drew.heap.size := hgs
    generalize wr.drew = v1 at *
    refine Tin.reg_quiets [0, 2] _ 4 rfl (by simp only [Tin.pick, List.map_cons, List.map_nil, Array.getD_eq_getD_getElem?, List.getElem?_toArray, List.getElem?_cons_zero, List.getElem?_cons_succ, Option.getD_some]; rfl) (by kernel_rfl) (by kernel_rfl) ?_
    repeat (first | go_big_quiet_step (fail))
    refine wpQuiet_nil ?_
    have k2 : v1.cell? ⟨w.heap.size + 1, 2, none⟩ = some (.slice A1 n c1) := row_cell R9.out 2 rfl
    refine Tin.reg_one 1 _ rfl (by kernel_rfl) ?_
    try simp only [List.getElem_toArray, List.getElem_cons_succ, List.getElem_cons_zero]
    go_wp2_with fail
    refine ⟨0, Below.refl _ _, Nat.le_refl _, ?_⟩
    clear k2
    refine Tin.reg_one 3 _ rfl (by kernel_rfl) ?_
    try simp only [List.getElem_toArray, List.getElem_cons_succ, List.getElem_cons_zero]
    refine Tin.wpl_app bt5 _ rfl (.tmp 53) (.tmp 54) rfl (w.heap.size + 2) (.slice A1 n c1) (repT z i) rfl HO.out (some ⟨w.heap.size, 0, none⟩) 3 3 z rfl HZ.out HZ3.out.symm (by rw [HL3.out, HZ3.out]; omega) (by rw [HL3.out, HZ3.out]; omega) hgs0 ?_
    intro x7 q7 hown7 hg7 how7
    obtain ⟨A7, c7, rfl⟩ := own_form hown7
    obtain ⟨n7, hn7⟩ : ∃ n7, (repT z i ++ z).length = n7 := ⟨_, rfl⟩
    rw [hn7] at hown7 how7 ⊢
    clear hn7
    simp only [Act.put, List.setIfInBounds_toArray, List.set_cons_succ, List.set_cons_zero]
    go_wp2_with fail
    refine ⟨0, ⟨hg7.os, hg7.tape, hg7.output, hg7.size, fun i hi => absurd hi (Nat.not_lt_zero _)⟩, Nat.le_refl _, ?_⟩
    have HLO := Lib.hid (World.ownsRow.lt HO.out)
    have R97 := Lib.hid ((hg7.block _ (row_lt R9.out) (fun e => by have := (HLO.out _ e.symm).1; omega)).trans R9.out)
    have HB7 := Lib.hid (HB.out.grown hg7 HB.out.size (fun q hq => by have := (HLO.out q hq).1; omega))
    have HO7 := Lib.hid hown7
    have hz7 : w.heap.size + 2 ≤ q7.heap.size := Nat.le_trans hgs0 hg7.size
    have HZ7 := Lib.hid (sl_low (B := w.heap.size + 2) HZ.out (fun i hi => hg7.block i (by omega) (fun e => by have := (HLO.out _ e.symm).1; omega)) hz7)
    clear hg7 how7 hown7 HZ R9 HB HO
    refine Tin.reg_quiets [4] _ 1 rfl (by simp only [Tin.pick, List.map_cons, List.map_nil, Array.getD_eq_getD_getElem?, List.getElem?_toArray, List.getElem?_cons_zero, List.getElem?_cons_succ, Option.getD_some]; rfl) (by kernel_rfl) (by kernel_rfl) ?_
    repeat (first | go_big_quiet_step (fail))
    refine wpQuiet_nil ?_
    have cc7 := row_cell (v := .slice A1 n c1) R97.out 2 rfl
    have f7 := frozen_of_row q7 (w.heap.size + 1) 2 _ _ R97.out
    refine Tin.reg_one 5 _ rfl (by kernel_rfl) ?_
    try simp only [List.getElem_toArray, List.getElem_cons_succ, List.getElem_cons_zero]
    go_wp2_with fail
    have hk7 := grown_setCells (w.heap.size + 1) [.slice A7 n7 c7] 2 q7 q7 (World.grownBy.refl q7 _)
    refine ⟨0, ⟨rfl, rfl, rfl, by simp [World.setCell], fun i hi => absurd hi (Nat.not_lt_zero _)⟩, Nat.le_refl _, ?_⟩
    refine Tin.reg_done (by kernel_rfl) ?_
    go_wp2_with fail
    exact ⟨⟨i + 1, A7, n7, c7, by omega, rfl, row_set R97.out 2 _, sl_low (B := w.heap.size + 1) HZ7.out (fun j hj => heap_setCell_other _ _ _ _ (by show j ≠ w.heap.size + 1; omega)) (by simp only [World.setCell]; simp; omega), HO7.out.kept hk7 (ne_own (fun q hq => by have := (World.ownsRow.lt HO7.out q hq).1; omega)), HB7.out.setCell (by show w.heap.size ≤ w.heap.size + 1; omega) _, by simp only [World.setCell]; simp; omega⟩, by simp only [intOf]; omega⟩
end Go.Proofs.Ytajobboldjgidaa
