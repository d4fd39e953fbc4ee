/- SamplePaints: the walk. -/
import Derived.Test.YtajobboldjgidaaSmP
import Derived.Test.YtajobboldjgidaaSmQ
namespace Go.Proofs.Ytajobboldjgidaa
open Go.RowKit
open Go.Tin
set_option linter.unusedVariables false
set_option linter.unusedSimpArgs false


abbrev plSh : Sh := .fld 0 0 1 (.int .i64) (.fld 1 1 1 (.int .i64) (.fld 2 2 1 (.slice 1 (.int .i64)) .unit))
/-- A slice of ints of an argument. -/
def PtW (w : World) (v : Value) (d : List Int) : Prop := ∃ A c, v = .slice A d.length c ∧ Sl .i64 w A d ∧ d.length ≤ c ∧ c ≤ 140737488351232
theorem flat_int (w : World) : FlatSh w .i64 1 (.int .i64) := fun cs hcs hf j hj => by
  obtain ⟨n, hn, wn⟩ := hf
  subst hn
  obtain rfl : j = 0 := by omega
  exact ⟨n, rfl, wn⟩
theorem ptw_of {w : World} {cs : List Value} (hcs : cs.length = 1) (h : Fits w (.slice 1 (.int .i64)) cs) (hz : Sized w (.slice 1 (.int .i64)) cs) : ∃ v d, cs = [v] ∧ PtW w v d := by
  have h0 : ∃ A n c, cs = [.slice A n c] := by
    rcases h with h | ⟨a, len, cap, h, _⟩
    · exact ⟨_, _, _, h⟩
    · exact ⟨_, _, _, h⟩
  obtain ⟨A, n, c, rfl⟩ := h0
  obtain ⟨zs, hs, hl, hc, hm, hw, hnil⟩ := flat_of_fits (flat_int w) h
  have hcz : c ≤ 140737488351232 := by
    cases A with
    | none => rw [hnil rfl]; omega
    | some a => exact (hz a n c rfl).1
  rw [Nat.mul_one] at hl
  subst hl
  exact ⟨_, zs, rfl, A, c, rfl, hs, hc, hcz⟩
theorem pl_el {w : World} {cs : List Value} (hcs : cs.length = 3) (hf : Fits w plSh cs) (hz : Sized w plSh cs) : ∃ m n u d, cs = [.int .i64 m, .int .i64 n, u] ∧ PtW w u d := by
  obtain ⟨a, b, c, rfl⟩ : ∃ a b c, cs = [a, b, c] := by
    match cs, hcs with
    | [a, b, c], _ => exact ⟨a, b, c, rfl⟩
  obtain ⟨⟨m, hm, _⟩, ⟨n, hn, _⟩, h2, _⟩ := hf
  obtain ⟨_, _, z2, _⟩ := hz
  obtain ⟨u, s, hu, hs⟩ := ptw_of (cs := [c]) rfl h2 z2
  have ea : a = .int .i64 m := by simpa using hm
  have eb : b = .int .i64 n := by simpa using hn
  have ec : c = u := by simpa using hu
  exact ⟨m, n, u, s, by rw [ea, eb, ec], hs⟩
theorem pls_of_fits {w : World} {a : Option Addr} {len cap : Nat} (h : Fits w (.slice 3 plSh) [.slice a len cap]) (hz : Sized w (.slice 3 plSh) [.slice a len cap]) : ∃ L xs, L.length = len ∧ SlV w a xs ∧ PnV (PtW w) xs L ∧ len ≤ cap ∧ cap ≤ 140737488351232 := by
  rcases h with h | ⟨x, l, c, h, hl, hc, hi⟩
  · simp at h
    obtain ⟨rfl, rfl, rfl⟩ := h
    exact ⟨[], [], rfl, .inl rfl, .nil, Nat.le_refl _, by decide⟩
  · simp at h
    obtain ⟨rfl, rfl, rfl⟩ := h
    have hzz := hz x len cap rfl
    replace hc := hzz.1
    have build : ∀ n, n ≤ len → ∃ L xs, L.length = n ∧ xs.length = n * 3 ∧ (∀ i, i < n * 3 → w.cell? (x.add i) = xs[i]?) ∧ PnV (PtW w) xs L := by
      intro n
      induction n with
      | zero => exact fun _ => ⟨[], [], rfl, rfl, fun i hi => by omega, .nil⟩
      | succ n ih =>
        intro hn
        obtain ⟨L, xs, h1, h2, h3, h4⟩ := ih (by omega)
        obtain ⟨cs, hcs, hcell, hfit⟩ := hi n (by omega)
        obtain ⟨m, k, u, d, rfl, hd⟩ := pl_el hcs hfit (hzz.2 n (by omega) cs hcs hcell)
        refine ⟨L ++ [⟨m, k, d⟩], xs ++ [.int .i64 m, .int .i64 k, u], by simp [h1], by simp [h2]; omega, fun i hi' => ?_, h4.app (.one hd)⟩
        by_cases hlt : i < n * 3
        · rw [h3 i hlt, List.getElem?_append_left (by omega)]
        · have h5 := hcell (i - n * 3) (by omega)
          rw [addr_add_add, show n * 3 + (i - n * 3) = i by omega] at h5
          rw [h5, List.getElem?_append_right (by omega), h2]
    obtain ⟨L, xs, h1, h2, h3, h4⟩ := build len (Nat.le_refl _)
    refine ⟨L, xs, h1, ?_, h4, hl, hc⟩
    by_cases h0 : len = 0
    · exact .inl (List.eq_nil_of_length_eq_zero (by omega))
    · obtain ⟨v, hv⟩ : ∃ v, xs[0]? = some v := ⟨xs[0]'(by omega), List.getElem?_eq_getElem _⟩
      have hn := h3 0 (by omega)
      rw [hv] at hn
      have hspot : x.spot = none := by
        have := World.cell?_spot hn
        simpa [Addr.add] using this
      have hlt : x.block < w.heap.size := by
        have := World.block_lt_of_cell? w _ hn
        simpa [Addr.add] using this
      obtain ⟨b, off, spot⟩ := x
      have hs' : spot = none := hspot
      subst hs'
      refine .inr ⟨b, off, rfl, hlt, fun i hi' => ?_⟩
      have := h3 i (by omega)
      rwa [add_none] at this
theorem PnV.narrow {w : World} {xs : List Value} {L : List Pn} (h : PnV (PtW w) xs L) (hb : ∀ p ∈ L, p.v.length ≤ 1000000000) : PnV (PtI w) xs L := by
  induction h with
  | nil => exact .nil
  | cons h1 _ ih =>
    obtain ⟨A, c, rfl, hs, hc, _⟩ := h1
    exact .cons ⟨A, c, rfl, hs, hc, hb _ (List.mem_cons_self ..)⟩ (ih fun p hp => hb p (List.mem_cons_of_mem _ hp))
theorem sameR_n (W H : Int) (A A' : Option Addr) (l : List Int) (n c c' : Nat) (w : World) (hn : l.length = n) (hs : Sl .u8 w A l) (hs' : Sl .u8 w A' l) :
    Calls Try.prog 22 #[rsA W H A n c, rsA W H A' n c'] w fun e w' => e = .returned (.bool true) ∧ Below w.heap.size w w' := by
  subst hn
  exact sameR_eq W H A A' l c c' w hs hs'
theorem large_no {L : List Pn} (h : largeB L = false) : L.length ≤ 4 ∧ ∀ p ∈ L, p.v.length ≤ 1500 := by
  unfold largeB at h
  rw [Bool.or_eq_false_iff] at h
  refine ⟨Nat.le_of_not_lt (of_decide_eq_false h.2), fun p hp => ?_⟩
  have h1 := List.any_eq_false.1 h.1 p hp
  simpa using h1
set_option maxRecDepth 100000 in
set_option maxHeartbeats 8000000 in
theorem spaints_any (A : Option Addr) (len cap : Nat) (k : Int) (w : World) (ft : Fits w (.slice 3 plSh) [.slice A len cap]) (sz : Sized w (.slice 3 plSh) [.slice A len cap]) (wk : (Lit.int .i64 k).wf = true) :
    Calls Try.prog 4 #[.slice A len cap, .int .i64 k] w fun e w' => e = .returned (.bool true) ∧ Below w.heap.size w w' := by
  obtain ⟨L, xs, rfl, h1, h2, hlc, hcm⟩ := pls_of_fits ft sz
  clear ft sz wk
  have H1 := Lib.hid h1
  have H2 := Lib.hid h2
  have H3 := Lib.hid (PnV.mono (Q := PtM) (fun v d h => by obtain ⟨A, c, rfl, _, h3, h4⟩ := h; exact ⟨A, c, rfl, by omega⟩) h2)
  clear h1 h2
  go_enter Try.func4, Try.ntmps4
  go_wp2_with fail
  refine (large_any A cap L xs w H1.out H3.out (by omega)).mono ?_
  rintro e w' ⟨rfl, rfl⟩
  cases hlg : largeB L with
  | true =>
    go_wp2_with fail
    refine (awake_any w).mono ?_
    rintro e w9 ⟨rfl, hb9⟩
    go_wp2_with fail
    go_ret
    exact ⟨rfl, hb9⟩
  | false =>
  obtain ⟨hL4, hpl⟩ := large_no hlg
  have hps : PlS w A L := ⟨xs, H1.out, H2.out.narrow (fun p hp => by have := hpl p hp; omega)⟩
  have HS := Lib.hid hps
  have HPL := Lib.hid hpl
  have HB := Lib.hid (brefl w)
  clear hps H1 H2 H3 hlg hpl
  go_wp2_with fail
  refine (ownP_any A cap L w HS.out (by omega)).mono ?_
  rintro e x1 ⟨A5, c5, xs5, rfl, hx1_0, hx1_1, hb⟩
  replace HS := Lib.hid (HS.out.keep hb)
  replace HB := Lib.hid (HB.out.trans (hb.mono HB.out.size))
  have HO5 := Lib.hid hx1_0
  have HN5 := Lib.hid hx1_1
  clear hx1_0 hx1_1 hb
  have HOS := Lib.hid (PlS.own HO5.out HN5.out (fun p hp => by have := HPL.out p hp; omega))
  have hc5 := HO5.out.sl'.2.2.1
  clear HO5 HN5
  cases hok : okPt k L with
  | false =>
    go_wp2_with fail
    refine (paint_no k L A5 c5 _ HOS.out (by omega) hc5 hok).mono ?_
    rintro e x2 ⟨rfl, hb⟩
    replace HS := Lib.hid (HS.out.keep hb)
    replace HOS := Lib.hid (HOS.out.keep hb)
    replace HB := Lib.hid (HB.out.trans (hb.mono HB.out.size))
    clear hb
    have hb := (ba (brefl x2) (.cells (rsrow 0 0 none 0 0) 44))
    have R6 := (alloc1 x2 (.cells (rsrow 0 0 none 0 0) 44)).1
    replace HS := Lib.hid (HS.out.keep hb)
    replace HOS := Lib.hid (HOS.out.keep hb)
    replace HB := Lib.hid (HB.out.trans (hb.mono HB.out.size))
    clear hb
    replace R6 := Lib.hid R6
    go_wp2_with fail
    generalize (x2.alloc (.cells (rsrow 0 0 none 0 0) 44)) = x3 at *
    refine (rows_eq A5 A c5 cap L _ HOS.out HS.out (by omega)).mono ?_
    rintro e x4 ⟨rfl, hb⟩
    replace HS := Lib.hid (HS.out.keep hb)
    replace HOS := Lib.hid (HOS.out.keep hb)
    replace R6 := Lib.hid ((hb.block _ (row_lt R6.out)).trans R6.out)
    replace HB := Lib.hid (HB.out.trans (hb.mono HB.out.size))
    clear hb
    go_wp2_with fail
    refine (fits_any k L A cap _ HS.out (by omega)).mono ?_
    rintro e x5 ⟨rfl, hb⟩
    replace HS := Lib.hid (HS.out.keep hb)
    replace HOS := Lib.hid (HOS.out.keep hb)
    replace R6 := Lib.hid ((hb.block _ (row_lt R6.out)).trans R6.out)
    replace HB := Lib.hid (HB.out.trans (hb.mono HB.out.size))
    clear hb
    rw [hok]
    go_wp2_with ((with_reducible refine wpl_load_row rtR ?_ (.tmp 6) ?_ (x2.heap.size) ?_ 44 (rsrow 0 0 none 0 0) ?_ R6.out ?_); rfl; rfl; rfl; rfl; simp only [Act.put, List.setIfInBounds_toArray, List.set_cons_succ, List.set_cons_zero])
    refine (sameR_eq 0 0 none none [] 0 0 _ (.inl rfl) (.inl rfl)).mono ?_
    rintro e x6 ⟨rfl, hb⟩
    replace HS := Lib.hid (HS.out.keep hb)
    replace HOS := Lib.hid (HOS.out.keep hb)
    replace R6 := Lib.hid ((hb.block _ (row_lt R6.out)).trans R6.out)
    replace HB := Lib.hid (HB.out.trans (hb.mono HB.out.size))
    clear hb
    go_wp2_with fail
    refine (awake_any _).mono ?_
    rintro e x7 ⟨rfl, hb⟩
    replace HS := Lib.hid (HS.out.keep hb)
    replace HOS := Lib.hid (HOS.out.keep hb)
    replace R6 := Lib.hid ((hb.block _ (row_lt R6.out)).trans R6.out)
    replace HB := Lib.hid (HB.out.trans (hb.mono HB.out.size))
    clear hb
    go_wp2_with fail
    go_ret
    exact ⟨rfl, HB.out⟩
  | true =>
  have hlen : L.length = 3 := by
    unfold okPt at hok
    simp only [Bool.and_eq_true, decide_eq_true_eq] at hok
    exact hok.2.1
  obtain ⟨p, q, r, rfl⟩ : ∃ p q r, L = [p, q, r] := by
    match L, hlen with
    | [p, q, r], _ => exact ⟨p, q, r, rfl⟩
  have hmp : mayP p.W p.H p.v = true := by
    have h := hok
    unfold okPt at h
    simp only [Bool.and_eq_true, Bool.not_eq_true'] at h
    have h2 := h.2.2.1
    simp only [List.any_cons, List.any_nil, Bool.or_false, Bool.or_eq_false_iff, badP, Bool.not_eq_false'] at h2
    exact h2.1
  obtain ⟨pW, pH, v⟩ := p
  obtain ⟨W0a, W0b⟩ := mayP_W hmp
  obtain ⟨H0a, H0b⟩ := mayP_H hmp
  dsimp only at W0a W0b H0a H0b
  clear hmp hlen
  obtain ⟨wd, rfl⟩ : ∃ n : Nat, pW = (n : Int) := ⟨pW.toNat, by omega⟩
  obtain ⟨ht, rfl⟩ : ∃ n : Nat, pH = (n : Int) := ⟨pH.toNat, by omega⟩
  have hc5' : 3 ≤ c5 := hc5
  go_wp2_with fail
  refine (paint_yes k wd ht v q r A5 c5 _ HOS.out hc5' hok).mono ?_
  rintro e x2 ⟨A6, c6, rfl, hx2_0, hb⟩
  replace HS := Lib.hid (HS.out.keep hb)
  replace HOS := Lib.hid (HOS.out.keep hb)
  replace HB := Lib.hid (HB.out.trans (hb.mono HB.out.size))
  have HO6 := Lib.hid hx2_0
  clear hx2_0 hb
  have hl6 : (gridT (pixV (wd : Int) (ht : Int) v q.W q.H q.v r.v (fH k) (fV k)) wd ht).length = 3 * (wd * ht) := gridT_len (fun _ _ => rfl) _ _
  have HL6 := Lib.hid hl6
  clear hl6
  have hb := (ba (brefl x2) (.cells (rsrow (wd : Int) (ht : Int) A6 (3 * (wd * ht)) c6) 44))
  have R6 := (alloc1 x2 (.cells (rsrow (wd : Int) (ht : Int) A6 (3 * (wd * ht)) c6) 44)).1
  replace HS := Lib.hid (HS.out.keep hb)
  replace HOS := Lib.hid (HOS.out.keep hb)
  replace HO6 := Lib.hid (HO6.out.keep hb)
  replace HB := Lib.hid (HB.out.trans (hb.mono HB.out.size))
  clear hb
  replace R6 := Lib.hid R6
  go_wp2_with fail
  generalize (x2.alloc (.cells (rsrow (wd : Int) (ht : Int) A6 (3 * (wd * ht)) c6) 44)) = x3 at *
  refine (rows_eq A5 A c5 cap [⟨(wd : Int), (ht : Int), v⟩, q, r] _ HOS.out HS.out (by simp)).mono ?_
  rintro e x4 ⟨rfl, hb⟩
  replace HS := Lib.hid (HS.out.keep hb)
  replace HOS := Lib.hid (HOS.out.keep hb)
  replace HO6 := Lib.hid (HO6.out.keep hb)
  replace R6 := Lib.hid ((hb.block _ (row_lt R6.out)).trans R6.out)
  replace HB := Lib.hid (HB.out.trans (hb.mono HB.out.size))
  clear hb
  go_wp2_with fail
  refine (fits_any k [⟨(wd : Int), (ht : Int), v⟩, q, r] A cap _ HS.out (by simp)).mono ?_
  rintro e x5 ⟨rfl, hb⟩
  replace HS := Lib.hid (HS.out.keep hb)
  replace HOS := Lib.hid (HOS.out.keep hb)
  replace HO6 := Lib.hid (HO6.out.keep hb)
  replace R6 := Lib.hid ((hb.block _ (row_lt R6.out)).trans R6.out)
  replace HB := Lib.hid (HB.out.trans (hb.mono HB.out.size))
  clear hb
  rw [hok]
  go_wp2_with fail
  have LT_R6 : _ < x5.heap.size := row_lt R6.out
  have SZ : x5.heap.size ≤ x5.drew.heap.size := Nat.le_refl _
  have hb := ud' (brefl x5)
  replace HS := Lib.hid (HS.out.keep hb)
  replace HOS := Lib.hid (HOS.out.keep hb)
  replace HO6 := Lib.hid (HO6.out.keep hb)
  replace R6 := Lib.hid ((hb.block _ (row_lt R6.out)).trans R6.out)
  replace HB := Lib.hid (HB.out.trans (hb.mono HB.out.size))
  clear hb
  refine Tin.reg_begin (x5.heap.size) 13 (by rfl) (by kernel_rfl) ?_
  refine Tin.reg_quiets [0, 1, 2, 3, 4, 5] _ 7 rfl (by simp only [Tin.pick, List.map_cons, List.map_nil, Array.getD_eq_getD_getElem?, List.getElem?_toArray, List.getElem?_cons_zero, List.getElem?_cons_succ, Option.getD_some]; rfl) (by kernel_rfl) (by kernel_rfl) ?_
  repeat (first | ((with_reducible refine wpq_load_row rtR ?_ (.tmp 6) ?_ (x2.heap.size) ?_ 44 (rsrow (wd : Int) (ht : Int) A6 (3 * (wd * ht)) c6) ?_ (fun W h => by obtain ⟨p, rfl⟩ := h; exact (p.h.block _ LT_R6).trans R6.out) ?_); rfl; rfl; rfl; rfl; simp only [Act.put, List.setIfInBounds_toArray, List.set_cons_succ, List.set_cons_zero]) | go_big_quiet_step (fail))
  refine wpQuiet_nil ?_
  refine Tin.reg_one 6 _ rfl (by kernel_rfl) ?_
  try simp only [List.getElem_toArray, List.getElem_cons_succ, List.getElem_cons_zero]
  go_wp2_with fail
  refine (rpaintP_any k wd ht v q r A cap _ HS.out hok).mono ?_
  rintro e x6 ⟨A7, c7, rfl, hx6_0, hv⟩
  go_wp2_with fail
  refine ⟨x5.heap.size, hv.mono SZ, Nat.le_refl _, ?_⟩
  replace HS := Lib.hid (HS.out.keep hv)
  replace HOS := Lib.hid (HOS.out.keep hv)
  replace HO6 := Lib.hid (HO6.out.keep hv)
  replace R6 := Lib.hid ((hv.block _ (row_lt R6.out)).trans R6.out)
  replace HB := Lib.hid (HB.out.trans (hv.mono HB.out.size))
  have HO7 := Lib.hid hx6_0
  replace SZ := Nat.le_trans SZ hv.size
  clear hx6_0 hv
  refine Tin.reg_one 7 _ rfl (by kernel_rfl) ?_
  try simp only [List.getElem_toArray, List.getElem_cons_succ, List.getElem_cons_zero]
  go_wp2_with fail
  refine (sameR_n (wd : Int) (ht : Int) A6 A7 (gridT (pixV (wd : Int) (ht : Int) v q.W q.H q.v r.v (fH k) (fV k)) wd ht) _ c6 c7 _ HL6.out HO6.out.sl'.2 HO7.out.sl'.2).mono ?_
  rintro e x7 ⟨rfl, hv⟩
  go_wp2_with fail
  refine ⟨x5.heap.size, hv.mono SZ, Nat.le_refl _, ?_⟩
  replace HS := Lib.hid (HS.out.keep hv)
  replace HOS := Lib.hid (HOS.out.keep hv)
  replace HO6 := Lib.hid (HO6.out.keep hv)
  replace R6 := Lib.hid ((hv.block _ (row_lt R6.out)).trans R6.out)
  replace HO7 := Lib.hid (HO7.out.keep hv)
  replace HB := Lib.hid (HB.out.trans (hv.mono HB.out.size))
  replace SZ := Nat.le_trans SZ hv.size
  clear hv
  refine Tin.reg_quiets [8, 9] _ 3 rfl (by simp only [Tin.pick, List.map_cons, List.map_nil, Array.getD_eq_getD_getElem?, List.getElem?_toArray, List.getElem?_cons_zero, List.getElem?_cons_succ, Option.getD_some]; rfl) (by kernel_rfl) (by kernel_rfl) ?_
  repeat (first | go_big_quiet_step (fail))
  refine wpQuiet_nil ?_
  refine Tin.reg_one 10 _ rfl (by kernel_rfl) ?_
  try simp only [List.getElem_toArray, List.getElem_cons_succ, List.getElem_cons_zero]
  go_wp2_with fail
  refine (awake_any _).mono ?_
  rintro e x8 ⟨rfl, hv⟩
  go_wp2_with fail
  refine ⟨x5.heap.size, hv.mono SZ, Nat.le_refl _, ?_⟩
  replace HS := Lib.hid (HS.out.keep hv)
  replace HOS := Lib.hid (HOS.out.keep hv)
  replace HO6 := Lib.hid (HO6.out.keep hv)
  replace R6 := Lib.hid ((hv.block _ (row_lt R6.out)).trans R6.out)
  replace HO7 := Lib.hid (HO7.out.keep hv)
  replace HB := Lib.hid (HB.out.trans (hv.mono HB.out.size))
  replace SZ := Nat.le_trans SZ hv.size
  clear hv
  refine Tin.reg_quiets [11, 12] _ 0 rfl (by simp only [Tin.pick, List.map_cons, List.map_nil, Array.getD_eq_getD_getElem?, List.getElem?_toArray, List.getElem?_cons_zero, List.getElem?_cons_succ, Option.getD_some]; rfl) (by kernel_rfl) (by kernel_rfl) ?_
  repeat (first | go_big_quiet_step (fail))
  refine wpQuiet_nil ?_
  refine Tin.reg_done (by kernel_rfl) ?_
  go_wp2_with fail
  go_ret
  exact ⟨rfl, HB.out⟩
end Go.Proofs.Ytajobboldjgidaa
