/- The contract of Block: a block read from symbols. -/
import Derived.Test.YtckkncblbagfmaaCfR
import Derived.Test.YtckkncblbagfmaaRes
import Derived.Test.YtckkncblbagfmaaArq
import Derived.Deep.AppendLies
namespace Go.Proofs.Ytckkncblbagfmaa
open Go.RowKit
open Go.Tin
set_option linter.unusedVariables false
set_option linter.unusedSimpArgs false


def zer : List Int := List.replicate 64 0
theorem zer_len : zer.length = 64 := rfl
theorem rtB : RT Try.prog 33 64 := RT.of Try.underlying33 rfl (by kernel_rfl)
theorem gb0 {w w' : World} {r : Option Nat} (h : w.grownBy w' r) : Below 0 w w' := ⟨h.os, h.tape, h.output, h.size, fun k hk => absurd hk (Nat.not_lt_zero _)⟩
theorem ungr {w w' : World} {r : Option Nat} (h : w.drew.grownBy w' r) : w.grownBy w' r := ⟨h.os, h.tape, h.output, h.size, h.block⟩
theorem res_arr_tmp2 {P : Program} {k : IntKind} {l : List Int} {t e : TypeId} {n : Nat} (at_ : AT P t e k n) {fn : Func} {p q r : Tmp} (h : fn.results = #[.cell p t, .tmp q, .tmp r]) (tmps : Array Value) (w : World) (g : Nat) (ty : TypeId) (hp : tmps.getD p undef = .pointer (some ⟨g, 0, none⟩)) (v u : Value) (hv : tmps.getD q undef = v) (hu : tmps.getD r undef = u) (hn : l.length = n) (hg : w.heap[g]? = some (.cells (arr k l) ty (0, 0))) :
    (results fn tmps).run P w = .ok (.tuple #[.agg (arr k l), v, u]) w := by
  subst hv
  subst hu
  have hp' : tmps[p]?.getD undef = .pointer (some ⟨g, 0, none⟩) := by simpa using hp
  simp [results, h, hp', asAddr, run_loadVar_row w g ty t (arr k l) (0, 0) _ hg at_.ua rfl (by rw [at_.it, arr_size, hn])]
/-- What Block tells. -/
def bkE (zs : List Int) (n : Nat) (last : Int) : Int := if sz last < 0 then 1 else (rdA zs n last).err
def bkL (zs : List Int) (n : Nat) (last : Int) : List Int := if sz last < 0 then zer else if (rdA zs n last).err = 0 then fromL (rdA zs n last).to else zer
def bkU (zs : List Int) (n : Nat) (last : Int) : Nat := if sz last < 0 then 0 else if (rdA zs n last).err = 0 then (rdA zs n last).used else 0
theorem bk_no {zs : List Int} {n : Nat} {last : Int} (h : sz last < 0) : bkL zs n last = zer ∧ bkU zs n last = 0 ∧ bkE zs n last = 1 := by simp [bkL, bkU, bkE, h]
theorem bk_of {zs : List Int} {n : Nat} {last : Int} (h : 0 ≤ sz last) (r : Rd) (hr : rdA zs n last = r) : bkL zs n last = (if r.err = 0 then fromL r.to else zer) ∧ bkU zs n last = (if r.err = 0 then r.used else 0) ∧ bkE zs n last = r.err := by
  subst hr
  have h : ¬ sz last < 0 := by omega
  simp [bkL, bkU, bkE, h]
theorem bk_err {zs : List Int} {n : Nat} {last : Int} (h : 0 ≤ sz last) (e : Int) (he : e ≠ 0) (t : List Int) (u : Nat) (hr : rdA zs n last = ⟨e, t, u⟩) : bkL zs n last = zer ∧ bkU zs n last = 0 ∧ bkE zs n last = e := by
  simpa [he] using bk_of h _ hr
theorem bk_ok {zs : List Int} {n : Nat} {last : Int} (h : 0 ≤ sz last) (t : List Int) (u : Nat) (hr : rdA zs n last = ⟨0, t, u⟩) : bkL zs n last = fromL t ∧ bkU zs n last = u ∧ bkE zs n last = 0 := by
  simpa using bk_of h _ hr
theorem NS.init {w V : World} {A : Option Addr} {n c : Nat} {zs : List Int} (hb : Below w.heap.size w V) (sl : SlV w A (iv zs)) (hA : 0 < n → ∀ a, A = some a → a.block < w.heap.size) (hl : zs.length = n * 4) (hn : n ≤ 100000) :
    NS (V.alloc (.cells #[.slice A n c, .int .i64 0] 56)) V.heap.size A n c zs 0 :=
  ⟨heap_alloc_new V _, sl.keep (hb.alloc hb.size _), fun h0 a ha => by have := hA h0 a ha; have := hb.size; omega, hl, hn⟩
theorem NS.set {w : World} {g X i : Nat} {A : Option Addr} {n c : Nat} {zs : List Int} {used : Nat} (h : NS w g A n c zs used) (hX : X ≠ g) (hA : 0 < n → ∀ a, A = some a → a.block ≠ X) (v : Value) : NS (w.setCell ⟨X, i, none⟩ v) g A n c zs used := by
  refine ⟨(set_other (Ne.symm hX)).trans h.row, ?_, h.ne, h.len, h.nl⟩
  rcases h.sl with h1 | ⟨b, off, hAb, hlt, hc⟩
  · exact .inl h1
  · by_cases hz : n = 0
    · have : zs = [] := by have := h.len; simp [hz] at this; exact this
      subst this
      exact .inl rfl
    · refine .inr ⟨b, off, hAb, by simpa [World.setCell] using hlt, fun i hi => ?_⟩
      rw [← hc i hi]
      exact World.cell?_of_block (a := ⟨b, off + i, none⟩) (set_other (show b ≠ X from hA (by omega) _ hAb))
theorem fr_row {w w' : World} {g X : Nat} {o : Obj} (h : Fr w w' g none) (hx : w.heap[X]? = some o) (hne : X ≠ g) : w'.heap[X]? = some o :=
  (h.block X (row_lt hx) hne (by simp)).trans hx
theorem frn_below {w0 w w' : World} {g B : Nat} (h : Fr w w' g none) (hb : Below B w0 w) (hg : B ≤ g) (hB : B ≤ w.heap.size) : Below B w0 w' := h.below hb hg (fun q hq => by cases hq) hB
theorem rdA_0 {zs : List Int} {last : Int} : rdA zs 0 last = ⟨3, [], 0⟩ := by simp [rdA]
theorem rdA_no {zs : List Int} {n : Nat} {last : Int} (hn : n ≠ 0) (h : okA zs 0 0 11 = false ∨ 11 < syA zs 0) : rdA zs n last = ⟨2, [], 0⟩ := by
  unfold rdA
  rw [if_neg hn, if_pos h]
theorem rdA_yes {zs : List Int} {n : Nat} {last : Int} (hn : n ≠ 0) (h : okA zs 0 0 11 = true) (h' : ¬ 11 < syA zs 0) : rdA zs n last = rdL zs n 64 1 1 ((List.replicate 64 0).set 0 (last + vlA zs 0)) := by
  unfold rdA
  rw [if_neg hn, if_neg (by rw [h]; simp [h'])]
theorem rdL_end {zs : List Int} {n f k used : Nat} {to : List Int} (h : 63 < k) : rdL zs n (f + 1) k used to = ⟨0, to, used⟩ := by
  rw [rdL, if_pos h]
theorem rdL_out {zs : List Int} {n f k used : Nat} {to : List Int} (h : ¬ 63 < k) (hu : used = n) : rdL zs n (f + 1) k used to = ⟨3, to, used⟩ := by
  rw [rdL, if_neg h, if_pos hu]
theorem rdL_no {zs : List Int} {n f k used : Nat} {to : List Int} (h : ¬ 63 < k) (hu : ¬ used = n) (ho : okA zs used 1 10 = false) : rdL zs n (f + 1) k used to = ⟨2, to, used⟩ := by
  rw [rdL, if_neg h, if_neg hu, if_pos ho]
theorem rdL_stop {zs : List Int} {n f k used : Nat} {to : List Int} (h : ¬ 63 < k) (hu : ¬ used = n) (ho : okA zs used 1 10 = true) (hs : syA zs used = 0) : rdL zs n (f + 1) k used to = ⟨0, to, used + 1⟩ := by
  rw [rdL, if_neg h, if_neg hu, if_neg (by rw [ho]; simp), if_pos hs]
theorem rdL_bad {zs : List Int} {n f k used : Nat} {to : List Int} (h : ¬ 63 < k) (hu : ¬ used = n) (ho : okA zs used 1 10 = true) (hs : ¬ syA zs used = 0) (hb : (syA zs used % 16 = 0 ∧ syA zs used ≠ 240) ∨ 63 < k + (syA zs used / 16).toNat) : rdL zs n (f + 1) k used to = ⟨2, to, used⟩ := by
  rw [rdL, if_neg h, if_neg hu, if_neg (by rw [ho]; simp), if_neg hs, if_pos hb]
theorem rdL_go {zs : List Int} {n f k used : Nat} {to : List Int} (h : ¬ 63 < k) (hu : ¬ used = n) (ho : okA zs used 1 10 = true) (hs : ¬ syA zs used = 0) (hb : ¬ ((syA zs used % 16 = 0 ∧ syA zs used ≠ 240) ∨ 63 < k + (syA zs used / 16).toNat)) : rdL zs n (f + 1) k used to = rdL zs n f (k + (syA zs used / 16).toNat + 1) (used + 1) (to.set (k + (syA zs used / 16).toNat) (vlA zs used)) := by
  rw [rdL, if_neg h, if_neg hu, if_neg (by rw [ho]; simp), if_neg hs, if_neg hb]

set_option maxRecDepth 100000 in
set_option maxHeartbeats 8000000 in
theorem blk_any (A : Option Addr) (n c : Nat) (zs : List Int) (last : Int) (w : World) (sl : SlV w A (iv zs)) (hA : 0 < n → ∀ a, A = some a → a.block < w.heap.size) (hl : zs.length = n * 4) (hn : n ≤ 100000) (hwf : ∀ z ∈ zs, (Lit.int .i64 z).wf = true) (wl : (Lit.int .i64 last).wf = true) :
    Calls Try.prog 17 #[.slice A n c, .int .i64 last] w fun e w' => e = .returned (.tuple #[.agg (arr .i64 (bkL zs n last)), .int .i64 (bkU zs n last : Int), .int .i64 (bkE zs n last)]) ∧ Below w.heap.size w w' := by
  have HS := Lib.hid (fun W => size_any last W wl)
  have HWF := Lib.hid hwf
  have HAA := Lib.hid hA
  have HI := Lib.hid (fun V (hb : Below w.heap.size w V) => NS.init (c := c) hb sl hA hl hn)
  clear wl hwf hA sl hl
  go_enter Try.func17, Try.ntmps17
  go_wp2_with fail
  generalize hV : w.alloc _ = V
  have HXV := Lib.hid (show V.heap[w.heap.size]? = some (.cells (arr .i64 zer) 33 (0, 0)) by rw [← hV]; exact heap_alloc_new w _)
  have HBV := Lib.hid (show Below w.heap.size w V by rw [← hV]; exact ba (brefl w) _)
  have hsV : V.heap.size = w.heap.size + 1 := by rw [← hV]; simp
  clear hV
  refine (HS.out _).mono ?_
  rintro e w' ⟨rfl, rfl⟩
  by_cases hl : sz last < 0
  · have HK := Lib.hid (bk_no (zs := zs) (n := n) hl)
    go_wp2_with ((with_reducible refine wpl_store_row rtB ?_ (.tmp 4) (.tmp 17) ?_ (w.heap.size) ?_ (arr .i64 zer) ?_ arr_one 33 ?_ _ ?_ HXV.out ?_); rfl; rfl; rfl; rfl; simp [fromL_len, zer_len]; simp [fromL_len, zer_len]; intro w5 hr5 hg5 hs5; (try simp only [Act.put]))
    exact bodyPost_ret (res_arr_tmp2 at27 rfl _ _ w.heap.size 33 rfl (.int .i64 0) (.int .i64 (1)) rfl rfl zer_len hr5) rfl ⟨by rw [HK.out.1, HK.out.2.1, HK.out.2.2]; rfl, HBV.out.grown hg5 HBV.out.size (fun k hk => by cases hk; exact Nat.le_refl _)⟩
  replace hl : 0 ≤ sz last := by omega
  have hld := sz_bd hl
  have HNS := Lib.hid (HI.out V HBV.out)
  have HXg := Lib.hid (show (V.alloc (.cells #[.slice A n c, .int .i64 0] 56)).heap[w.heap.size]? = some (.cells (arr .i64 zer) 33 (0, 0)) by rw [Below.heap_alloc _ _ _ (by omega)]; exact HXV.out)
  have HBg := Lib.hid (ba HBV.out (.cells #[.slice A n c, .int .i64 0] 56))
  clear HXV HBV HI
  go_wp2_with fail
  obtain ⟨g, hg⟩ : ∃ g, g = w.heap.size + 1 := ⟨_, rfl⟩
  rw [hsV, ← hg] at HNS
  rw [← hg]
  have hXg : w.heap.size ≠ g := by omega
  have hXg' : w.heap.size ≤ g := by omega
  have hsg : (V.alloc (.cells #[.slice A n c, .int .i64 0] 56)).heap.size = g + 1 := by rw [hg, ← hsV]; simp
  generalize V.alloc (.cells #[.slice A n c, .int .i64 0] 56) = V1 at *
  clear hg hsV
  by_cases hn0 : n = 0
  · have HK := Lib.hid (bk_err (n := n) hl 3 (by decide) [] 0 (show rdA zs n last = _ by rw [hn0]; exact rdA_0))
    refine (next_end V1 g A n c zs (by rw [hn0]; rw [hn0] at HNS; exact HNS.out) 0 11).mono ?_
    rintro e V ⟨rfl, hb⟩
    have HXV := Lib.hid ((hb.block _ (row_lt HXg.out)).trans HXg.out)
    have HBV := Lib.hid (HBg.out.trans (hb.mono HBg.out.size))
    go_wp2_with ((with_reducible refine wpl_store_row rtB ?_ (.tmp 4) (.tmp 33) ?_ (w.heap.size) ?_ (arr .i64 zer) ?_ arr_one 33 ?_ _ ?_ HXV.out ?_); rfl; rfl; rfl; rfl; simp [fromL_len, zer_len]; simp [fromL_len, zer_len]; intro w5 hr5 hg5 hs5; (try simp only [Act.put]))
    exact bodyPost_ret (res_arr_tmp2 at27 rfl _ _ w.heap.size 33 rfl (.int .i64 0) (.int .i64 (3)) rfl rfl zer_len hr5) rfl ⟨by rw [HK.out.1, HK.out.2.1, HK.out.2.2]; rfl, HBV.out.grown hg5 HBV.out.size (fun k hk => by cases hk; exact Nat.le_refl _)⟩
  have hA := HAA.out (by omega)
  refine (next_some V1 g A n c zs 0 HNS.out (by omega) HWF.out 0 11 (.inr rfl)).mono ?_
  by_cases ho : okA zs 0 0 11 = true
  case neg =>
    have ho : okA zs 0 0 11 = false := by simpa using ho
    have HK := Lib.hid (bk_err hl 2 (by decide) [] 0 (rdA_no hn0 (.inl ho)))
    rintro e V ⟨-, h2⟩
    obtain ⟨rfl, hb⟩ := h2 ho
    have HXV := Lib.hid ((hb.block _ (row_lt HXg.out)).trans HXg.out)
    have HBV := Lib.hid (HBg.out.trans (hb.mono HBg.out.size))
    go_wp2_with ((with_reducible refine wpl_store_row rtB ?_ (.tmp 4) (.tmp 33) ?_ (w.heap.size) ?_ (arr .i64 zer) ?_ arr_one 33 ?_ _ ?_ HXV.out ?_); rfl; rfl; rfl; rfl; simp [fromL_len, zer_len]; simp [fromL_len, zer_len]; intro w5 hr5 hg5 hs5; (try simp only [Act.put]))
    exact bodyPost_ret (res_arr_tmp2 at27 rfl _ _ w.heap.size 33 rfl (.int .i64 0) (.int .i64 (2)) rfl rfl zer_len hr5) rfl ⟨by rw [HK.out.1, HK.out.2.1, HK.out.2.2]; rfl, HBV.out.grown hg5 HBV.out.size (fun k hk => by cases hk; exact Nat.le_refl _)⟩
  rintro e V ⟨h1, -⟩
  obtain ⟨rfl, hns, hfr⟩ := h1 ho
  have HXV := Lib.hid (fr_row hfr HXg.out hXg)
  have HBV := Lib.hid (frn_below hfr HBg.out hXg' HBg.out.size)
  obtain ⟨-, -, s0, s1, s2, -⟩ := okA_facts ho
  have hvb := vlA_bd ho
  have HRY := Lib.hid (fun h' => rdA_yes (n := n) (last := last) hn0 ho h')
  have HRN := Lib.hid (fun h' => rdA_no (zs := zs) (n := n) (last := last) hn0 (.inr h'))
  generalize hsy : syA zs 0 = sy at *
  generalize hvl : vlA zs 0 = vl at *
  have HNV := Lib.hid hns
  clear hsy hvl h1 hfr hns ho HNS
  by_cases hr : 0 < sy / 16
  · have HK := Lib.hid (bk_err hl 2 (by decide) [] 0 (HRN.out (by omega)))
    go_wp2_with ((with_reducible refine wpl_store_row rtB ?_ (.tmp 4) (.tmp 33) ?_ (w.heap.size) ?_ (arr .i64 zer) ?_ arr_one 33 ?_ _ ?_ HXV.out ?_); rfl; rfl; rfl; rfl; simp [fromL_len, zer_len]; simp [fromL_len, zer_len]; intro w5 hr5 hg5 hs5; (try simp only [Act.put]))
    exact bodyPost_ret (res_arr_tmp2 at27 rfl _ _ w.heap.size 33 rfl (.int .i64 0) (.int .i64 (2)) rfl rfl zer_len hr5) rfl ⟨by rw [HK.out.1, HK.out.2.1, HK.out.2.2]; rfl, HBV.out.grown hg5 HBV.out.size (fun k hk => by cases hk; exact Nat.le_refl _)⟩
  have HR1 := Lib.hid (HRY.out (by omega))
  have c0 : V.cell? ⟨w.heap.size, 0, none⟩ = some (.int .i64 0) := blk_cell HXV.out 0 (by rw [zer_len]; decide)
  have f0 : V.frozen? ⟨w.heap.size, 0, none⟩ = false := frozen_of_row _ _ _ _ _ HXV.out
  have HXS := Lib.hid (show (V.setCell ⟨w.heap.size, 0, none⟩ (.int .i64 (last + vl))).heap[w.heap.size]? = some (.cells (arr .i64 (fromL ((List.replicate 64 0).set 0 (last + vl)))) 33 (0, 0)) by
    rw [fromL_set _ (by simp) 0 (by decide), fromL_zero]
    exact blk_set HXV.out 0 _)
  have HNS := Lib.hid (HNV.out.set (i := 0) hXg (fun _ a ha => by have := hA a ha; omega) (.int .i64 (last + vl)))
  have HBS := Lib.hid (HBV.out.setCell (p := ⟨w.heap.size, 0, none⟩) (Nat.le_refl _) (.int .i64 (last + vl)))
  clear HXV HBV HNV HRY HRN
  go_wp2_with fail
  have hn1 : 1 ≤ n := by omega
  generalize V.setCell _ _ = V2 at *
  clear c0 f0 HXg HBg hsg
  go_loopw [10] (fun s10 W => ∃ (k used : Nat) (to : List Int), k ≤ 64 ∧ used ≤ n ∧ to.length = 64 ∧ s10 = .int .i64 (k : Int) ∧ NS W g A n c zs used ∧ W.heap[w.heap.size]? = some (.cells (arr .i64 (fromL to)) 33 (0, 0)) ∧ Below w.heap.size w W ∧ ∃ f, 65 ≤ f + k ∧ rdA zs n last = rdL zs n f k used to) (fun s10 _ => 64 - (intOf s10).toNat)
  case atStart => exact ⟨1, 1, _, by omega, by omega, by simp, rfl, HNS.out, HXS.out, HBS.out, 64, by omega, HR1.out⟩
  case round =>
    obtain ⟨k, used, to, hk, hu, hto, rfl, hns, hrow, hbl, f, hf, hrd⟩ := hrel
    obtain ⟨f, rfl⟩ : ∃ f', f = f' + 1 := ⟨f - 1, by omega⟩
    have HNr := Lib.hid hns
    have HXr := Lib.hid hrow
    have HBr := Lib.hid hbl
    have HRr := Lib.hid hrd
    clear hns hrow hbl hrd HNS HXS HBS HR1
    by_cases hk64 : k = 64
    · have HK := Lib.hid (bk_ok hl _ _ (HRr.out.trans (rdL_end (by omega))))
      subst hk64
      obtain ⟨V, rfl⟩ : ∃ V, V = wr := ⟨_, rfl⟩
      have HXV := HXr
      have HBV := HBr
      have c1V := row_cell HNr.out.row 1 rfl
      have hgV := row_lt HNr.out.row
      go_wp2_with fail
      refine Tin.reg_begin 0 8 (by rfl) (by kernel_rfl) ?_
      refine Tin.reg_quiets [1] _ 7 rfl (by simp only [Tin.pick, List.map_cons, List.map_nil, Array.getD_eq_getD_getElem?, List.getElem?_toArray, List.getElem?_cons_zero, List.getElem?_cons_succ, Option.getD_some]; rfl) (by kernel_rfl) (by kernel_rfl) ?_
      repeat (first | go_big_quiet_step (fail))
      refine wpQuiet_nil ?_
      refine Tin.reg_two 0 2 _ _ rfl rfl (by kernel_rfl) ?_ ?_
      · try simp only [List.getElem_toArray, List.getElem_cons_succ, List.getElem_cons_zero]
        go_wp2_with (((with_reducible refine wpl_load_row rtB ?_ (.tmp 4) ?_ (w.heap.size) ?_ 33 (arr .i64 (fromL to)) ?_ ?_ ?_); rfl; rfl; rfl; simp [fromL_len, zer_len]; exact HXV.out; simp only [Act.put, List.setIfInBounds_toArray, List.set_cons_succ, List.set_cons_zero]))
        refine ⟨0, Below.refl _ _, Nat.le_refl _, ?_⟩
        refine Tin.reg_two 2 5 _ _ rfl rfl (by kernel_rfl) ?_ ?_
        · try simp only [List.getElem_toArray, List.getElem_cons_succ, List.getElem_cons_zero]
          go_wp2_with fail
          refine ⟨0, Below.refl _ _, Nat.le_refl _, ?_⟩
          refine Tin.reg_quiets [3] _ 4 rfl (by simp only [Tin.pick, List.map_cons, List.map_nil, Array.getD_eq_getD_getElem?, List.getElem?_toArray, List.getElem?_cons_zero, List.getElem?_cons_succ, Option.getD_some]; rfl) (by kernel_rfl) (by kernel_rfl) ?_
          repeat (first | go_big_quiet_step (fail))
          refine wpQuiet_nil ?_
          refine Tin.reg_two 4 5 _ _ rfl rfl (by kernel_rfl) ?_ ?_
          · try simp only [List.getElem_toArray, List.getElem_cons_succ, List.getElem_cons_zero]
            go_wp2_with fail
            refine ⟨0, Below.refl _ _, Nat.le_refl _, ?_⟩
            refine Tin.reg_one 5 _ rfl (by kernel_rfl) ?_
            try simp only [List.getElem_toArray, List.getElem_cons_succ, List.getElem_cons_zero]
            refine wpl_store_row rtB rfl (.tmp 4) (.tmp 78) rfl w.heap.size rfl (arr .i64 (fromL to)) rfl arr_one 33 (by simp [fromL_len]) _ (by simp [fromL_len]) HXV.out ?_
            intro w5 hr5 hg5 hs5
            try simp only [Act.put]
            have c5 := (hg5.cell_far ⟨g, 1, none⟩ hgV (by simpa using Ne.symm hXg)).trans c1V
            refine ⟨0, gb0 hg5, Nat.le_refl _, ?_⟩
            refine Tin.reg_quiets [6, 7] _ 0 rfl (by simp only [Tin.pick, List.map_cons, List.map_nil, Array.getD_eq_getD_getElem?, List.getElem?_toArray, List.getElem?_cons_zero, List.getElem?_cons_succ, Option.getD_some]; rfl) (by kernel_rfl) (by kernel_rfl) ?_
            repeat (first | go_big_quiet_step (fail))
            refine wpQuiet_nil ?_
            refine Tin.reg_done (by kernel_rfl) ?_
            go_wp2_with fail
            exact bodyPost_ret (res_arr_tmp2 at27 rfl _ _ w.heap.size 33 rfl (.int .i64 (used : Int)) (.int .i64 0) rfl rfl (fromL_len to) hr5) rfl ⟨by rw [HK.out.1, HK.out.2.1, HK.out.2.2], HBV.out.grown (w := V) (ungr hg5) HBV.out.size (fun k hk => by cases hk; exact Nat.le_refl _)⟩
          · try simp only [List.getElem_toArray, List.getElem_cons_succ, List.getElem_cons_zero]
            refine wpl_store_row rtB rfl (.tmp 4) (.tmp 78) rfl w.heap.size rfl (arr .i64 (fromL to)) rfl arr_one 33 (by simp [fromL_len]) _ (by simp [fromL_len]) HXV.out ?_
            intro w5 hr5 hg5 hs5
            try simp only [Act.put]
            have c5 := (hg5.cell_far ⟨g, 1, none⟩ hgV (by simpa using Ne.symm hXg)).trans c1V
            refine ⟨0, gb0 hg5, Nat.le_refl _, ?_⟩
            refine Tin.reg_one 4 _ rfl (by kernel_rfl) ?_
            try simp only [List.getElem_toArray, List.getElem_cons_succ, List.getElem_cons_zero]
            go_wp2_with fail
            refine ⟨0, Below.refl _ _, Nat.le_refl _, ?_⟩
            refine Tin.reg_quiets [6, 7] _ 0 rfl (by simp only [Tin.pick, List.map_cons, List.map_nil, Array.getD_eq_getD_getElem?, List.getElem?_toArray, List.getElem?_cons_zero, List.getElem?_cons_succ, Option.getD_some]; rfl) (by kernel_rfl) (by kernel_rfl) ?_
            repeat (first | go_big_quiet_step (fail))
            refine wpQuiet_nil ?_
            refine Tin.reg_done (by kernel_rfl) ?_
            go_wp2_with fail
            exact bodyPost_ret (res_arr_tmp2 at27 rfl _ _ w.heap.size 33 rfl (.int .i64 (used : Int)) (.int .i64 0) rfl rfl (fromL_len to) hr5) rfl ⟨by rw [HK.out.1, HK.out.2.1, HK.out.2.2], HBV.out.grown (w := V) (ungr hg5) HBV.out.size (fun k hk => by cases hk; exact Nat.le_refl _)⟩
        · try simp only [List.getElem_toArray, List.getElem_cons_succ, List.getElem_cons_zero]
          refine wpl_store_row rtB rfl (.tmp 4) (.tmp 78) rfl w.heap.size rfl (arr .i64 (fromL to)) rfl arr_one 33 (by simp [fromL_len]) _ (by simp [fromL_len]) HXV.out ?_
          intro w5 hr5 hg5 hs5
          try simp only [Act.put]
          have c5 := (hg5.cell_far ⟨g, 1, none⟩ hgV (by simpa using Ne.symm hXg)).trans c1V
          refine ⟨0, gb0 hg5, Nat.le_refl _, ?_⟩
          refine Tin.reg_one 2 _ rfl (by kernel_rfl) ?_
          try simp only [List.getElem_toArray, List.getElem_cons_succ, List.getElem_cons_zero]
          go_wp2_with fail
          refine ⟨0, Below.refl _ _, Nat.le_refl _, ?_⟩
          refine Tin.reg_quiets [3] _ 3 rfl (by simp only [Tin.pick, List.map_cons, List.map_nil, Array.getD_eq_getD_getElem?, List.getElem?_toArray, List.getElem?_cons_zero, List.getElem?_cons_succ, Option.getD_some]; rfl) (by kernel_rfl) (by kernel_rfl) ?_
          repeat (first | go_big_quiet_step (fail))
          refine wpQuiet_nil ?_
          refine Tin.reg_one 4 _ rfl (by kernel_rfl) ?_
          try simp only [List.getElem_toArray, List.getElem_cons_succ, List.getElem_cons_zero]
          go_wp2_with fail
          refine ⟨0, Below.refl _ _, Nat.le_refl _, ?_⟩
          refine Tin.reg_quiets [6, 7] _ 0 rfl (by simp only [Tin.pick, List.map_cons, List.map_nil, Array.getD_eq_getD_getElem?, List.getElem?_toArray, List.getElem?_cons_zero, List.getElem?_cons_succ, Option.getD_some]; rfl) (by kernel_rfl) (by kernel_rfl) ?_
          repeat (first | go_big_quiet_step (fail))
          refine wpQuiet_nil ?_
          refine Tin.reg_done (by kernel_rfl) ?_
          go_wp2_with fail
          exact bodyPost_ret (res_arr_tmp2 at27 rfl _ _ w.heap.size 33 rfl (.int .i64 (used : Int)) (.int .i64 0) rfl rfl (fromL_len to) hr5) rfl ⟨by rw [HK.out.1, HK.out.2.1, HK.out.2.2], HBV.out.grown (w := V) (ungr hg5) HBV.out.size (fun k hk => by cases hk; exact Nat.le_refl _)⟩
      · try simp only [List.getElem_toArray, List.getElem_cons_succ, List.getElem_cons_zero]
        go_wp2_with fail
        refine ⟨0, Below.refl _ _, Nat.le_refl _, ?_⟩
        refine Tin.reg_quiets [3] _ 5 rfl (by simp only [Tin.pick, List.map_cons, List.map_nil, Array.getD_eq_getD_getElem?, List.getElem?_toArray, List.getElem?_cons_zero, List.getElem?_cons_succ, Option.getD_some]; rfl) (by kernel_rfl) (by kernel_rfl) ?_
        repeat (first | go_big_quiet_step (fail))
        refine wpQuiet_nil ?_
        refine Tin.reg_two 0 4 _ _ rfl rfl (by kernel_rfl) ?_ ?_
        · try simp only [List.getElem_toArray, List.getElem_cons_succ, List.getElem_cons_zero]
          go_wp2_with (((with_reducible refine wpl_load_row rtB ?_ (.tmp 4) ?_ (w.heap.size) ?_ 33 (arr .i64 (fromL to)) ?_ ?_ ?_); rfl; rfl; rfl; simp [fromL_len, zer_len]; exact HXV.out; simp only [Act.put, List.setIfInBounds_toArray, List.set_cons_succ, List.set_cons_zero]))
          refine ⟨0, Below.refl _ _, Nat.le_refl _, ?_⟩
          refine Tin.reg_two 4 5 _ _ rfl rfl (by kernel_rfl) ?_ ?_
          · try simp only [List.getElem_toArray, List.getElem_cons_succ, List.getElem_cons_zero]
            go_wp2_with fail
            refine ⟨0, Below.refl _ _, Nat.le_refl _, ?_⟩
            refine Tin.reg_one 5 _ rfl (by kernel_rfl) ?_
            try simp only [List.getElem_toArray, List.getElem_cons_succ, List.getElem_cons_zero]
            refine wpl_store_row rtB rfl (.tmp 4) (.tmp 78) rfl w.heap.size rfl (arr .i64 (fromL to)) rfl arr_one 33 (by simp [fromL_len]) _ (by simp [fromL_len]) HXV.out ?_
            intro w5 hr5 hg5 hs5
            try simp only [Act.put]
            have c5 := (hg5.cell_far ⟨g, 1, none⟩ hgV (by simpa using Ne.symm hXg)).trans c1V
            refine ⟨0, gb0 hg5, Nat.le_refl _, ?_⟩
            refine Tin.reg_quiets [6, 7] _ 0 rfl (by simp only [Tin.pick, List.map_cons, List.map_nil, Array.getD_eq_getD_getElem?, List.getElem?_toArray, List.getElem?_cons_zero, List.getElem?_cons_succ, Option.getD_some]; rfl) (by kernel_rfl) (by kernel_rfl) ?_
            repeat (first | go_big_quiet_step (fail))
            refine wpQuiet_nil ?_
            refine Tin.reg_done (by kernel_rfl) ?_
            go_wp2_with fail
            exact bodyPost_ret (res_arr_tmp2 at27 rfl _ _ w.heap.size 33 rfl (.int .i64 (used : Int)) (.int .i64 0) rfl rfl (fromL_len to) hr5) rfl ⟨by rw [HK.out.1, HK.out.2.1, HK.out.2.2], HBV.out.grown (w := V) (ungr hg5) HBV.out.size (fun k hk => by cases hk; exact Nat.le_refl _)⟩
          · try simp only [List.getElem_toArray, List.getElem_cons_succ, List.getElem_cons_zero]
            refine wpl_store_row rtB rfl (.tmp 4) (.tmp 78) rfl w.heap.size rfl (arr .i64 (fromL to)) rfl arr_one 33 (by simp [fromL_len]) _ (by simp [fromL_len]) HXV.out ?_
            intro w5 hr5 hg5 hs5
            try simp only [Act.put]
            have c5 := (hg5.cell_far ⟨g, 1, none⟩ hgV (by simpa using Ne.symm hXg)).trans c1V
            refine ⟨0, gb0 hg5, Nat.le_refl _, ?_⟩
            refine Tin.reg_one 4 _ rfl (by kernel_rfl) ?_
            try simp only [List.getElem_toArray, List.getElem_cons_succ, List.getElem_cons_zero]
            go_wp2_with fail
            refine ⟨0, Below.refl _ _, Nat.le_refl _, ?_⟩
            refine Tin.reg_quiets [6, 7] _ 0 rfl (by simp only [Tin.pick, List.map_cons, List.map_nil, Array.getD_eq_getD_getElem?, List.getElem?_toArray, List.getElem?_cons_zero, List.getElem?_cons_succ, Option.getD_some]; rfl) (by kernel_rfl) (by kernel_rfl) ?_
            repeat (first | go_big_quiet_step (fail))
            refine wpQuiet_nil ?_
            refine Tin.reg_done (by kernel_rfl) ?_
            go_wp2_with fail
            exact bodyPost_ret (res_arr_tmp2 at27 rfl _ _ w.heap.size 33 rfl (.int .i64 (used : Int)) (.int .i64 0) rfl rfl (fromL_len to) hr5) rfl ⟨by rw [HK.out.1, HK.out.2.1, HK.out.2.2], HBV.out.grown (w := V) (ungr hg5) HBV.out.size (fun k hk => by cases hk; exact Nat.le_refl _)⟩
        · try simp only [List.getElem_toArray, List.getElem_cons_succ, List.getElem_cons_zero]
          go_wp2_with fail
          refine ⟨0, Below.refl _ _, Nat.le_refl _, ?_⟩
          refine Tin.reg_one 0 _ rfl (by kernel_rfl) ?_
          try simp only [List.getElem_toArray, List.getElem_cons_succ, List.getElem_cons_zero]
          go_wp2_with (((with_reducible refine wpl_load_row rtB ?_ (.tmp 4) ?_ (w.heap.size) ?_ 33 (arr .i64 (fromL to)) ?_ ?_ ?_); rfl; rfl; rfl; simp [fromL_len, zer_len]; exact HXV.out; simp only [Act.put, List.setIfInBounds_toArray, List.set_cons_succ, List.set_cons_zero]))
          refine ⟨0, Below.refl _ _, Nat.le_refl _, ?_⟩
          refine Tin.reg_one 5 _ rfl (by kernel_rfl) ?_
          try simp only [List.getElem_toArray, List.getElem_cons_succ, List.getElem_cons_zero]
          refine wpl_store_row rtB rfl (.tmp 4) (.tmp 78) rfl w.heap.size rfl (arr .i64 (fromL to)) rfl arr_one 33 (by simp [fromL_len]) _ (by simp [fromL_len]) HXV.out ?_
          intro w5 hr5 hg5 hs5
          try simp only [Act.put]
          have c5 := (hg5.cell_far ⟨g, 1, none⟩ hgV (by simpa using Ne.symm hXg)).trans c1V
          refine ⟨0, gb0 hg5, Nat.le_refl _, ?_⟩
          refine Tin.reg_quiets [6, 7] _ 0 rfl (by simp only [Tin.pick, List.map_cons, List.map_nil, Array.getD_eq_getD_getElem?, List.getElem?_toArray, List.getElem?_cons_zero, List.getElem?_cons_succ, Option.getD_some]; rfl) (by kernel_rfl) (by kernel_rfl) ?_
          repeat (first | go_big_quiet_step (fail))
          refine wpQuiet_nil ?_
          refine Tin.reg_done (by kernel_rfl) ?_
          go_wp2_with fail
          exact bodyPost_ret (res_arr_tmp2 at27 rfl _ _ w.heap.size 33 rfl (.int .i64 (used : Int)) (.int .i64 0) rfl rfl (fromL_len to) hr5) rfl ⟨by rw [HK.out.1, HK.out.2.1, HK.out.2.2], HBV.out.grown (w := V) (ungr hg5) HBV.out.size (fun k hk => by cases hk; exact Nat.le_refl _)⟩
    have k64 : (k : Int) < 64 := by omega
    by_cases hun : used = n
    · have HK := Lib.hid (bk_err hl 3 (by decide) _ _ (HRr.out.trans (rdL_out (by omega) hun)))
      go_wp2_with fail
      refine (next_end wr g A n c zs (by rw [hun] at HNr; exact HNr.out) 1 10).mono ?_
      rintro e V ⟨rfl, hb⟩
      have HXV := Lib.hid ((hb.block _ (row_lt HXr.out)).trans HXr.out)
      have HBV := Lib.hid (HBr.out.trans (hb.mono HBr.out.size))
      go_wp2_with ((with_reducible refine wpl_store_row rtB ?_ (.tmp 4) (.tmp 52) ?_ (w.heap.size) ?_ (arr .i64 zer) ?_ arr_one 33 ?_ _ ?_ HXV.out ?_); rfl; rfl; rfl; rfl; simp [fromL_len, zer_len]; simp [fromL_len, zer_len]; intro w5 hr5 hg5 hs5; (try simp only [Act.put]))
      exact bodyPost_ret (res_arr_tmp2 at27 rfl _ _ w.heap.size 33 rfl (.int .i64 0) (.int .i64 (3)) rfl rfl zer_len hr5) rfl ⟨by rw [HK.out.1, HK.out.2.1, HK.out.2.2]; rfl, HBV.out.grown hg5 HBV.out.size (fun k hk => by cases hk; exact Nat.le_refl _)⟩
    go_wp2_with fail
    refine (next_some wr g A n c zs used HNr.out (by omega) HWF.out 1 10 (.inl rfl)).mono ?_
    by_cases ho : okA zs used 1 10 = true
    case neg =>
      have ho : okA zs used 1 10 = false := by simpa using ho
      have HK := Lib.hid (bk_err hl 2 (by decide) _ _ (HRr.out.trans (rdL_no (by omega) hun ho)))
      rintro e V ⟨-, h2⟩
      obtain ⟨rfl, hb⟩ := h2 ho
      have HXV := Lib.hid ((hb.block _ (row_lt HXr.out)).trans HXr.out)
      have HBV := Lib.hid (HBr.out.trans (hb.mono HBr.out.size))
      go_wp2_with ((with_reducible refine wpl_store_row rtB ?_ (.tmp 4) (.tmp 52) ?_ (w.heap.size) ?_ (arr .i64 zer) ?_ arr_one 33 ?_ _ ?_ HXV.out ?_); rfl; rfl; rfl; rfl; simp [fromL_len, zer_len]; simp [fromL_len, zer_len]; intro w5 hr5 hg5 hs5; (try simp only [Act.put]))
      exact bodyPost_ret (res_arr_tmp2 at27 rfl _ _ w.heap.size 33 rfl (.int .i64 0) (.int .i64 (2)) rfl rfl zer_len hr5) rfl ⟨by rw [HK.out.1, HK.out.2.1, HK.out.2.2]; rfl, HBV.out.grown hg5 HBV.out.size (fun k hk => by cases hk; exact Nat.le_refl _)⟩
    rintro e V ⟨h1, -⟩
    obtain ⟨rfl, hns, hfr⟩ := h1 ho
    have HXV := Lib.hid (fr_row hfr HXr.out hXg)
    have HBV := Lib.hid (frn_below hfr HBr.out hXg' HBr.out.size)
    obtain ⟨-, -, s0, s1, s2, -⟩ := okA_facts ho
    have hvb := vlA_bd ho
    have hvz := vlA_zero ho
    have HSTOP := Lib.hid (fun h => HRr.out.trans (rdL_stop (by omega) hun ho h))
    have HBAD := Lib.hid (fun h h' => HRr.out.trans (rdL_bad (by omega) hun ho h h'))
    have HGO := Lib.hid (fun h h' => HRr.out.trans (rdL_go (by omega) hun ho h h'))
    generalize hsy : syA zs used = sy at *
    generalize hvl : vlA zs used = vl at *
    obtain ⟨R, hR⟩ := Int.eq_ofNat_of_zero_le (show 0 ≤ sy / 16 by omega)
    have hRt : (sy / 16).toNat = R := by omega
    rw [hRt] at HBAD HGO
    rw [hR]
    have hR15 : R ≤ 15 := by omega
    have HNV := Lib.hid hns
    clear hsy hvl h1 hfr hns ho HNr HXr HBr HRr
    by_cases hs0 : sy = 0
    · have hR0 : R = 0 := by omega
      have hv0 : vl = 0 := hvz.2 (by omega)
      have HK := Lib.hid (bk_ok hl _ _ (HSTOP.out hs0))
      obtain ⟨u1, hu1⟩ : ∃ u1, u1 = used + 1 := ⟨_, rfl⟩
      rw [← hu1] at HK HNV
      have dv : (vl == 0) = true := by simp [hv0]
      have dR : ((R : Int) == 0) = true := by simp [hR0]
      clear hv0 hvz hR hRt hs0 HGO HBAD HSTOP s0 s1 s2 hR15
      clear hR0
      have c1V := row_cell HNV.out.row 1 rfl
      have hgV := row_lt HNV.out.row
      clear hu1
      go_wp2_with fail
      refine Tin.reg_begin 0 8 (by rfl) (by kernel_rfl) ?_
      refine Tin.reg_quiets [1] _ 7 rfl (by simp only [Tin.pick, List.map_cons, List.map_nil, Array.getD_eq_getD_getElem?, List.getElem?_toArray, List.getElem?_cons_zero, List.getElem?_cons_succ, Option.getD_some]; rfl) (by kernel_rfl) (by kernel_rfl) ?_
      repeat (first | go_big_quiet_step (fail))
      refine wpQuiet_nil ?_
      refine Tin.reg_two 0 2 _ _ rfl rfl (by kernel_rfl) ?_ ?_
      · try simp only [List.getElem_toArray, List.getElem_cons_succ, List.getElem_cons_zero]
        go_wp2_with (((with_reducible refine wpl_load_row rtB ?_ (.tmp 4) ?_ (w.heap.size) ?_ 33 (arr .i64 (fromL to)) ?_ ?_ ?_); rfl; rfl; rfl; simp [fromL_len, zer_len]; exact HXV.out; simp only [Act.put, List.setIfInBounds_toArray, List.set_cons_succ, List.set_cons_zero]))
        refine ⟨0, Below.refl _ _, Nat.le_refl _, ?_⟩
        refine Tin.reg_two 2 5 _ _ rfl rfl (by kernel_rfl) ?_ ?_
        · try simp only [List.getElem_toArray, List.getElem_cons_succ, List.getElem_cons_zero]
          go_wp2_with fail
          refine ⟨0, Below.refl _ _, Nat.le_refl _, ?_⟩
          refine Tin.reg_quiets [3] _ 4 rfl (by simp only [Tin.pick, List.map_cons, List.map_nil, Array.getD_eq_getD_getElem?, List.getElem?_toArray, List.getElem?_cons_zero, List.getElem?_cons_succ, Option.getD_some]; rfl) (by kernel_rfl) (by kernel_rfl) ?_
          repeat (first | go_big_quiet_step (fail))
          refine wpQuiet_nil ?_
          refine Tin.reg_two 4 5 _ _ rfl rfl (by kernel_rfl) ?_ ?_
          · try simp only [List.getElem_toArray, List.getElem_cons_succ, List.getElem_cons_zero]
            go_wp2_with fail
            refine ⟨0, Below.refl _ _, Nat.le_refl _, ?_⟩
            refine Tin.reg_one 5 _ rfl (by kernel_rfl) ?_
            try simp only [List.getElem_toArray, List.getElem_cons_succ, List.getElem_cons_zero]
            refine wpl_store_row rtB rfl (.tmp 4) (.tmp 78) rfl w.heap.size rfl (arr .i64 (fromL to)) rfl arr_one 33 (by simp [fromL_len]) _ (by simp [fromL_len]) HXV.out ?_
            intro w5 hr5 hg5 hs5
            try simp only [Act.put]
            have c5 := (hg5.cell_far ⟨g, 1, none⟩ hgV (by simpa using Ne.symm hXg)).trans c1V
            refine ⟨0, gb0 hg5, Nat.le_refl _, ?_⟩
            refine Tin.reg_quiets [6, 7] _ 0 rfl (by simp only [Tin.pick, List.map_cons, List.map_nil, Array.getD_eq_getD_getElem?, List.getElem?_toArray, List.getElem?_cons_zero, List.getElem?_cons_succ, Option.getD_some]; rfl) (by kernel_rfl) (by kernel_rfl) ?_
            repeat (first | go_big_quiet_step (fail))
            refine wpQuiet_nil ?_
            refine Tin.reg_done (by kernel_rfl) ?_
            go_wp2_with fail
            exact bodyPost_ret (res_arr_tmp2 at27 rfl _ _ w.heap.size 33 rfl (.int .i64 (u1 : Int)) (.int .i64 0) rfl rfl (fromL_len to) hr5) rfl ⟨by rw [HK.out.1, HK.out.2.1, HK.out.2.2], HBV.out.grown (w := V) (ungr hg5) HBV.out.size (fun k hk => by cases hk; exact Nat.le_refl _)⟩
          · try simp only [List.getElem_toArray, List.getElem_cons_succ, List.getElem_cons_zero]
            refine wpl_store_row rtB rfl (.tmp 4) (.tmp 78) rfl w.heap.size rfl (arr .i64 (fromL to)) rfl arr_one 33 (by simp [fromL_len]) _ (by simp [fromL_len]) HXV.out ?_
            intro w5 hr5 hg5 hs5
            try simp only [Act.put]
            have c5 := (hg5.cell_far ⟨g, 1, none⟩ hgV (by simpa using Ne.symm hXg)).trans c1V
            refine ⟨0, gb0 hg5, Nat.le_refl _, ?_⟩
            refine Tin.reg_one 4 _ rfl (by kernel_rfl) ?_
            try simp only [List.getElem_toArray, List.getElem_cons_succ, List.getElem_cons_zero]
            go_wp2_with fail
            refine ⟨0, Below.refl _ _, Nat.le_refl _, ?_⟩
            refine Tin.reg_quiets [6, 7] _ 0 rfl (by simp only [Tin.pick, List.map_cons, List.map_nil, Array.getD_eq_getD_getElem?, List.getElem?_toArray, List.getElem?_cons_zero, List.getElem?_cons_succ, Option.getD_some]; rfl) (by kernel_rfl) (by kernel_rfl) ?_
            repeat (first | go_big_quiet_step (fail))
            refine wpQuiet_nil ?_
            refine Tin.reg_done (by kernel_rfl) ?_
            go_wp2_with fail
            exact bodyPost_ret (res_arr_tmp2 at27 rfl _ _ w.heap.size 33 rfl (.int .i64 (u1 : Int)) (.int .i64 0) rfl rfl (fromL_len to) hr5) rfl ⟨by rw [HK.out.1, HK.out.2.1, HK.out.2.2], HBV.out.grown (w := V) (ungr hg5) HBV.out.size (fun k hk => by cases hk; exact Nat.le_refl _)⟩
        · try simp only [List.getElem_toArray, List.getElem_cons_succ, List.getElem_cons_zero]
          refine wpl_store_row rtB rfl (.tmp 4) (.tmp 78) rfl w.heap.size rfl (arr .i64 (fromL to)) rfl arr_one 33 (by simp [fromL_len]) _ (by simp [fromL_len]) HXV.out ?_
          intro w5 hr5 hg5 hs5
          try simp only [Act.put]
          have c5 := (hg5.cell_far ⟨g, 1, none⟩ hgV (by simpa using Ne.symm hXg)).trans c1V
          refine ⟨0, gb0 hg5, Nat.le_refl _, ?_⟩
          refine Tin.reg_one 2 _ rfl (by kernel_rfl) ?_
          try simp only [List.getElem_toArray, List.getElem_cons_succ, List.getElem_cons_zero]
          go_wp2_with fail
          refine ⟨0, Below.refl _ _, Nat.le_refl _, ?_⟩
          refine Tin.reg_quiets [3] _ 3 rfl (by simp only [Tin.pick, List.map_cons, List.map_nil, Array.getD_eq_getD_getElem?, List.getElem?_toArray, List.getElem?_cons_zero, List.getElem?_cons_succ, Option.getD_some]; rfl) (by kernel_rfl) (by kernel_rfl) ?_
          repeat (first | go_big_quiet_step (fail))
          refine wpQuiet_nil ?_
          refine Tin.reg_one 4 _ rfl (by kernel_rfl) ?_
          try simp only [List.getElem_toArray, List.getElem_cons_succ, List.getElem_cons_zero]
          go_wp2_with fail
          refine ⟨0, Below.refl _ _, Nat.le_refl _, ?_⟩
          refine Tin.reg_quiets [6, 7] _ 0 rfl (by simp only [Tin.pick, List.map_cons, List.map_nil, Array.getD_eq_getD_getElem?, List.getElem?_toArray, List.getElem?_cons_zero, List.getElem?_cons_succ, Option.getD_some]; rfl) (by kernel_rfl) (by kernel_rfl) ?_
          repeat (first | go_big_quiet_step (fail))
          refine wpQuiet_nil ?_
          refine Tin.reg_done (by kernel_rfl) ?_
          go_wp2_with fail
          exact bodyPost_ret (res_arr_tmp2 at27 rfl _ _ w.heap.size 33 rfl (.int .i64 (u1 : Int)) (.int .i64 0) rfl rfl (fromL_len to) hr5) rfl ⟨by rw [HK.out.1, HK.out.2.1, HK.out.2.2], HBV.out.grown (w := V) (ungr hg5) HBV.out.size (fun k hk => by cases hk; exact Nat.le_refl _)⟩
      · try simp only [List.getElem_toArray, List.getElem_cons_succ, List.getElem_cons_zero]
        go_wp2_with fail
        refine ⟨0, Below.refl _ _, Nat.le_refl _, ?_⟩
        refine Tin.reg_quiets [3] _ 5 rfl (by simp only [Tin.pick, List.map_cons, List.map_nil, Array.getD_eq_getD_getElem?, List.getElem?_toArray, List.getElem?_cons_zero, List.getElem?_cons_succ, Option.getD_some]; rfl) (by kernel_rfl) (by kernel_rfl) ?_
        repeat (first | go_big_quiet_step (fail))
        refine wpQuiet_nil ?_
        refine Tin.reg_two 0 4 _ _ rfl rfl (by kernel_rfl) ?_ ?_
        · try simp only [List.getElem_toArray, List.getElem_cons_succ, List.getElem_cons_zero]
          go_wp2_with (((with_reducible refine wpl_load_row rtB ?_ (.tmp 4) ?_ (w.heap.size) ?_ 33 (arr .i64 (fromL to)) ?_ ?_ ?_); rfl; rfl; rfl; simp [fromL_len, zer_len]; exact HXV.out; simp only [Act.put, List.setIfInBounds_toArray, List.set_cons_succ, List.set_cons_zero]))
          refine ⟨0, Below.refl _ _, Nat.le_refl _, ?_⟩
          refine Tin.reg_two 4 5 _ _ rfl rfl (by kernel_rfl) ?_ ?_
          · try simp only [List.getElem_toArray, List.getElem_cons_succ, List.getElem_cons_zero]
            go_wp2_with fail
            refine ⟨0, Below.refl _ _, Nat.le_refl _, ?_⟩
            refine Tin.reg_one 5 _ rfl (by kernel_rfl) ?_
            try simp only [List.getElem_toArray, List.getElem_cons_succ, List.getElem_cons_zero]
            refine wpl_store_row rtB rfl (.tmp 4) (.tmp 78) rfl w.heap.size rfl (arr .i64 (fromL to)) rfl arr_one 33 (by simp [fromL_len]) _ (by simp [fromL_len]) HXV.out ?_
            intro w5 hr5 hg5 hs5
            try simp only [Act.put]
            have c5 := (hg5.cell_far ⟨g, 1, none⟩ hgV (by simpa using Ne.symm hXg)).trans c1V
            refine ⟨0, gb0 hg5, Nat.le_refl _, ?_⟩
            refine Tin.reg_quiets [6, 7] _ 0 rfl (by simp only [Tin.pick, List.map_cons, List.map_nil, Array.getD_eq_getD_getElem?, List.getElem?_toArray, List.getElem?_cons_zero, List.getElem?_cons_succ, Option.getD_some]; rfl) (by kernel_rfl) (by kernel_rfl) ?_
            repeat (first | go_big_quiet_step (fail))
            refine wpQuiet_nil ?_
            refine Tin.reg_done (by kernel_rfl) ?_
            go_wp2_with fail
            exact bodyPost_ret (res_arr_tmp2 at27 rfl _ _ w.heap.size 33 rfl (.int .i64 (u1 : Int)) (.int .i64 0) rfl rfl (fromL_len to) hr5) rfl ⟨by rw [HK.out.1, HK.out.2.1, HK.out.2.2], HBV.out.grown (w := V) (ungr hg5) HBV.out.size (fun k hk => by cases hk; exact Nat.le_refl _)⟩
          · try simp only [List.getElem_toArray, List.getElem_cons_succ, List.getElem_cons_zero]
            refine wpl_store_row rtB rfl (.tmp 4) (.tmp 78) rfl w.heap.size rfl (arr .i64 (fromL to)) rfl arr_one 33 (by simp [fromL_len]) _ (by simp [fromL_len]) HXV.out ?_
            intro w5 hr5 hg5 hs5
            try simp only [Act.put]
            have c5 := (hg5.cell_far ⟨g, 1, none⟩ hgV (by simpa using Ne.symm hXg)).trans c1V
            refine ⟨0, gb0 hg5, Nat.le_refl _, ?_⟩
            refine Tin.reg_one 4 _ rfl (by kernel_rfl) ?_
            try simp only [List.getElem_toArray, List.getElem_cons_succ, List.getElem_cons_zero]
            go_wp2_with fail
            refine ⟨0, Below.refl _ _, Nat.le_refl _, ?_⟩
            refine Tin.reg_quiets [6, 7] _ 0 rfl (by simp only [Tin.pick, List.map_cons, List.map_nil, Array.getD_eq_getD_getElem?, List.getElem?_toArray, List.getElem?_cons_zero, List.getElem?_cons_succ, Option.getD_some]; rfl) (by kernel_rfl) (by kernel_rfl) ?_
            repeat (first | go_big_quiet_step (fail))
            refine wpQuiet_nil ?_
            refine Tin.reg_done (by kernel_rfl) ?_
            go_wp2_with fail
            exact bodyPost_ret (res_arr_tmp2 at27 rfl _ _ w.heap.size 33 rfl (.int .i64 (u1 : Int)) (.int .i64 0) rfl rfl (fromL_len to) hr5) rfl ⟨by rw [HK.out.1, HK.out.2.1, HK.out.2.2], HBV.out.grown (w := V) (ungr hg5) HBV.out.size (fun k hk => by cases hk; exact Nat.le_refl _)⟩
        · try simp only [List.getElem_toArray, List.getElem_cons_succ, List.getElem_cons_zero]
          go_wp2_with fail
          refine ⟨0, Below.refl _ _, Nat.le_refl _, ?_⟩
          refine Tin.reg_one 0 _ rfl (by kernel_rfl) ?_
          try simp only [List.getElem_toArray, List.getElem_cons_succ, List.getElem_cons_zero]
          go_wp2_with (((with_reducible refine wpl_load_row rtB ?_ (.tmp 4) ?_ (w.heap.size) ?_ 33 (arr .i64 (fromL to)) ?_ ?_ ?_); rfl; rfl; rfl; simp [fromL_len, zer_len]; exact HXV.out; simp only [Act.put, List.setIfInBounds_toArray, List.set_cons_succ, List.set_cons_zero]))
          refine ⟨0, Below.refl _ _, Nat.le_refl _, ?_⟩
          refine Tin.reg_one 5 _ rfl (by kernel_rfl) ?_
          try simp only [List.getElem_toArray, List.getElem_cons_succ, List.getElem_cons_zero]
          refine wpl_store_row rtB rfl (.tmp 4) (.tmp 78) rfl w.heap.size rfl (arr .i64 (fromL to)) rfl arr_one 33 (by simp [fromL_len]) _ (by simp [fromL_len]) HXV.out ?_
          intro w5 hr5 hg5 hs5
          try simp only [Act.put]
          have c5 := (hg5.cell_far ⟨g, 1, none⟩ hgV (by simpa using Ne.symm hXg)).trans c1V
          refine ⟨0, gb0 hg5, Nat.le_refl _, ?_⟩
          refine Tin.reg_quiets [6, 7] _ 0 rfl (by simp only [Tin.pick, List.map_cons, List.map_nil, Array.getD_eq_getD_getElem?, List.getElem?_toArray, List.getElem?_cons_zero, List.getElem?_cons_succ, Option.getD_some]; rfl) (by kernel_rfl) (by kernel_rfl) ?_
          repeat (first | go_big_quiet_step (fail))
          refine wpQuiet_nil ?_
          refine Tin.reg_done (by kernel_rfl) ?_
          go_wp2_with fail
          exact bodyPost_ret (res_arr_tmp2 at27 rfl _ _ w.heap.size 33 rfl (.int .i64 (u1 : Int)) (.int .i64 0) rfl rfl (fromL_len to) hr5) rfl ⟨by rw [HK.out.1, HK.out.2.1, HK.out.2.2], HBV.out.grown (w := V) (ungr hg5) HBV.out.size (fun k hk => by cases hk; exact Nat.le_refl _)⟩
    have hs240 : sy = 240 ↔ (R = 15 ∧ sy % 16 = 0) := by omega
    by_cases hbad : (sy % 16 = 0 ∧ sy ≠ 240) ∨ 63 < k + R
    · have HK := Lib.hid (bk_err hl 2 (by decide) _ _ (HBAD.out hs0 hbad))
      clear HGO HBAD HSTOP HNV
      by_cases hv0 : vl = 0
      · have hm := hvz.1 hv0
        have hR0 : R ≠ 0 := by omega
        have dR : ((R : Int) == 0) = false := by simp; omega
        have dv : (vl == 0) = true := by simp [hv0]
        by_cases hR15' : R = 15
        · have hk63 : 64 ≤ (k : Int) + (R : Int) := by omega
          have dR2 : ((R : Int) != 15) = false := by simp [hR15']
          clear hR15' hv0 hm hvz hR hRt hs240 hbad hs0 s2
          go_wp2_with ((with_reducible refine wpl_store_row rtB ?_ (.tmp 4) (.tmp 73) ?_ (w.heap.size) ?_ (arr .i64 zer) ?_ arr_one 33 ?_ _ ?_ HXV.out ?_); rfl; rfl; rfl; rfl; simp [fromL_len, zer_len]; simp [fromL_len, zer_len]; intro w5 hr5 hg5 hs5; (try simp only [Act.put]))
          exact bodyPost_ret (res_arr_tmp2 at27 rfl _ _ w.heap.size 33 rfl (.int .i64 0) (.int .i64 (2)) rfl rfl zer_len hr5) rfl ⟨by rw [HK.out.1, HK.out.2.1, HK.out.2.2]; rfl, HBV.out.grown hg5 HBV.out.size (fun k hk => by cases hk; exact Nat.le_refl _)⟩
        · have dR2 : ((R : Int) != 15) = true := by simp; omega
          clear hR15' hv0 hm hvz hR hRt hs240 hbad hs0 s2
          go_wp2_with ((with_reducible refine wpl_store_row rtB ?_ (.tmp 4) (.tmp 73) ?_ (w.heap.size) ?_ (arr .i64 zer) ?_ arr_one 33 ?_ _ ?_ HXV.out ?_); rfl; rfl; rfl; rfl; simp [fromL_len, zer_len]; simp [fromL_len, zer_len]; intro w5 hr5 hg5 hs5; (try simp only [Act.put]))
          exact bodyPost_ret (res_arr_tmp2 at27 rfl _ _ w.heap.size 33 rfl (.int .i64 0) (.int .i64 (2)) rfl rfl zer_len hr5) rfl ⟨by rw [HK.out.1, HK.out.2.1, HK.out.2.2]; rfl, HBV.out.grown hg5 HBV.out.size (fun k hk => by cases hk; exact Nat.le_refl _)⟩
      · have dv : (vl == 0) = false := by simp [hv0]
        have hk63 : 64 ≤ (k : Int) + (R : Int) := by
          have : ¬ sy % 16 = 0 := fun h => hv0 (hvz.2 h)
          omega
        clear hv0 hvz hR hRt hs240 hbad hs0 s2
        go_wp2_with ((with_reducible refine wpl_store_row rtB ?_ (.tmp 4) (.tmp 73) ?_ (w.heap.size) ?_ (arr .i64 zer) ?_ arr_one 33 ?_ _ ?_ HXV.out ?_); rfl; rfl; rfl; rfl; simp [fromL_len, zer_len]; simp [fromL_len, zer_len]; intro w5 hr5 hg5 hs5; (try simp only [Act.put]))
        exact bodyPost_ret (res_arr_tmp2 at27 rfl _ _ w.heap.size 33 rfl (.int .i64 0) (.int .i64 (2)) rfl rfl zer_len hr5) rfl ⟨by rw [HK.out.1, HK.out.2.1, HK.out.2.2]; rfl, HBV.out.grown hg5 HBV.out.size (fun k hk => by cases hk; exact Nat.le_refl _)⟩
    have HG := Lib.hid (HGO.out hs0 hbad)
    have hkR : k + R < 64 := by omega
    have hkR' : (k : Int) + (R : Int) < 64 := by omega
    obtain ⟨Z, hZ⟩ := Int.eq_ofNat_of_zero_le (zig_bd (k + R) hkR).1
    have hZ64 : Z < 64 := by have := (zig_bd (k + R) hkR).2; omega
    have HAT := Lib.hid (show ∀ W, Calls Try.prog 25 #[.int .i64 ((k : Int) + (R : Int))] W fun e w' => e = .returned (.int .i64 (Z : Int)) ∧ Below W.heap.size W w' from fun W => by
      have h := at_in (k + R) hkR W
      rw [hZ] at h
      exact h)
    have HFS := Lib.hid (fromL_set to hto (k + R) hkR vl)
    rw [hZ] at HFS
    clear HGO HBAD HSTOP hZ
    have hcase : (vl = 0 ∧ R = 15) ∨ vl ≠ 0 := by
      by_cases h : vl = 0
      · have := hvz.1 h
        exact .inl ⟨h, by omega⟩
      · exact .inr h
    rcases hcase with ⟨hv0, hR0⟩ | hv0
    · have dv : (vl == 0) = true := by simp [hv0]
      have dR : ((R : Int) == 0) = false := by simp; omega
      have dR2 : ((R : Int) != 15) = false := by simp [hR0]
      clear hv0 hR0 hvz hR hRt hs240 hbad hs0 s2
      go_wp2_with fail
      refine (HAT.out _).mono ?_
      rintro e V' ⟨rfl, hb⟩
      have HX' := Lib.hid ((hb.block _ (row_lt HXV.out)).trans HXV.out)
      have HN' := Lib.hid (HNV.out.keep hb)
      have HB' := Lib.hid (HBV.out.trans (hb.mono HBV.out.size))
      have cz : V'.cell? ⟨w.heap.size, Z, none⟩ = some (.int .i64 (nth (fromL to) Z)) := blk_cell HX'.out Z (by rw [fromL_len]; omega)
      have fz : V'.frozen? ⟨w.heap.size, Z, none⟩ = false := frozen_of_row _ _ _ _ _ HX'.out
      generalize nth (fromL to) Z = old at cz
      clear hb HXV HNV HBV
      go_wp2_with fail
      go_roundw
      case rel => exact ⟨k + R + 1, used + 1, to.set (k + R) vl, by omega, by omega, by simp [hto], by go_num, HN'.out.set hXg (fun _ a ha => by have := hA a ha; omega) _, by rw [HFS.out]; exact blk_set HX'.out Z vl, HB'.out.setCell (p := ⟨w.heap.size, Z, none⟩) (Nat.le_refl _) _, f, by omega, HG.out⟩
      case measure => simp [intOf]; omega
    · have dv : (vl == 0) = false := by simp [hv0]
      clear hv0 hvz hR hRt hs240 hbad hs0 s2
      go_wp2_with fail
      refine (HAT.out _).mono ?_
      rintro e V' ⟨rfl, hb⟩
      have HX' := Lib.hid ((hb.block _ (row_lt HXV.out)).trans HXV.out)
      have HN' := Lib.hid (HNV.out.keep hb)
      have HB' := Lib.hid (HBV.out.trans (hb.mono HBV.out.size))
      have cz : V'.cell? ⟨w.heap.size, Z, none⟩ = some (.int .i64 (nth (fromL to) Z)) := blk_cell HX'.out Z (by rw [fromL_len]; omega)
      have fz : V'.frozen? ⟨w.heap.size, Z, none⟩ = false := frozen_of_row _ _ _ _ _ HX'.out
      generalize nth (fromL to) Z = old at cz
      clear hb HXV HNV HBV
      go_wp2_with fail
      go_roundw
      case rel => exact ⟨k + R + 1, used + 1, to.set (k + R) vl, by omega, by omega, by simp [hto], by go_num, HN'.out.set hXg (fun _ a ha => by have := hA a ha; omega) _, by rw [HFS.out]; exact blk_set HX'.out Z vl, HB'.out.setCell (p := ⟨w.heap.size, Z, none⟩) (Nat.le_refl _) _, f, by omega, HG.out⟩
      case measure => simp [intOf]; omega
end Go.Proofs.Ytckkncblbagfmaa
