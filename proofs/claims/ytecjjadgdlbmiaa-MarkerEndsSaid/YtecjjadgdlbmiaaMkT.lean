/- MarkerReads: the walk. -/
import Derived.Test.YtecjjadgdlbmiaaMkR
namespace Go.Proofs.Ytecjjadgdlbmiaa
open Go.RowKit
open Go.Tin
set_option linter.unusedVariables false
set_option linter.unusedSimpArgs false


def oL : Lo → List Sg
  | .err _ _ => []
  | .ok L _ => L
def oA : Lo → Int
  | .err _ _ => 0
  | .ok _ a => a
def oP : Lo → Int
  | .err p _ => p
  | .ok _ _ => 0
def oQ : Lo → Int
  | .err _ q => q
  | .ok _ _ => 0
theorem OfP.uni {w : World} {r : Lo} {e : Ending} {w' : World} (h : OfP w r e w') : ∃ A c xs, e = .returned (.tuple #[.slice A (oL r).length c, .int .i64 (oA r), .int .i64 (oP r), .int .i64 (oQ r)]) ∧ OwnV 32 3 w' w.heap.size (.slice A (oL r).length c) (oL r).length xs ∧ SgV (fun v l => Own .u8 5 w' w.heap.size v l) xs (oL r) ∧ Below w.heap.size w w' := by
  cases r with
  | err p q =>
    obtain ⟨rfl, hb⟩ := h
    exact ⟨none, 0, [], rfl, OwnV.nil_ _ _ _ _, .nil, hb⟩
  | ok L a =>
    obtain ⟨A, c, xs, rfl, h1, h2, h3⟩ := h
    exact ⟨A, c, xs, rfl, h1, h2, h3⟩
theorem oL_by {l : List Int} (hb : Byts l) (hl : l.length ≤ 1000000) : BySg (oL (ofR l)) ∧ (oL (ofR l)).length ≤ l.length := by
  cases hr : ofR l with
  | err p q => exact ⟨fun s hs => (by cases hs), Nat.zero_le _⟩
  | ok L a => exact ⟨(ofR_by hb hl hr).1, (ofR_by hb hl hr).2.1⟩
/-- A row of bytes that may be cleared. -/
def ClrB (w : World) (B : Nat) (v : Value) : Prop := v = .slice none 0 0 ∨ ∃ g n cap cur, v = .slice (some ⟨g, 0, none⟩) n cap ∧ B ≤ g ∧ n ≤ cur.size ∧ w.heap[g]? = some (.cells cur 5 (0, 0))
theorem ClrB.own {w : World} {B : Nat} {v : Value} {d : List Int} (h : Own .u8 5 w B v d) : ClrB w B v := by
  rcases h.2 with ⟨rfl, _⟩ | ⟨g, cap, cur, rfl, hB, hh, hn, _, hs, _⟩
  · exact .inl rfl
  · exact .inr ⟨g, _, cap, cur, rfl, hB, by omega, hh⟩
theorem clr_run {w : World} {B : Nat} {v : Value} (h : ClrB w B v) (hB : B ≤ w.heap.size) (ty : TypeId) : ∃ w', (Builtin.clear_ #[22] ty #[v]).run Try.prog w = .ok (.tuple #[]) w' ∧ (∀ v', ClrB w B v' → ClrB w' B v') ∧ Below B w w' ∧ (∀ (q : Nat) (cs : Array Value) (t : TypeId), w.heap[q]? = some (.cells cs t (0, 0)) → t ≠ 5 → w'.heap[q]? = some (.cells cs t (0, 0))) := by
  have hzv : ∀ w, (zeroValue 5).run Try.prog w = .ok (.int .u8 0) w := fun w => by kernel_rfl
  rcases h with rfl | ⟨g, n, cap, cur, rfl, hBg, hn, hh⟩
  · exact ⟨w, by simp [Builtin.clear_, run_underlying bt5.us], fun _ h => h, Below.refl _ _, fun _ _ _ h _ => h⟩
  · by_cases h0 : n = 0
    · subst h0
      exact ⟨w, by simp [Builtin.clear_, run_underlying bt5.us], fun _ h => h, Below.refl _ _, fun _ _ _ h _ => h⟩
    have hrun := Lib.run_clear_slice (P := Try.prog) w 22 5 ty (.int .u8 0) bt5.us hzv rfl rfl g 0 n cap (by omega) (fun j hj => by rw [Nat.zero_add, cell_of_row w g j cur _ _ hh, Array.getElem?_eq_getElem (by omega)]; rfl) (fun j hj => frozen_of_row w g _ cur _ hh)
    have hg : w.grownBy (w.setCells g 0 (List.replicate n (.int .u8 0))) (some g) := grown_setCells g _ 0 _ _ (World.grownBy.refl w _)
    have hh' := setCells_heap (List.replicate n (Value.int .u8 0)) 0 w cur hh
    refine ⟨_, hrun, fun v' h' => ?_, ⟨hg.os, hg.tape, hg.output, hg.size, fun i hi => hg.block i (by omega) (fun e => by have := Option.some.inj e; omega)⟩, fun q cs t hq ht => ?_⟩
    · rcases h' with rfl | ⟨g', n', cap', cur', rfl, hB', hn', hh2⟩
      · exact .inl rfl
      · by_cases hgg : g' = g
        · subst hgg
          rw [hh] at hh2
          injection hh2 with hh2
          injection hh2 with hc _
          subst hc
          exact .inr ⟨g', n', cap', _, rfl, hB', by rw [over_size]; exact hn', hh'⟩
        · exact .inr ⟨g', n', cap', cur', rfl, hB', hn', (hg.block g' (row_lt hh2) (fun e => hgg (Option.some.inj e))).trans hh2⟩
    · refine (hg.block q (row_lt hq) fun e => ?_).trans hq
      have : q = g := Option.some.inj e
      subst this
      rw [hh] at hq
      injection hq with hq
      injection hq with _ h2
      exact ht h2.symm
theorem wpl_clr {ops : Array Oper} {rest : List Oper} {o : Oper} {a : Act} {Q : Exit → Act → World → Prop} (w : World) (hgd : o.guard = none) (x : Operand)
    (ho : o.op = .call { callee := .builtin .clear, args := #[x], argTypes := #[22] }) (B : Nat) (v : Value) (hs : a.eval x = v) (hc : ClrB w B v) (hB : B ≤ w.heap.size)
    (h : ∀ w', (∀ v', ClrB w B v' → ClrB w' B v') → Below B w w' → (∀ (q : Nat) (cs : Array Value) (t : TypeId), w.heap[q]? = some (.cells cs t (0, 0)) → t ≠ 5 → w'.heap[q]? = some (.cells cs t (0, 0))) → wpList Try.prog ops Q rest (a.put o.dst (.tuple #[])) w') : wpList Try.prog ops Q (o :: rest) a w := by
  refine wpList_plain hgd fun K hK => ?_
  obtain ⟨w', hrun, h1, h2, h3⟩ := clr_run hc hB o.type
  unfold Oper.wp execOp
  simp only [ho, resolve, invoke, builtin, Sem.run_bind, Sem.run_pure, Result.andThen_ok, List.map_toArray, List.map_cons, List.map_nil, hs, hrun]
  exact hK _ _ (h w' h1 h2 h3)
theorem ends_no {l : List Int} {at_ : Int} (h : ¬ (0 ≤ at_ ∧ at_ ≤ l.length)) : endN l at_ = 0 ∧ endB l at_ = false := by
  unfold endN endB
  rw [if_neg h, if_neg h]; exact ⟨rfl, rfl⟩
theorem ends_at {l : List Int} {k : Nat} (h : k ≤ l.length) : endN l (k : Int) = (match ofR (l.drop k) with | .ok _ a => (k : Int) + a | .err _ _ => 0) ∧ endB l (k : Int) = (match ofR (l.drop k) with | .ok _ _ => true | .err _ _ => false) := by
  unfold endN endB
  rw [if_pos ⟨by omega, by omega⟩, if_pos ⟨by omega, by omega⟩, Int.toNat_natCast]; exact ⟨rfl, rfl⟩
set_option maxRecDepth 100000 in
set_option maxHeartbeats 16000000 in
theorem mreads_any (A : Option Addr) (len cap : Nat) (l : List Int) (at_ : Int) (w : World) (hr : IsRow .u8 w A len cap l) (wat : (Lit.int .i64 at_).wf = true) :
    Calls Try.prog 3 #[.slice A len cap, .int .i64 at_] w fun e w' => e = .returned (.bool true) ∧ Below w.heap.size w w' := by
  obtain ⟨hs, hlen, hlc, hcm, hwf⟩ := Sl.of_row hr
  have hby := byts_wf hwf
  generalize l.take len = l at *
  subst hlen
  clear hwf hr
  unfold maxLen at hcm
  have HBY := Lib.hid hby
  have HS := Lib.hid hs
  clear hby hs
  by_cases h3 : 3000 < l.length
  · have i3 : (3000 : Int) < (l.length : Int) := by omega
    go_enter Try.func3, Try.ntmps3
    go_wp2_with fail
    refine (awake_any _).mono ?_
    rintro e w1 ⟨rfl, hb⟩
    go_wp2_with fail
    go_ret
    exact ⟨rfl, hb⟩
  have hl : l.length ≤ 3000 := by omega
  have i3 : (l.length : Int) ≤ 3000 := by omega
  clear h3
  have HE0 := Lib.hid (Own.new0 (k := .u8) (e := 5) w)
  have HBA := Lib.hid (ba (brefl w) (.cells #[] 5))
  have HSA := Lib.hid (HS.out.keep HBA.out)
  go_enter Try.func3, Try.ntmps3
  go_wp2_with (at_builtin; refine Tin.wpl_app bt5 _ rfl (.tmp 25) (.tmp 26) rfl w.heap.size _ [] rfl HE0.out A l.length cap l rfl HSA.out rfl (by simp; omega) (by simp; omega) (by simp) ?_; intro x1 v1 ho hg hw; rw [List.nil_append] at ho; obtain ⟨A1, c1, rfl⟩ := own_form ho; have HO := Lib.hid ho; have HB1 := Lib.hid (HE0.out.grown HBA.out (by simp) hg); clear ho hg hw)
  clear HE0 HBA HSA
  have hc1 : l.length ≤ c1 := by obtain ⟨_, _, he, _, h1, _⟩ := HO.out.sl; injection he with _ _ h2; omega
  refine (of_any A1 l c1 v1 HO.out.sl'.2 hc1 (by omega) HBY.out).mono ?_
  intro e v2 hp
  obtain ⟨A2, c2, xs, rfl, ho2, hs2, hb2⟩ := hp.uni
  clear hp
  have HLB := Lib.hid (oL_by HBY.out (show l.length ≤ 1000000 by omega))
  obtain ⟨T, hT⟩ : ∃ T, ofR l = T := ⟨_, rfl⟩
  rw [hT] at ho2 hs2 HLB ⊢
  have HT := Lib.hid hT
  have HO2 := Lib.hid ho2
  have HS2 := Lib.hid hs2
  have HB12 := Lib.hid hb2
  clear hT ho2 hs2 hb2
  go_wp2_with fail
  refine (rof_any A l cap v2 (HS.out.keep (HB1.out.trans (HB12.out.mono HB1.out.size))) hlc (by omega) HBY.out).mono ?_
  intro e v3 hp
  obtain ⟨A3, c3, ys, rfl, ho3, hs3, hb3⟩ := hp.uni
  clear hp
  rw [HT.out] at ho3 hs3 ⊢
  have HSG3 := Lib.hid (SegS.own ho3 hs3 HLB.out.1)
  have HB23 := Lib.hid hb3
  clear ho3 hs3 hb3
  go_wp2_with fail
  have HB13 := Lib.hid (HB12.out.trans (HB23.out.mono HB12.out.size))
  refine (end_any A1 l c1 at_ v3 (HO.out.sl'.2.keep HB13.out) hc1 (by omega) HBY.out wat).mono ?_
  rintro e v4 ⟨rfl, hb4⟩
  have HB34 := Lib.hid hb4
  clear hb4
  have HB24 := Lib.hid (HB23.out.trans (HB34.out.mono HB23.out.size))
  have HB14 := Lib.hid (HB12.out.trans (HB24.out.mono HB12.out.size))
  go_wp2_with fail
  have HSG2 := Lib.hid ((SegS.own HO2.out HS2.out HLB.out.1).keep HB24.out)
  have hll : (oL T).length ≤ 1000000 := Nat.le_trans HLB.out.2 (by omega)
  refine (same_any A2 A3 c2 c3 (oL T) (oL T) v4 HSG2.out (HSG3.out.keep HB34.out) hll hll).mono ?_
  rintro e v5 ⟨rfl, hb5⟩
  rw [eqG_refl]
  have HB45 := Lib.hid hb5
  clear hb5
  have HB15 := Lib.hid (HB14.out.trans (HB45.out.mono HB14.out.size))
  have HB25 := Lib.hid (HB24.out.trans (HB45.out.mono HB24.out.size))
  have HB05 := Lib.hid (HB1.out.trans (HB15.out.mono HB1.out.size))
  have k1 := Lib.hid (str_run Try.underlying22 Try.underlying5 Try.underlying9 (HO.out.sl'.2.keep HB15.out) l.length c1 rfl)
  have k2 := Lib.hid (str_run Try.underlying22 Try.underlying5 Try.underlying9 (HS.out.keep HB05.out) l.length cap rfl)
  generalize strOf l = S1 at *
  go_wp2_with fail
  rw [k1.out]
  simp only [Result.andThen]
  rw [Oper.upon_value]
  go_wp2_with fail
  rw [k2.out]
  simp only [Result.andThen]
  rw [Oper.upon_value]
  clear k1 k2
  by_cases ha0 : 0 ≤ at_
  case neg =>
    have hE := ends_no (l := l) (at_ := at_) (by omega)
    rw [hE.1, hE.2]
    clear hE
    have j1 : at_ < 0 := by omega
    go_wp2_with fail
    refine (awake_any _).mono ?_
    rintro e v6 ⟨rfl, hb6⟩
    go_wp2_with fail
    go_ret
    exact ⟨rfl, HB05.out.trans (hb6.mono HB05.out.size)⟩
  by_cases ha1 : at_ ≤ l.length
  case neg =>
    have hE := ends_no (l := l) (at_ := at_) (by omega)
    rw [hE.1, hE.2]
    clear hE
    have j1 : (l.length : Int) < at_ := by omega
    go_wp2_with fail
    refine (awake_any _).mono ?_
    rintro e v6 ⟨rfl, hb6⟩
    go_wp2_with fail
    go_ret
    exact ⟨rfl, HB05.out.trans (hb6.mono HB05.out.size)⟩
  obtain ⟨k, rfl⟩ := Int.eq_ofNat_of_zero_le ha0
  have hk : k ≤ l.length := by omega
  have hE := ends_at hk
  rw [hE.1, hE.2]
  clear hE ha0 ha1 wat
  obtain ⟨E, hEE⟩ : ∃ E, l.drop k = E := ⟨_, rfl⟩
  have HEL := Lib.hid (show l.length - k = E.length by rw [← hEE, List.length_drop])
  have hel : E.length ≤ 3000 := by rw [← HEL.out]; omega
  have HSE := Lib.hid (show Sl .u8 v5 (cutA A cap k 1) E by rw [← hEE]; exact (HS.out.keep HB05.out).cutA hlc)
  have HEB := Lib.hid (show Byts E by rw [← hEE]; exact HBY.out.drop k)
  rw [hEE]
  clear hEE
  have hce : E.length ≤ cap - k := by rw [← HEL.out]; omega
  obtain ⟨U, hU⟩ : ∃ U, ofR E = U := ⟨_, rfl⟩
  rw [hU]
  have HU := Lib.hid hU
  clear hU
  have j1 : (k : Int) ≤ (l.length : Int) := by omega
  have j0 : (0 : Int) ≤ (k : Int) := by omega
  cases U with
  | err p q =>
    have hq := ofR_err HU.out
    have nq : (q != 0) = true := by rw [bne_iff_ne]; omega
    clear hq
    go_wp2_with ((with_reducible refine Tin.wpl_cutn (P := Try.prog) (e := 5) (s := 1) Try.underlying22 sz8 ?_ (.tmp 92) (.tmp 93) ?_ A l.length cap k (k : Int) ?_ ?_ ?_ ?_ ?_); rfl; rfl; rfl; rfl; rfl; exact hk; simp only [Act.put, List.setIfInBounds_toArray, List.set_cons_succ, List.set_cons_zero])
    rw [HEL.out]
    refine (rof_any (cutA A cap k 1) E (cap - k) v5 HSE.out hce (by omega) HEB.out).mono ?_
    intro e v6 hp
    rw [HU.out] at hp
    obtain ⟨rfl, hb6⟩ := hp
    go_wp2_with fail
    refine (awake_any _).mono ?_
    rintro e v7 ⟨rfl, hb7⟩
    go_wp2_with fail
    go_ret
    exact ⟨rfl, HB05.out.trans ((hb6.mono HB05.out.size).trans (hb7.mono (Nat.le_trans HB05.out.size hb6.size)))⟩
  | ok M a =>
    have ham := (ofR_by HEB.out (by omega) HU.out).2.2
    go_wp2_with ((with_reducible refine Tin.wpl_cutn (P := Try.prog) (e := 5) (s := 1) Try.underlying22 sz8 ?_ (.tmp 92) (.tmp 93) ?_ A l.length cap k (k : Int) ?_ ?_ ?_ ?_ ?_); rfl; rfl; rfl; rfl; rfl; exact hk; simp only [Act.put, List.setIfInBounds_toArray, List.set_cons_succ, List.set_cons_zero])
    rw [HEL.out]
    refine (rof_any (cutA A cap k 1) E (cap - k) v5 HSE.out hce (by omega) HEB.out).mono ?_
    intro e v6 hp
    rw [HU.out] at hp
    obtain ⟨A6, c6, zs, rfl, _, _, hb6⟩ := hp
    have HB26 := Lib.hid (HB25.out.trans (hb6.mono HB25.out.size))
    have HB16 := Lib.hid (HB15.out.trans (hb6.mono HB15.out.size))
    clear hb6
    have HO6 := Lib.hid (HO2.out.keep HB26.out)
    have HC6 := Lib.hid (SgV.mono (fun _ _ h => ClrB.own (Own.keep h HB26.out)) HS2.out)
    go_wp2_with fail
    obtain ⟨L, hL⟩ : ∃ L, oL T = L := ⟨_, rfl⟩
    rw [hL] at HO6 HC6 hll ⊢
    clear hL
    obtain ⟨N, hN⟩ : ∃ N, L.length = N := ⟨_, rfl⟩
    rw [hN] at HO6 hll ⊢
    have HN := Lib.hid hN
    clear hN
    have HROW := Lib.hid (show (A2 = none ∧ N = 0) ∨ ∃ q cur, A2 = some ⟨q, 0, none⟩ ∧ N * 3 ≤ cur.size ∧ v6.heap[q]? = some (.cells cur 32 (0, 0)) ∧ cur.toList.take (N * 3) = xs by
      rcases HO6.out.2 with ⟨he, h0⟩ | ⟨q, cap', cur, he, _, hh, hn, _, hsz, htk⟩
      · injection he with h1 _ _
        exact .inl ⟨h1, h0⟩
      · injection he with h1 _ _
        exact .inr ⟨q, cur, h1, by rw [hsz]; exact Nat.mul_le_mul_right _ hn, hh, htk⟩)
    have HZ1 := Lib.hid HB16.out.size
    go_loopw [20] (fun s20 wr => ∃ i : Nat, i ≤ N ∧ s20 = .int .i64 (i : Int) ∧ ((A2 = none ∧ N = 0) ∨ ∃ q cur, A2 = some ⟨q, 0, none⟩ ∧ N * 3 ≤ cur.size ∧ wr.heap[q]? = some (.cells cur 32 (0, 0)) ∧ cur.toList.take (N * 3) = xs) ∧ SgV (fun v _ => ClrB wr v1.heap.size v) xs L ∧ Below v1.heap.size v1 wr) (fun s20 _ => N - (intOf s20).toNat)
    case atStart => exact ⟨0, by omega, rfl, HROW.out, SgV.mono (fun v d h => by
        rcases h with h | ⟨g, n, cap, cur, h1, h2, h3⟩
        · exact .inl h
        · exact .inr ⟨g, n, cap, cur, h1, h2, h3⟩) HC6.out, HB16.out⟩
    case round =>
      obtain ⟨i, hi, rfl, hrow, hclr, hb⟩ := hrel
      have HB := Lib.hid hb
      have HB0 := Lib.hid (HB1.out.trans (hb.mono HB1.out.size))
      by_cases hil : i < N
      case neg =>
        obtain rfl : i = N := by omega
        clear hrow hclr hb
        have k1 := Lib.hid (str_run Try.underlying22 Try.underlying5 Try.underlying9 (HO.out.sl'.2.keep HB.out) l.length c1 rfl)
        have k2 := Lib.hid (str_run Try.underlying22 Try.underlying5 Try.underlying9 (HS.out.keep HB0.out) l.length cap rfl)
        generalize strOf l = S1 at *
        go_wp2_with fail
        rw [k1.out]
        simp only [Result.andThen]
        rw [Oper.upon_value]
        go_wp2_with fail
        rw [k2.out]
        simp only [Result.andThen]
        rw [Oper.upon_value]
        clear k1 k2
        go_wp2_with fail
        refine (awake_any _).mono ?_
        rintro e v7 ⟨rfl, hb7⟩
        go_wp2_with fail
        go_ret
        exact ⟨rfl, HB0.out.trans (hb7.mono HB0.out.size)⟩
      have i1 : (i : Int) < (N : Int) := by omega
      obtain ⟨q, cur, rfl, hcs, hh, htk⟩ : ∃ q cur, A2 = some ⟨q, 0, none⟩ ∧ N * 3 ≤ cur.size ∧ wr.heap[q]? = some (.cells cur 32 (0, 0)) ∧ cur.toList.take (N * 3) = xs := by
        rcases hrow with ⟨_, h⟩ | h
        · omega
        · exact h
      obtain ⟨V, U2, hx, hV, hU⟩ := hclr.at_ i (by rw [HN.out]; exact hil)
      have hel3 : ∀ j (z : Value), [.int .i64 (L[i]'(by rw [HN.out]; exact hil)).m, V, U2][j]? = some z → cur[i * 3 + j]? = some z := fun j z hz => by
        have hj : j < 3 := (List.getElem?_eq_some_iff.1 hz).1
        rw [← hx, List.getElem?_take_of_lt hj, List.getElem?_drop, ← htk, List.getElem?_take_of_lt (by omega), Array.getElem?_toList] at hz
        exact hz
      have kv : wr.cell? ⟨q, i * 3 + 1, none⟩ = some V := by rw [cell_of_row wr q _ cur _ _ hh]; exact hel3 1 V rfl
      have HK2 := Lib.hid (fun (W : World) (h : W.heap[q]? = some (.cells cur 32 (0, 0))) => (show W.cell? ⟨q, i * 3 + 2, none⟩ = some U2 by rw [cell_of_row W q _ cur _ _ h]; exact hel3 2 U2 rfl))
      have HH := Lib.hid hh
      have HCV := Lib.hid hV
      have HCU := Lib.hid hU
      have HCL := Lib.hid hclr
      have HTK := Lib.hid htk
      have HSZ := Lib.hid hb.size
      clear hrow hclr hb hx hel3 hh hV hU htk
      go_wp2_with (first | (refine wpl_clr _ rfl (.tmp 121) rfl v1.heap.size V rfl HCV.out HSZ.out ?_; intro w8 hc8 hb8 hr8; have HC8 := Lib.hid hc8; have HB8 := Lib.hid hb8; have HR8 := Lib.hid (hr8 q cur _ HH.out (by decide)); have kw := HK2.out w8 HR8.out; clear hc8 hb8 hr8) | (refine wpl_clr _ rfl (.tmp 126) rfl v1.heap.size U2 rfl (HC8.out _ HCU.out) (Nat.le_trans HSZ.out HB8.out.size) ?_; intro w9 hc9 hb9 hr9; have HC9 := Lib.hid hc9; have HB9 := Lib.hid hb9; have HR9 := Lib.hid (hr9 q cur _ HR8.out (by decide)); clear hc9 hb9 hr9))
      exact ⟨⟨i + 1, by omega, rfl, .inr ⟨q, cur, rfl, hcs, HR9.out, HTK.out⟩, SgV.mono (fun v d h => HC9.out _ (HC8.out _ h)) HCL.out, (HB.out.trans HB8.out).trans HB9.out⟩, by simp only [intOf]; omega⟩
end Go.Proofs.Ytecjjadgdlbmiaa
