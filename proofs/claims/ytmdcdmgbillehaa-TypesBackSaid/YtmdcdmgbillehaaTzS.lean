/- The reference's Numbers; the closure of Ratios. -/
import Derived.Test.YtmdcdmgbillehaaTzR
namespace Go.Proofs.Ytmdcdmgbillehaa
open Go.RowKit
open Go.Tin
set_option linter.unusedVariables false
set_option linter.unusedSimpArgs false


theorem is_le2 {t : Int} (h : szT t ≠ 0) : decide (isT t ≤ 2) = (!(t == 5) && !decide (10 ≤ t)) := by
  rcases szT_cases t with ⟨h', _⟩ | ⟨h1, h2, _⟩
  · exact absurd h' h
  · rcases n13 (show 0 ≤ t by omega) h2 with rfl | rfl | rfl | rfl | rfl | rfl | rfl | rfl | rfl | rfl | rfl | rfl | rfl <;> first | (exact absurd rfl h) | decide
theorem pr_sz {t : Int} (h : isT t ≤ 2) : prT t = szT t := by
  unfold prT
  rw [if_neg]
  rintro (rfl | rfl) <;> exact absurd h (by decide)
set_option maxRecDepth 100000 in
set_option maxHeartbeats 8000000 in
theorem rnums_any (t c : Int) (A : Option Addr) (l : List Int) (cap : Nat) (w : World) (hs : Sl .u8 w A l) (hl : l.length ≤ 1000000) (hby : Byts l) :
    Calls Try.prog 25 #[.agg #[.int .i64 t, .int .i64 c, .slice A l.length cap]] w fun e w' => ∃ A' c', e = .returned (.tuple #[.slice A' (numL t c l).length c', .bool (numB t c l)]) ∧ Sl .i64 w' A' (numL t c l) ∧ Below w.heap.size w w' := by
  have HB := Lib.hid (ba (brefl w) (.cells (vrow t c A l.length cap) 27))
  have R1 := Lib.hid (heap_alloc_new w (.cells (vrow t c A l.length cap) 27))
  have HS := Lib.hid (hs.keep HB.out)
  have HBY := Lib.hid hby
  have HNO := Lib.hid (fun h => num_no (t := t) (c := c) (l := l) h)
  have HDE := Lib.hid (show numB t c l = (mayV t c l && decide (isT t ≤ 2)) ∧ numL t c l = (if numB t c l then atsV t l (szT t) c.toNat else []) from ⟨rfl, rfl⟩)
  have HMS := Lib.hid (fun h => may_sz (t := t) (c := c) (l := l) h)
  have HM0 := Lib.hid (show mayV t c l = true → szT t ≠ 0 from fun h => ((mayV_iff t c l).1 h).1)
  clear hs hby
  go_enter Try.func25, Try.ntmps25
  go_wp2_with ((with_reducible refine wpl_load_row rtV ?_ (.tmp 1) ?_ (w.heap.size) ?_ 27 (vrow t c A l.length cap) ?_ R1.out ?_); rfl; rfl; rfl; rfl; simp only [Act.put, List.setIfInBounds_toArray, List.set_cons_succ, List.set_cons_zero])
  refine (rmay_any t c A l cap _ HS.out (by omega) HBY.out).mono ?_
  rintro e w2 ⟨rfl, hb⟩
  replace R1 := Lib.hid ((hb.block _ (row_lt R1.out)).trans R1.out)
  replace HB := Lib.hid (HB.out.trans (hb.mono HB.out.size))
  replace HS := Lib.hid (HS.out.keep hb)
  clear hb
  have k0 := row_cell (v := .int .i64 t) R1.out 0 rfl
  cases hmv : mayV t c l with
  | false =>
    have HE := Lib.hid (show numB t c l = false by rw [HDE.out.1, hmv]; rfl)
    clear hmv
    go_wp2_with fail
    go_ret2
    rw [HE.out, HNO.out HE.out]
    exact ⟨none, 0, rfl, .inl rfl, HB.out⟩
  | true =>
    obtain ⟨hz, hlen, -, -⟩ := HMS.out hmv
    have h2 := is_le2 (HM0.out hmv)
    cases h5 : (t == 5) with
    | true =>
      have HE := Lib.hid (show numB t c l = false by rw [HDE.out.1, h2, h5]; simp)
      clear hmv hz hlen h2
      go_wp2_with fail
      go_ret2
      rw [HE.out, HNO.out HE.out]
      exact ⟨none, 0, rfl, .inl rfl, HB.out⟩
    | false =>
      cases h10 : decide (10 ≤ t) with
      | true =>
        have HE := Lib.hid (show numB t c l = false by rw [HDE.out.1, h2, h5, h10]; simp)
        clear hmv hz hlen h2
        go_wp2_with fail
        go_ret2
        rw [HE.out, HNO.out HE.out]
        exact ⟨none, 0, rfl, .inl rfl, HB.out⟩
      | false =>
        have h3 : decide (isT t ≤ 2) = true := by rw [h2, h5, h10]; rfl
        have HE := Lib.hid (show numB t c l = true by rw [HDE.out.1, hmv, h3]; rfl)
        have hps := pr_sz (of_decide_eq_true h3)
        have HL := Lib.hid (show numL t c l = atsV t l (szT t) c.toNat by rw [HDE.out.2, HE.out]; rfl)
        have HC := Lib.hid (rall_any t c A l cap c.toNat w2 HS.out hl HBY.out (by rw [hps]; exact hz) (by rw [hps]; exact hlen))
        rw [hps] at HC
        have HLN := Lib.hid (atsV_len t l (szT t) c.toNat)
        clear hmv hz hlen h2 h3 hps
        go_wp2_with ((with_reducible refine wpl_load_row rtV ?_ (.tmp 1) ?_ (w.heap.size) ?_ 27 (vrow t c A l.length cap) ?_ R1.out ?_); rfl; rfl; rfl; rfl; simp only [Act.put, List.setIfInBounds_toArray, List.set_cons_succ, List.set_cons_zero])
        refine HC.out.mono ?_
        rintro e w3 ⟨A3, c3, rfl, ho3, hb3⟩
        have HO3 := Lib.hid ho3
        replace HB := Lib.hid (HB.out.trans (hb3.mono HB.out.size))
        clear ho3 hb3 HC k0
        generalize c.toNat = m at *
        go_wp2_with fail
        go_ret2
        rw [HE.out, HL.out, HLN.out]
        exact ⟨A3, c3, rfl, HO3.out.sl'.2, HB.out⟩
set_option maxRecDepth 100000 in
set_option maxHeartbeats 4000000 in
theorem c55_any (t a : Int) (g4 g1 : Nat) (c : Int) (A : Option Addr) (l : List Int) (cap : Nat) (w : World) (hg4 : w.heap[g4]? = some (.cells #[.int .i64 (szT t), .int .i64 (prT t), .int .i64 (isT t)] 58 (0, 0))) (hg1 : w.heap[g1]? = some (.cells (vrow t c A l.length cap) 27 (0, 0))) (hs : Sl .u8 w A l) (hl : l.length ≤ 1000000000) (hby : Byts l) (h0 : 0 ≤ a) (h1 : a ≤ 1000000000) (hp0 : 0 ≤ prT t) (hp : prT t ≤ 8) :
    Calls Try.prog 55 #[.int .i64 a, .pointer (some ⟨g4, 0, none⟩), .pointer (some ⟨g1, 0, none⟩)] w fun e w' => e = .returned (.agg #[.int .i64 (numV t l a), .int .i64 (numV t l (a + prT t))]) ∧ Below w.heap.size w w' := by
  have R4 := Lib.hid (hg4)
  have R1 := Lib.hid (hg1)
  have lt4 := row_lt hg4
  have lt1 := row_lt hg1
  have HS := Lib.hid hs
  have HN := Lib.hid (fun (W : World) (a : Int) (h : Sl .u8 W A l) => num_any t a A l cap W h hl hby)
  clear hg4 hg1 hs hby
  have HB := Lib.hid (brefl w)
  go_enter Try.func55, Try.ntmps55
  go_wp2_with fail
  have hb := (ba (brefl w) (.cells #[.int .i64 0, .int .i64 0] 55))
  have RX := (alloc1 w (.cells #[.int .i64 0, .int .i64 0] 55)).1
  replace R4 := Lib.hid ((hb.block _ (row_lt R4.out)).trans R4.out)
  replace R1 := Lib.hid ((hb.block _ (row_lt R1.out)).trans R1.out)
  replace HS := Lib.hid (HS.out.keep hb)
  replace HB := Lib.hid (HB.out.trans (hb.mono HB.out.size))
  clear hb
  replace RX := Lib.hid RX
  generalize (w.alloc (.cells #[.int .i64 0, .int .i64 0] 55)) = v1 at *
  have LT_R4 : _ < w.heap.size := lt4
  have LT_R1 : _ < w.heap.size := lt1
  -- RX: no load
  have SZ : w.heap.size ≤ v1.drew.heap.size := (show w.heap.size ≤ v1.heap.size from HB.out.size)
  have hb := ud' (brefl v1)
  replace R4 := Lib.hid ((hb.block _ (row_lt R4.out)).trans R4.out)
  replace R1 := Lib.hid ((hb.block _ (row_lt R1.out)).trans R1.out)
  replace HS := Lib.hid (HS.out.keep hb)
  replace RX := Lib.hid ((hb.block _ (row_lt RX.out)).trans RX.out)
  replace HB := Lib.hid (HB.out.trans (hb.mono HB.out.size))
  clear hb
  refine Tin.reg_begin (w.heap.size) 15 (by rfl) (by kernel_rfl) ?_
  have kd : ∀ p : Bel (w.heap.size) v1.drew, p.w'.cell? ⟨g1, 2, none⟩ = some (.slice A l.length cap) := fun p => row_cell ((p.h.block _ LT_R1).trans R1.out) 2 rfl
  have kp : ∀ p : Bel (w.heap.size) v1.drew, p.w'.cell? ⟨g4, 1, none⟩ = some (.int .i64 (prT t)) := fun p => row_cell ((p.h.block _ LT_R4).trans R4.out) 1 rfl
  refine Tin.reg_quiets [0, 1, 2, 3, 5, 6, 7, 8, 9, 10, 11] _ 4 rfl (by simp only [Tin.pick, List.map_cons, List.map_nil, Array.getD_eq_getD_getElem?, List.getElem?_toArray, List.getElem?_cons_zero, List.getElem?_cons_succ, Option.getD_some]; rfl) (by kernel_rfl) (by kernel_rfl) ?_
  repeat (first | ((with_reducible refine wpq_load_row rtK ?_ (.tmp 1) ?_ (g4) ?_ 58 (#[.int .i64 (szT t), .int .i64 (prT t), .int .i64 (isT t)]) ?_ (fun W h => by obtain ⟨p, rfl⟩ := h; exact (p.h.block _ LT_R4).trans R4.out) ?_); rfl; rfl; rfl; rfl; simp only [Act.put, List.setIfInBounds_toArray, List.set_cons_succ, List.set_cons_zero]) | go_big_quiet_step (fail))
  refine wpQuiet_nil ?_
  clear kd kp
  skip
  refine Tin.reg_one 4 _ rfl (by kernel_rfl) ?_
  try simp only [List.getElem_toArray, List.getElem_cons_succ, List.getElem_cons_zero]
  go_wp2_with fail
  refine (HN.out _ a HS.out).mono ?_
  rintro e v2 ⟨rfl, hv⟩
  go_wp2_with fail
  refine ⟨w.heap.size, hv.mono SZ, Nat.le_refl _, ?_⟩
  replace R4 := Lib.hid ((hv.block _ (row_lt R4.out)).trans R4.out)
  replace R1 := Lib.hid ((hv.block _ (row_lt R1.out)).trans R1.out)
  replace HS := Lib.hid (HS.out.keep hv)
  replace RX := Lib.hid ((hv.block _ (row_lt RX.out)).trans RX.out)
  replace HB := Lib.hid (HB.out.trans (hv.mono HB.out.size))
  replace SZ := Nat.le_trans SZ hv.size
  clear hv
  refine Tin.reg_one 12 _ rfl (by kernel_rfl) ?_
  try simp only [List.getElem_toArray, List.getElem_cons_succ, List.getElem_cons_zero]
  go_wp2_with fail
  refine (HN.out _ (a + prT t) HS.out).mono ?_
  rintro e v3 ⟨rfl, hv⟩
  go_wp2_with fail
  refine ⟨w.heap.size, hv.mono SZ, Nat.le_refl _, ?_⟩
  replace R4 := Lib.hid ((hv.block _ (row_lt R4.out)).trans R4.out)
  replace R1 := Lib.hid ((hv.block _ (row_lt R1.out)).trans R1.out)
  replace HS := Lib.hid (HS.out.keep hv)
  replace RX := Lib.hid ((hv.block _ (row_lt RX.out)).trans RX.out)
  replace HB := Lib.hid (HB.out.trans (hv.mono HB.out.size))
  replace SZ := Nat.le_trans SZ hv.size
  clear hv
  refine Tin.reg_quiets [13] _ 1 rfl (by simp only [Tin.pick, List.map_cons, List.map_nil, Array.getD_eq_getD_getElem?, List.getElem?_toArray, List.getElem?_cons_zero, List.getElem?_cons_succ, Option.getD_some]; rfl) (by kernel_rfl) (by kernel_rfl) ?_
  repeat (first | go_big_quiet_step (fail))
  refine wpQuiet_nil ?_
  refine Tin.reg_one 14 _ rfl (by kernel_rfl) ?_
  try simp only [List.getElem_toArray, List.getElem_cons_succ, List.getElem_cons_zero]
  go_wp2_with ((with_reducible refine wpl_store_row rtR ?_ (.tmp 4) (.tmp 18) ?_ (w.heap.size) ?_ #[.int .i64 (numV t l a), .int .i64 (numV t l (a + prT t))] ?_ ?_ 55 ?_ _ ?_ RX.out ?_); rfl; rfl; rfl; rfl; (simp [Value.oneCell']); rfl; rfl; intro w7 hr7 hg7 hs7; (try simp only [Act.put]))
  have hb7 : Below w.heap.size v3 w7 := (Below.refl _ _).grown hg7 HB.out.size (fun k hk => by cases hk; exact Nat.le_refl _)
  refine ⟨w.heap.size, hb7, Nat.le_refl _, ?_⟩
  refine Tin.reg_done (by kernel_rfl) ?_
  go_wp2_with fail
  exact bodyPost_ret (res_row rtR rfl _ _ w.heap.size 55 _ rfl rfl hr7) rfl ⟨rfl, HB.out.trans hb7⟩
end Go.Proofs.Ytmdcdmgbillehaa
