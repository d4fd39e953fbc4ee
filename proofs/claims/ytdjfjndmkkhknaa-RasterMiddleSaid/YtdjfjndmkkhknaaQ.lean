/- The walk of RasterTells. -/
import Derived.Test.YtdjfjndmkkhknaaP
namespace Go.Proofs.Ytdjfjndmkkhknaa
open Go.RowKit
open Go.Tin
set_option linter.unusedVariables false
set_option linter.unusedSimpArgs false

theorem all4 {a b c d : Int} (h : [a, b, c, d].all okS = true) : okS a = true ∧ okS b = true ∧ okS c = true ∧ okS d = true := by
  simpa [and_assoc] using h

set_option maxRecDepth 100000 in
set_option maxHeartbeats 4000000 in
theorem tells_any (W H : Int) (A : Option Addr) (len cap : Nat) (zs : List Int) (x y p q : Int) (w : World) (wW : (Lit.int .i64 W).wf = true) (wH : (Lit.int .i64 H).wf = true) (hrow : IsRow .u8 w A len cap zs) (wx : (Lit.int .i64 x).wf = true) (wy : (Lit.int .i64 y).wf = true) (wp : (Lit.int .i64 p).wf = true) (wq : (Lit.int .i64 q).wf = true) :
    Calls Try.prog 3 #[.agg #[.int .i64 W, .int .i64 H, .slice A len cap], .int .i64 x, .int .i64 y, .int .i64 p, .int .i64 q] w fun e w' => e = .returned (.bool true) ∧ Below w.heap.size w w' := by
  obtain ⟨hsl, hln, hlc, hcm, hwf⟩ := Sl.of_row hrow
  have hby := byts_of hwf
  generalize zs.take len = l at *
  subst hln
  generalize cap = c at *
  have HS := Lib.hid hsl
  have HY := Lib.hid hby
  have hlm : l.length ≤ 9223372036854775807 := Nat.le_trans hlc (Nat.le_trans hcm (by decide))
  clear hrow hsl hby hwf wW wH wx wy wp wq hcm
  go_enter Try.func3, Try.ntmps3
  have hB := ba (brefl w) (.cells #[.int .i64 W, .int .i64 H, .slice A l.length c] 24)
  have hz : w.heap.size < (w.alloc (.cells #[.int .i64 W, .int .i64 H, .slice A l.length c] 24)).heap.size := by simp
  have hrw := heap_alloc_new w (.cells #[.int .i64 W, .int .i64 H, .slice A l.length c] 24)
  have k0 := row_cell hrw 0 rfl
  have k1 := row_cell hrw 1 rfl
  have k2 := row_cell hrw 2 rfl
  have hX := Lib.hid hrw
  clear hrw
  by_cases hbig : 3000 < (l.length : Int)
  · go_wp2_with fail
    refine Calls.mono (awake_any _) ?_
    rintro e wz ⟨rfl, hbz⟩
    go_wp2_with fail
    go_ret
    exact ⟨rfl, bt hB hbz⟩
  · have hsm : (l.length : Int) ≤ 3000 := by omega
    by_cases hat : atB W H x y l.length = true
    · have hat2 := hat
      unfold atB at hat2
      rw [Bool.and_eq_true] at hat2
      obtain ⟨hm, hin⟩ := hat2
      simp only [Bool.and_eq_true, decide_eq_true_eq] at hin
      obtain ⟨⟨⟨x0, y0⟩, x1⟩, y1⟩ := hin
      obtain ⟨hW, hH, hn⟩ := mayB_t hm
      have hbyte := fun (Wd : World) (hb : Below w.heap.size w Wd) (j : Nat) (hj : j < 3) => byte_any W H x y j A l c Wd (HS.out.keep hb) hW hH hn ⟨x0, x1⟩ ⟨y0, y1⟩ hj HY.out
      have HBy := Lib.hid hbyte
      have hcol : ∀ j, j < 3 → nth (col l (pos W x y)) j = nth l (pos W x y + j) := fun j hj => by
        rcases (by omega : j = 0 ∨ j = 1 ∨ j = 2) with rfl | rfl | rfl <;> rfl
      have HCol := Lib.hid hcol
      clear hbyte hcol hn hW hH
      go_wp2_with fail
      refine Calls.mono (rmay_any W H A l.length c _) ?_
      rw [hm]
      rintro e w1 ⟨rfl, hb1⟩
      obtain ⟨hc1, _⟩ := bcell hb1
      replace k0 := (hc1 _ _ hz).trans k0
      replace k1 := (hc1 _ _ hz).trans k1
      replace k2 := (hc1 _ _ hz).trans k2
      replace hX := Lib.hid ((hb1.block _ hz).trans hX.out)
      replace hB := bt hB hb1
      replace hz := Nat.lt_of_lt_of_le hz hb1.size
      clear hc1
      go_wp2_with fail
      refine Calls.mono (rat_yes W H x y A l c _ (HS.out.keep hB) hlc hat) ?_
      rintro e w2 ⟨rfl, hb2⟩
      obtain ⟨hc2, _⟩ := bcell hb2
      replace k0 := (hc2 _ _ hz).trans k0
      replace k1 := (hc2 _ _ hz).trans k1
      replace k2 := (hc2 _ _ hz).trans k2
      replace hX := Lib.hid ((hb2.block _ hz).trans hX.out)
      replace hB := bt hB hb2
      replace hz := Nat.lt_of_lt_of_le hz hb2.size
      clear hc2
      go_wp2_with (with_reducible refine wpl_store_arr at27 rfl (.tmp 12) (.tmp 33) rfl w2.heap.size rfl rfl 27 (col_len l _) _ rfl (heap_alloc_new _ _) ?_; intro w5 hr5 hg5 hs5; have hb5 : Below w2.heap.size w2 w5 := (ba (brefl w2) _).grown hg5 (by simp) (fun k hk => by cases hk; exact Nat.le_refl _); obtain ⟨hc5, _⟩ := bcell hb5; replace k0 := (hc5 _ _ hz).trans k0; replace k1 := (hc5 _ _ hz).trans k1; replace k2 := (hc5 _ _ hz).trans k2; replace hX := Lib.hid ((hb5.block _ hz).trans hX.out); replace hB := bt hB hb5; have hg0 := hz; replace hz := Nat.lt_of_lt_of_le hz hb5.size; clear hc5; simp only [Act.put])
      have hgz : w2.heap.size < w5.heap.size := by rw [hs5]; simp
      have HR5 := Lib.hid hr5
      refine Calls.mono (may_any W H A l.length c _) ?_
      rw [hm]
      rintro e w6 ⟨rfl, hb6⟩
      obtain ⟨hc6, _⟩ := bcell hb6
      replace k0 := (hc6 _ _ hz).trans k0
      replace k1 := (hc6 _ _ hz).trans k1
      replace k2 := (hc6 _ _ hz).trans k2
      replace hX := Lib.hid ((hb6.block _ hz).trans hX.out)
      replace hB := bt hB hb6
      replace hz := Nat.lt_of_lt_of_le hz hb6.size
      clear hc6
      have r6 := (hb6.block _ hgz).trans HR5.out
      have R6 := Lib.hid r6
      have hg6 := Nat.lt_of_lt_of_le hgz hb6.size
      clear r6 HR5
      have hW0 := brefl w6
      go_wp2_with fail
      clear k0 k1 k2
      go_loopw [15] (fun s15 wr => ∃ (i : Nat), i ≤ 3 ∧ s15 = .int .i64 (i : Int) ∧ Below w6.heap.size w6 wr) (fun s15 _ => 3 - (intOf s15).toNat)
      case atStart => exact ⟨0, by omega, rfl, hW0⟩
      case round =>
        clear hW0
        obtain ⟨i, hi, rfl, hb⟩ := hrel
        have hBr := bt hB hb
        have hzr := Nat.lt_of_lt_of_le hz hb.size
        have hR := (hb.block _ hg6).trans R6.out
        have hXr := Lib.hid ((hb.block _ hz).trans hX.out)
        by_cases hi3 : i < 3
        · have i1 : (i : Int) < 3 := by omega
          go_wp2_with fail
          have kc : ∀ p : Bel wr.heap.size wr.drew, p.w'.cell? ⟨w2.heap.size, i, none⟩ = some (.int .u8 (nth l (pos W x y + i))) := fun p => by
            rw [← HCol.out i hi3]
            exact (p.h.cell (p := ⟨w2.heap.size, i, none⟩) (Nat.lt_of_lt_of_le hg6 hb.size)).trans (blk_cell hR i (by rw [col_len]; exact hi3))
          have hXd : wr.drew.heap[w.heap.size]? = some (.cells #[.int .i64 W, .int .i64 H, .slice A l.length c] 24 (0, 0)) := hXr.out
          have HXd := Lib.hid hXd
          clear hXd hR
          have hu := HY.out (pos W x y + i)
          refine Tin.reg_begin wr.heap.size 10 (by rfl) (by kernel_rfl) ?_
          refine Tin.reg_quiets [0, 1, 2, 3, 4, 5, 6, 7] _ 2 rfl (by simp only [Tin.pick, List.map_cons, List.map_nil, Array.getD_eq_getD_getElem?, List.getElem?_toArray, List.getElem?_cons_zero, List.getElem?_cons_succ, Option.getD_some]; rfl) (by kernel_rfl) (by kernel_rfl) ?_
          repeat (first | ((with_reducible refine wpq_load_row rt24 ?_ (.tmp 5) rfl w.heap.size rfl 24 #[.int .i64 W, .int .i64 H, .slice A l.length c] ?_ (fun w' h => by obtain ⟨p, rfl⟩ := h; exact (p.h.block _ hzr).trans HXd.out) ?_); rfl; rfl; simp only [Act.put, List.setIfInBounds_toArray, List.set_cons_succ, List.set_cons_zero]) | go_big_quiet_step (fail))
          refine wpQuiet_nil ?_
          refine Tin.reg_one 8 _ rfl (by kernel_rfl) ?_
          try simp only [List.getElem_toArray, List.getElem_cons_succ, List.getElem_cons_zero]
          go_wp2_with fail
          refine Calls.mono (HBy.out wr.drew ⟨hBr.os, hBr.tape, hBr.output, hBr.size, hBr.block⟩ i hi3) ?_
          rintro e w8 ⟨rfl, hb8⟩
          have hb8w : Below wr.heap.size wr w8 := ⟨hb8.os, hb8.tape, hb8.output, hb8.size, hb8.block⟩
          go_wp2_with fail
          refine ⟨wr.heap.size, hb8, Nat.le_refl _, ?_⟩
          clear kc
          refine Tin.reg_quiets [9] _ 0 rfl (by simp only [Tin.pick, List.map_cons, List.map_nil, Array.getD_eq_getD_getElem?, List.getElem?_toArray, List.getElem?_cons_zero, List.getElem?_cons_succ, Option.getD_some]; rfl) (by kernel_rfl) (by kernel_rfl) ?_
          repeat (first | go_big_quiet_step (fail))
          refine wpQuiet_nil ?_
          refine Tin.reg_done (by kernel_rfl) ?_
          go_wp2_with fail
          go_roundw
          case rel => exact ⟨i + 1, by omega, by go_num, bt hb hb8w⟩
          case measure => simp [intOf]; omega
        · obtain rfl : i = 3 := by omega
          replace hX := hXr
          have k0 := row_cell hX.out 0 rfl
          have k1 := row_cell hX.out 1 rfl
          have k2 := row_cell hX.out 2 rfl
          replace hB := hBr
          replace hz := hzr
          clear hR hBr hzr R6
          go_wp2_with fail
          by_cases hall : [W, H, p, q].all okS = true
          · obtain ⟨hkW, hkH, hkp, hkq⟩ := all4 hall
            clear hall
            refine Calls.mono (fit_yes W H p q _ hkW hkH hkp hkq) ?_
            rintro e wf ⟨rfl, hbf⟩
            obtain ⟨hcf, _⟩ := bcell hbf
            replace k0 := (hcf _ _ hz).trans k0
            replace k1 := (hcf _ _ hz).trans k1
            replace k2 := (hcf _ _ hz).trans k2
            replace hX := Lib.hid ((hbf.block _ hz).trans hX.out)
            replace hB := bt hB hbf
            replace hz := Nat.lt_of_lt_of_le hz hbf.size
            clear hcf
            go_wp2_with fail
            refine Calls.mono (rsize_any W _) ?_
            rw [hkW]
            rintro e wx ⟨rfl, rfl⟩
            go_wp2_with fail
            refine Calls.mono (rsize_any H _) ?_
            rw [hkH]
            rintro e wx ⟨rfl, rfl⟩
            go_wp2_with fail
            refine Calls.mono (rsize_any p _) ?_
            rw [hkp]
            rintro e wx ⟨rfl, rfl⟩
            go_wp2_with fail
            refine Calls.mono (rsize_any q _) ?_
            rw [hkq]
            rintro e wx ⟨rfl, rfl⟩
            go_wp2_with fail
            refine Calls.mono (rfit_any W H p q _ hkW hkH hkp hkq) ?_
            rintro e wg ⟨rfl, hbg⟩
            obtain ⟨hcg, _⟩ := bcell hbg
            replace hX := Lib.hid ((hbg.block _ hz).trans hX.out)
            replace hB := bt hB hbg
            replace hz := Nat.lt_of_lt_of_le hz hbg.size
            clear hcg
            go_wp2_with fail
            refine Calls.mono (awake_any _) ?_
            rintro e wz ⟨rfl, hbz⟩
            go_wp2_with fail
            go_ret
            exact ⟨rfl, bt hB hbz⟩
          · have hall0 : [W, H, p, q].all okS = false := by simpa using hall
            clear hall
            refine Calls.mono (fit_no W H p q _ hall0) ?_
            rintro e wf ⟨rfl, hbf⟩
            obtain ⟨hcf, _⟩ := bcell hbf
            replace k0 := (hcf _ _ hz).trans k0
            replace k1 := (hcf _ _ hz).trans k1
            replace k2 := (hcf _ _ hz).trans k2
            replace hX := Lib.hid ((hbf.block _ hz).trans hX.out)
            replace hB := bt hB hbf
            replace hz := Nat.lt_of_lt_of_le hz hbf.size
            clear hcf
            go_wp2_with fail
            by_cases hW : okS W = true
            · refine Calls.mono (rsize_any W _) ?_
              rw [hW]
              rintro e wx ⟨rfl, rfl⟩
              go_wp2_with fail
              by_cases hH : okS H = true
              · refine Calls.mono (rsize_any H _) ?_
                rw [hH]
                rintro e wx ⟨rfl, rfl⟩
                go_wp2_with fail
                by_cases hp : okS p = true
                · refine Calls.mono (rsize_any p _) ?_
                  rw [hp]
                  rintro e wx ⟨rfl, rfl⟩
                  go_wp2_with fail
                  have eq : okS q = false := by simpa [hW, hH, hp] using hall0
                  refine Calls.mono (rsize_any q _) ?_
                  rw [eq]
                  rintro e wx ⟨rfl, rfl⟩
                  go_wp2_with fail
                  clear hall0
                  refine Calls.mono (awake_any _) ?_
                  rintro e wz ⟨rfl, hbz⟩
                  go_wp2_with fail
                  go_ret
                  exact ⟨rfl, bt hB hbz⟩
                · have ep : okS p = false := by simpa using hp
                  refine Calls.mono (rsize_any p _) ?_
                  rw [ep]
                  rintro e wx ⟨rfl, rfl⟩
                  go_wp2_with fail
                  clear hall0
                  refine Calls.mono (awake_any _) ?_
                  rintro e wz ⟨rfl, hbz⟩
                  go_wp2_with fail
                  go_ret
                  exact ⟨rfl, bt hB hbz⟩
              · have eH : okS H = false := by simpa using hH
                refine Calls.mono (rsize_any H _) ?_
                rw [eH]
                rintro e wx ⟨rfl, rfl⟩
                go_wp2_with fail
                clear hall0
                refine Calls.mono (awake_any _) ?_
                rintro e wz ⟨rfl, hbz⟩
                go_wp2_with fail
                go_ret
                exact ⟨rfl, bt hB hbz⟩
            · have eW : okS W = false := by simpa using hW
              refine Calls.mono (rsize_any W _) ?_
              rw [eW]
              rintro e wx ⟨rfl, rfl⟩
              go_wp2_with fail
              clear hall0
              refine Calls.mono (awake_any _) ?_
              rintro e wz ⟨rfl, hbz⟩
              go_wp2_with fail
              go_ret
              exact ⟨rfl, bt hB hbz⟩
    · have hat0 : atB W H x y l.length = false := by simpa using hat
      have HN := Lib.hid hat0
      clear hat
      by_cases hm : mayB W H l.length = true
      · unfold atB at hat0
        rw [hm, Bool.true_and] at hat0
        by_cases x0 : 0 ≤ x
        · by_cases y0 : 0 ≤ y
          · by_cases x1 : x < W
            · have y1 : H ≤ y := by simp [x0, y0, x1] at hat0; exact hat0
              clear hat0
              go_wp2_with fail
              refine Calls.mono (rmay_any W H A l.length c _) ?_
              rw [hm]
              rintro e w1 ⟨rfl, hb1⟩
              obtain ⟨hc1, _⟩ := bcell hb1
              replace k0 := (hc1 _ _ hz).trans k0
              replace k1 := (hc1 _ _ hz).trans k1
              replace k2 := (hc1 _ _ hz).trans k2
              replace hX := Lib.hid ((hb1.block _ hz).trans hX.out)
              replace hB := bt hB hb1
              replace hz := Nat.lt_of_lt_of_le hz hb1.size
              clear hc1
              go_wp2_with fail
              refine Calls.mono (rat_no W H x y A l.length c _ HN.out) ?_
              rintro e w2 ⟨rfl, hb2⟩
              obtain ⟨hc2, _⟩ := bcell hb2
              replace k0 := (hc2 _ _ hz).trans k0
              replace k1 := (hc2 _ _ hz).trans k1
              replace k2 := (hc2 _ _ hz).trans k2
              replace hX := Lib.hid ((hb2.block _ hz).trans hX.out)
              replace hB := bt hB hb2
              replace hz := Nat.lt_of_lt_of_le hz hb2.size
              clear hc2
              go_wp2_with (with_reducible refine wpl_store_arr at27 rfl (.tmp 12) (.tmp 33) rfl w2.heap.size rfl rfl 27 (col_len [0, 0, 0] 0) _ rfl (heap_alloc_new _ _) ?_; intro w5 hr5 hg5 hs5; have hb5 : Below w2.heap.size w2 w5 := (ba (brefl w2) _).grown hg5 (by simp) (fun k hk => by cases hk; exact Nat.le_refl _); obtain ⟨hc5, _⟩ := bcell hb5; replace k0 := (hc5 _ _ hz).trans k0; replace k1 := (hc5 _ _ hz).trans k1; replace k2 := (hc5 _ _ hz).trans k2; replace hX := Lib.hid ((hb5.block _ hz).trans hX.out); replace hB := bt hB hb5; have hg0 := hz; replace hz := Nat.lt_of_lt_of_le hz hb5.size; clear hc5; simp only [Act.put])
              have hgz : w2.heap.size < w5.heap.size := by rw [hs5]; simp
              have HR5 := Lib.hid hr5
              clear hr5
              refine Calls.mono (may_any W H A l.length c _) ?_
              rw [hm]
              rintro e w6 ⟨rfl, hb6⟩
              obtain ⟨hc6, _⟩ := bcell hb6
              replace k0 := (hc6 _ _ hz).trans k0
              replace k1 := (hc6 _ _ hz).trans k1
              replace k2 := (hc6 _ _ hz).trans k2
              replace hX := Lib.hid ((hb6.block _ hz).trans hX.out)
              replace hB := bt hB hb6
              replace hz := Nat.lt_of_lt_of_le hz hb6.size
              clear hc6
              have r6 := (hb6.block _ hgz).trans HR5.out
              have g0 : w6.cell? ⟨w2.heap.size, 0, none⟩ = some (.int .u8 0) := row_cell r6 0 rfl
              have g1 : w6.cell? ⟨w2.heap.size, 1, none⟩ = some (.int .u8 0) := row_cell r6 1 rfl
              have g2 : w6.cell? ⟨w2.heap.size, 2, none⟩ = some (.int .u8 0) := row_cell r6 2 rfl
              have heq : (Op.equalIn 10000 27 (.agg #[.int .u8 0, .int .u8 0, .int .u8 0]) (.agg #[.int .u8 0, .int .u8 0, .int .u8 0])).run Try.prog w6 = .ok true w6 := eq_run at27 (l := [0, 0, 0]) rfl [0, 0, 0] rfl 9998 w6
              clear HR5 HN
              go_wp2_with fail
              clear g0 g1 g2 heq r6
              go_loopw [15] (fun s15 wr => s15 = .int .i64 0 ∧ wr = w6) (fun s15 _ => 0)
              case atStart => exact ⟨rfl, rfl⟩
              case round =>
                obtain ⟨rfl, rfl⟩ := hrel
                go_wp2_with fail
                by_cases hall : [W, H, p, q].all okS = true
                · obtain ⟨hkW, hkH, hkp, hkq⟩ := all4 hall
                  clear hall
                  refine Calls.mono (fit_yes W H p q _ hkW hkH hkp hkq) ?_
                  rintro e wf ⟨rfl, hbf⟩
                  obtain ⟨hcf, _⟩ := bcell hbf
                  replace k0 := (hcf _ _ hz).trans k0
                  replace k1 := (hcf _ _ hz).trans k1
                  replace k2 := (hcf _ _ hz).trans k2
                  replace hX := Lib.hid ((hbf.block _ hz).trans hX.out)
                  replace hB := bt hB hbf
                  replace hz := Nat.lt_of_lt_of_le hz hbf.size
                  clear hcf
                  go_wp2_with fail
                  refine Calls.mono (rsize_any W _) ?_
                  rw [hkW]
                  rintro e wx ⟨rfl, rfl⟩
                  go_wp2_with fail
                  refine Calls.mono (rsize_any H _) ?_
                  rw [hkH]
                  rintro e wx ⟨rfl, rfl⟩
                  go_wp2_with fail
                  refine Calls.mono (rsize_any p _) ?_
                  rw [hkp]
                  rintro e wx ⟨rfl, rfl⟩
                  go_wp2_with fail
                  refine Calls.mono (rsize_any q _) ?_
                  rw [hkq]
                  rintro e wx ⟨rfl, rfl⟩
                  go_wp2_with fail
                  refine Calls.mono (rfit_any W H p q _ hkW hkH hkp hkq) ?_
                  rintro e wg ⟨rfl, hbg⟩
                  obtain ⟨hcg, _⟩ := bcell hbg
                  replace hX := Lib.hid ((hbg.block _ hz).trans hX.out)
                  replace hB := bt hB hbg
                  replace hz := Nat.lt_of_lt_of_le hz hbg.size
                  clear hcg
                  go_wp2_with fail
                  refine Calls.mono (awake_any _) ?_
                  rintro e wz ⟨rfl, hbz⟩
                  go_wp2_with fail
                  go_ret
                  exact ⟨rfl, bt hB hbz⟩
                · have hall0 : [W, H, p, q].all okS = false := by simpa using hall
                  clear hall
                  refine Calls.mono (fit_no W H p q _ hall0) ?_
                  rintro e wf ⟨rfl, hbf⟩
                  obtain ⟨hcf, _⟩ := bcell hbf
                  replace k0 := (hcf _ _ hz).trans k0
                  replace k1 := (hcf _ _ hz).trans k1
                  replace k2 := (hcf _ _ hz).trans k2
                  replace hX := Lib.hid ((hbf.block _ hz).trans hX.out)
                  replace hB := bt hB hbf
                  replace hz := Nat.lt_of_lt_of_le hz hbf.size
                  clear hcf
                  go_wp2_with fail
                  by_cases hW : okS W = true
                  · refine Calls.mono (rsize_any W _) ?_
                    rw [hW]
                    rintro e wx ⟨rfl, rfl⟩
                    go_wp2_with fail
                    by_cases hH : okS H = true
                    · refine Calls.mono (rsize_any H _) ?_
                      rw [hH]
                      rintro e wx ⟨rfl, rfl⟩
                      go_wp2_with fail
                      by_cases hp : okS p = true
                      · refine Calls.mono (rsize_any p _) ?_
                        rw [hp]
                        rintro e wx ⟨rfl, rfl⟩
                        go_wp2_with fail
                        have eq : okS q = false := by simpa [hW, hH, hp] using hall0
                        refine Calls.mono (rsize_any q _) ?_
                        rw [eq]
                        rintro e wx ⟨rfl, rfl⟩
                        go_wp2_with fail
                        clear hall0
                        refine Calls.mono (awake_any _) ?_
                        rintro e wz ⟨rfl, hbz⟩
                        go_wp2_with fail
                        go_ret
                        exact ⟨rfl, bt hB hbz⟩
                      · have ep : okS p = false := by simpa using hp
                        refine Calls.mono (rsize_any p _) ?_
                        rw [ep]
                        rintro e wx ⟨rfl, rfl⟩
                        go_wp2_with fail
                        clear hall0
                        refine Calls.mono (awake_any _) ?_
                        rintro e wz ⟨rfl, hbz⟩
                        go_wp2_with fail
                        go_ret
                        exact ⟨rfl, bt hB hbz⟩
                    · have eH : okS H = false := by simpa using hH
                      refine Calls.mono (rsize_any H _) ?_
                      rw [eH]
                      rintro e wx ⟨rfl, rfl⟩
                      go_wp2_with fail
                      clear hall0
                      refine Calls.mono (awake_any _) ?_
                      rintro e wz ⟨rfl, hbz⟩
                      go_wp2_with fail
                      go_ret
                      exact ⟨rfl, bt hB hbz⟩
                  · have eW : okS W = false := by simpa using hW
                    refine Calls.mono (rsize_any W _) ?_
                    rw [eW]
                    rintro e wx ⟨rfl, rfl⟩
                    go_wp2_with fail
                    clear hall0
                    refine Calls.mono (awake_any _) ?_
                    rintro e wz ⟨rfl, hbz⟩
                    go_wp2_with fail
                    go_ret
                    exact ⟨rfl, bt hB hbz⟩
            · have x2 : W ≤ x := by omega
              clear hat0 x1
              go_wp2_with fail
              refine Calls.mono (rmay_any W H A l.length c _) ?_
              rw [hm]
              rintro e w1 ⟨rfl, hb1⟩
              obtain ⟨hc1, _⟩ := bcell hb1
              replace k0 := (hc1 _ _ hz).trans k0
              replace k1 := (hc1 _ _ hz).trans k1
              replace k2 := (hc1 _ _ hz).trans k2
              replace hX := Lib.hid ((hb1.block _ hz).trans hX.out)
              replace hB := bt hB hb1
              replace hz := Nat.lt_of_lt_of_le hz hb1.size
              clear hc1
              go_wp2_with fail
              refine Calls.mono (rat_no W H x y A l.length c _ HN.out) ?_
              rintro e w2 ⟨rfl, hb2⟩
              obtain ⟨hc2, _⟩ := bcell hb2
              replace k0 := (hc2 _ _ hz).trans k0
              replace k1 := (hc2 _ _ hz).trans k1
              replace k2 := (hc2 _ _ hz).trans k2
              replace hX := Lib.hid ((hb2.block _ hz).trans hX.out)
              replace hB := bt hB hb2
              replace hz := Nat.lt_of_lt_of_le hz hb2.size
              clear hc2
              go_wp2_with (with_reducible refine wpl_store_arr at27 rfl (.tmp 12) (.tmp 33) rfl w2.heap.size rfl rfl 27 (col_len [0, 0, 0] 0) _ rfl (heap_alloc_new _ _) ?_; intro w5 hr5 hg5 hs5; have hb5 : Below w2.heap.size w2 w5 := (ba (brefl w2) _).grown hg5 (by simp) (fun k hk => by cases hk; exact Nat.le_refl _); obtain ⟨hc5, _⟩ := bcell hb5; replace k0 := (hc5 _ _ hz).trans k0; replace k1 := (hc5 _ _ hz).trans k1; replace k2 := (hc5 _ _ hz).trans k2; replace hX := Lib.hid ((hb5.block _ hz).trans hX.out); replace hB := bt hB hb5; have hg0 := hz; replace hz := Nat.lt_of_lt_of_le hz hb5.size; clear hc5; simp only [Act.put])
              have hgz : w2.heap.size < w5.heap.size := by rw [hs5]; simp
              have HR5 := Lib.hid hr5
              clear hr5
              refine Calls.mono (may_any W H A l.length c _) ?_
              rw [hm]
              rintro e w6 ⟨rfl, hb6⟩
              obtain ⟨hc6, _⟩ := bcell hb6
              replace k0 := (hc6 _ _ hz).trans k0
              replace k1 := (hc6 _ _ hz).trans k1
              replace k2 := (hc6 _ _ hz).trans k2
              replace hX := Lib.hid ((hb6.block _ hz).trans hX.out)
              replace hB := bt hB hb6
              replace hz := Nat.lt_of_lt_of_le hz hb6.size
              clear hc6
              have r6 := (hb6.block _ hgz).trans HR5.out
              have g0 : w6.cell? ⟨w2.heap.size, 0, none⟩ = some (.int .u8 0) := row_cell r6 0 rfl
              have g1 : w6.cell? ⟨w2.heap.size, 1, none⟩ = some (.int .u8 0) := row_cell r6 1 rfl
              have g2 : w6.cell? ⟨w2.heap.size, 2, none⟩ = some (.int .u8 0) := row_cell r6 2 rfl
              have heq : (Op.equalIn 10000 27 (.agg #[.int .u8 0, .int .u8 0, .int .u8 0]) (.agg #[.int .u8 0, .int .u8 0, .int .u8 0])).run Try.prog w6 = .ok true w6 := eq_run at27 (l := [0, 0, 0]) rfl [0, 0, 0] rfl 9998 w6
              clear HR5 HN
              go_wp2_with fail
              clear g0 g1 g2 heq r6
              go_loopw [15] (fun s15 wr => s15 = .int .i64 0 ∧ wr = w6) (fun s15 _ => 0)
              case atStart => exact ⟨rfl, rfl⟩
              case round =>
                obtain ⟨rfl, rfl⟩ := hrel
                go_wp2_with fail
                by_cases hall : [W, H, p, q].all okS = true
                · obtain ⟨hkW, hkH, hkp, hkq⟩ := all4 hall
                  clear hall
                  refine Calls.mono (fit_yes W H p q _ hkW hkH hkp hkq) ?_
                  rintro e wf ⟨rfl, hbf⟩
                  obtain ⟨hcf, _⟩ := bcell hbf
                  replace k0 := (hcf _ _ hz).trans k0
                  replace k1 := (hcf _ _ hz).trans k1
                  replace k2 := (hcf _ _ hz).trans k2
                  replace hX := Lib.hid ((hbf.block _ hz).trans hX.out)
                  replace hB := bt hB hbf
                  replace hz := Nat.lt_of_lt_of_le hz hbf.size
                  clear hcf
                  go_wp2_with fail
                  refine Calls.mono (rsize_any W _) ?_
                  rw [hkW]
                  rintro e wx ⟨rfl, rfl⟩
                  go_wp2_with fail
                  refine Calls.mono (rsize_any H _) ?_
                  rw [hkH]
                  rintro e wx ⟨rfl, rfl⟩
                  go_wp2_with fail
                  refine Calls.mono (rsize_any p _) ?_
                  rw [hkp]
                  rintro e wx ⟨rfl, rfl⟩
                  go_wp2_with fail
                  refine Calls.mono (rsize_any q _) ?_
                  rw [hkq]
                  rintro e wx ⟨rfl, rfl⟩
                  go_wp2_with fail
                  refine Calls.mono (rfit_any W H p q _ hkW hkH hkp hkq) ?_
                  rintro e wg ⟨rfl, hbg⟩
                  obtain ⟨hcg, _⟩ := bcell hbg
                  replace hX := Lib.hid ((hbg.block _ hz).trans hX.out)
                  replace hB := bt hB hbg
                  replace hz := Nat.lt_of_lt_of_le hz hbg.size
                  clear hcg
                  go_wp2_with fail
                  refine Calls.mono (awake_any _) ?_
                  rintro e wz ⟨rfl, hbz⟩
                  go_wp2_with fail
                  go_ret
                  exact ⟨rfl, bt hB hbz⟩
                · have hall0 : [W, H, p, q].all okS = false := by simpa using hall
                  clear hall
                  refine Calls.mono (fit_no W H p q _ hall0) ?_
                  rintro e wf ⟨rfl, hbf⟩
                  obtain ⟨hcf, _⟩ := bcell hbf
                  replace k0 := (hcf _ _ hz).trans k0
                  replace k1 := (hcf _ _ hz).trans k1
                  replace k2 := (hcf _ _ hz).trans k2
                  replace hX := Lib.hid ((hbf.block _ hz).trans hX.out)
                  replace hB := bt hB hbf
                  replace hz := Nat.lt_of_lt_of_le hz hbf.size
                  clear hcf
                  go_wp2_with fail
                  by_cases hW : okS W = true
                  · refine Calls.mono (rsize_any W _) ?_
                    rw [hW]
                    rintro e wx ⟨rfl, rfl⟩
                    go_wp2_with fail
                    by_cases hH : okS H = true
                    · refine Calls.mono (rsize_any H _) ?_
                      rw [hH]
                      rintro e wx ⟨rfl, rfl⟩
                      go_wp2_with fail
                      by_cases hp : okS p = true
                      · refine Calls.mono (rsize_any p _) ?_
                        rw [hp]
                        rintro e wx ⟨rfl, rfl⟩
                        go_wp2_with fail
                        have eq : okS q = false := by simpa [hW, hH, hp] using hall0
                        refine Calls.mono (rsize_any q _) ?_
                        rw [eq]
                        rintro e wx ⟨rfl, rfl⟩
                        go_wp2_with fail
                        clear hall0
                        refine Calls.mono (awake_any _) ?_
                        rintro e wz ⟨rfl, hbz⟩
                        go_wp2_with fail
                        go_ret
                        exact ⟨rfl, bt hB hbz⟩
                      · have ep : okS p = false := by simpa using hp
                        refine Calls.mono (rsize_any p _) ?_
                        rw [ep]
                        rintro e wx ⟨rfl, rfl⟩
                        go_wp2_with fail
                        clear hall0
                        refine Calls.mono (awake_any _) ?_
                        rintro e wz ⟨rfl, hbz⟩
                        go_wp2_with fail
                        go_ret
                        exact ⟨rfl, bt hB hbz⟩
                    · have eH : okS H = false := by simpa using hH
                      refine Calls.mono (rsize_any H _) ?_
                      rw [eH]
                      rintro e wx ⟨rfl, rfl⟩
                      go_wp2_with fail
                      clear hall0
                      refine Calls.mono (awake_any _) ?_
                      rintro e wz ⟨rfl, hbz⟩
                      go_wp2_with fail
                      go_ret
                      exact ⟨rfl, bt hB hbz⟩
                  · have eW : okS W = false := by simpa using hW
                    refine Calls.mono (rsize_any W _) ?_
                    rw [eW]
                    rintro e wx ⟨rfl, rfl⟩
                    go_wp2_with fail
                    clear hall0
                    refine Calls.mono (awake_any _) ?_
                    rintro e wz ⟨rfl, hbz⟩
                    go_wp2_with fail
                    go_ret
                    exact ⟨rfl, bt hB hbz⟩
          · have y2 : y < 0 := by omega
            clear hat0 y0
            go_wp2_with fail
            refine Calls.mono (rmay_any W H A l.length c _) ?_
            rw [hm]
            rintro e w1 ⟨rfl, hb1⟩
            obtain ⟨hc1, _⟩ := bcell hb1
            replace k0 := (hc1 _ _ hz).trans k0
            replace k1 := (hc1 _ _ hz).trans k1
            replace k2 := (hc1 _ _ hz).trans k2
            replace hX := Lib.hid ((hb1.block _ hz).trans hX.out)
            replace hB := bt hB hb1
            replace hz := Nat.lt_of_lt_of_le hz hb1.size
            clear hc1
            go_wp2_with fail
            refine Calls.mono (rat_no W H x y A l.length c _ HN.out) ?_
            rintro e w2 ⟨rfl, hb2⟩
            obtain ⟨hc2, _⟩ := bcell hb2
            replace k0 := (hc2 _ _ hz).trans k0
            replace k1 := (hc2 _ _ hz).trans k1
            replace k2 := (hc2 _ _ hz).trans k2
            replace hX := Lib.hid ((hb2.block _ hz).trans hX.out)
            replace hB := bt hB hb2
            replace hz := Nat.lt_of_lt_of_le hz hb2.size
            clear hc2
            go_wp2_with (with_reducible refine wpl_store_arr at27 rfl (.tmp 12) (.tmp 33) rfl w2.heap.size rfl rfl 27 (col_len [0, 0, 0] 0) _ rfl (heap_alloc_new _ _) ?_; intro w5 hr5 hg5 hs5; have hb5 : Below w2.heap.size w2 w5 := (ba (brefl w2) _).grown hg5 (by simp) (fun k hk => by cases hk; exact Nat.le_refl _); obtain ⟨hc5, _⟩ := bcell hb5; replace k0 := (hc5 _ _ hz).trans k0; replace k1 := (hc5 _ _ hz).trans k1; replace k2 := (hc5 _ _ hz).trans k2; replace hX := Lib.hid ((hb5.block _ hz).trans hX.out); replace hB := bt hB hb5; have hg0 := hz; replace hz := Nat.lt_of_lt_of_le hz hb5.size; clear hc5; simp only [Act.put])
            have hgz : w2.heap.size < w5.heap.size := by rw [hs5]; simp
            have HR5 := Lib.hid hr5
            clear hr5
            refine Calls.mono (may_any W H A l.length c _) ?_
            rw [hm]
            rintro e w6 ⟨rfl, hb6⟩
            obtain ⟨hc6, _⟩ := bcell hb6
            replace k0 := (hc6 _ _ hz).trans k0
            replace k1 := (hc6 _ _ hz).trans k1
            replace k2 := (hc6 _ _ hz).trans k2
            replace hX := Lib.hid ((hb6.block _ hz).trans hX.out)
            replace hB := bt hB hb6
            replace hz := Nat.lt_of_lt_of_le hz hb6.size
            clear hc6
            have r6 := (hb6.block _ hgz).trans HR5.out
            have g0 : w6.cell? ⟨w2.heap.size, 0, none⟩ = some (.int .u8 0) := row_cell r6 0 rfl
            have g1 : w6.cell? ⟨w2.heap.size, 1, none⟩ = some (.int .u8 0) := row_cell r6 1 rfl
            have g2 : w6.cell? ⟨w2.heap.size, 2, none⟩ = some (.int .u8 0) := row_cell r6 2 rfl
            have heq : (Op.equalIn 10000 27 (.agg #[.int .u8 0, .int .u8 0, .int .u8 0]) (.agg #[.int .u8 0, .int .u8 0, .int .u8 0])).run Try.prog w6 = .ok true w6 := eq_run at27 (l := [0, 0, 0]) rfl [0, 0, 0] rfl 9998 w6
            clear HR5 HN
            go_wp2_with fail
            clear g0 g1 g2 heq r6
            go_loopw [15] (fun s15 wr => s15 = .int .i64 0 ∧ wr = w6) (fun s15 _ => 0)
            case atStart => exact ⟨rfl, rfl⟩
            case round =>
              obtain ⟨rfl, rfl⟩ := hrel
              go_wp2_with fail
              by_cases hall : [W, H, p, q].all okS = true
              · obtain ⟨hkW, hkH, hkp, hkq⟩ := all4 hall
                clear hall
                refine Calls.mono (fit_yes W H p q _ hkW hkH hkp hkq) ?_
                rintro e wf ⟨rfl, hbf⟩
                obtain ⟨hcf, _⟩ := bcell hbf
                replace k0 := (hcf _ _ hz).trans k0
                replace k1 := (hcf _ _ hz).trans k1
                replace k2 := (hcf _ _ hz).trans k2
                replace hX := Lib.hid ((hbf.block _ hz).trans hX.out)
                replace hB := bt hB hbf
                replace hz := Nat.lt_of_lt_of_le hz hbf.size
                clear hcf
                go_wp2_with fail
                refine Calls.mono (rsize_any W _) ?_
                rw [hkW]
                rintro e wx ⟨rfl, rfl⟩
                go_wp2_with fail
                refine Calls.mono (rsize_any H _) ?_
                rw [hkH]
                rintro e wx ⟨rfl, rfl⟩
                go_wp2_with fail
                refine Calls.mono (rsize_any p _) ?_
                rw [hkp]
                rintro e wx ⟨rfl, rfl⟩
                go_wp2_with fail
                refine Calls.mono (rsize_any q _) ?_
                rw [hkq]
                rintro e wx ⟨rfl, rfl⟩
                go_wp2_with fail
                refine Calls.mono (rfit_any W H p q _ hkW hkH hkp hkq) ?_
                rintro e wg ⟨rfl, hbg⟩
                obtain ⟨hcg, _⟩ := bcell hbg
                replace hX := Lib.hid ((hbg.block _ hz).trans hX.out)
                replace hB := bt hB hbg
                replace hz := Nat.lt_of_lt_of_le hz hbg.size
                clear hcg
                go_wp2_with fail
                refine Calls.mono (awake_any _) ?_
                rintro e wz ⟨rfl, hbz⟩
                go_wp2_with fail
                go_ret
                exact ⟨rfl, bt hB hbz⟩
              · have hall0 : [W, H, p, q].all okS = false := by simpa using hall
                clear hall
                refine Calls.mono (fit_no W H p q _ hall0) ?_
                rintro e wf ⟨rfl, hbf⟩
                obtain ⟨hcf, _⟩ := bcell hbf
                replace k0 := (hcf _ _ hz).trans k0
                replace k1 := (hcf _ _ hz).trans k1
                replace k2 := (hcf _ _ hz).trans k2
                replace hX := Lib.hid ((hbf.block _ hz).trans hX.out)
                replace hB := bt hB hbf
                replace hz := Nat.lt_of_lt_of_le hz hbf.size
                clear hcf
                go_wp2_with fail
                by_cases hW : okS W = true
                · refine Calls.mono (rsize_any W _) ?_
                  rw [hW]
                  rintro e wx ⟨rfl, rfl⟩
                  go_wp2_with fail
                  by_cases hH : okS H = true
                  · refine Calls.mono (rsize_any H _) ?_
                    rw [hH]
                    rintro e wx ⟨rfl, rfl⟩
                    go_wp2_with fail
                    by_cases hp : okS p = true
                    · refine Calls.mono (rsize_any p _) ?_
                      rw [hp]
                      rintro e wx ⟨rfl, rfl⟩
                      go_wp2_with fail
                      have eq : okS q = false := by simpa [hW, hH, hp] using hall0
                      refine Calls.mono (rsize_any q _) ?_
                      rw [eq]
                      rintro e wx ⟨rfl, rfl⟩
                      go_wp2_with fail
                      clear hall0
                      refine Calls.mono (awake_any _) ?_
                      rintro e wz ⟨rfl, hbz⟩
                      go_wp2_with fail
                      go_ret
                      exact ⟨rfl, bt hB hbz⟩
                    · have ep : okS p = false := by simpa using hp
                      refine Calls.mono (rsize_any p _) ?_
                      rw [ep]
                      rintro e wx ⟨rfl, rfl⟩
                      go_wp2_with fail
                      clear hall0
                      refine Calls.mono (awake_any _) ?_
                      rintro e wz ⟨rfl, hbz⟩
                      go_wp2_with fail
                      go_ret
                      exact ⟨rfl, bt hB hbz⟩
                  · have eH : okS H = false := by simpa using hH
                    refine Calls.mono (rsize_any H _) ?_
                    rw [eH]
                    rintro e wx ⟨rfl, rfl⟩
                    go_wp2_with fail
                    clear hall0
                    refine Calls.mono (awake_any _) ?_
                    rintro e wz ⟨rfl, hbz⟩
                    go_wp2_with fail
                    go_ret
                    exact ⟨rfl, bt hB hbz⟩
                · have eW : okS W = false := by simpa using hW
                  refine Calls.mono (rsize_any W _) ?_
                  rw [eW]
                  rintro e wx ⟨rfl, rfl⟩
                  go_wp2_with fail
                  clear hall0
                  refine Calls.mono (awake_any _) ?_
                  rintro e wz ⟨rfl, hbz⟩
                  go_wp2_with fail
                  go_ret
                  exact ⟨rfl, bt hB hbz⟩
        · have x2 : x < 0 := by omega
          clear hat0 x0
          go_wp2_with fail
          refine Calls.mono (rmay_any W H A l.length c _) ?_
          rw [hm]
          rintro e w1 ⟨rfl, hb1⟩
          obtain ⟨hc1, _⟩ := bcell hb1
          replace k0 := (hc1 _ _ hz).trans k0
          replace k1 := (hc1 _ _ hz).trans k1
          replace k2 := (hc1 _ _ hz).trans k2
          replace hX := Lib.hid ((hb1.block _ hz).trans hX.out)
          replace hB := bt hB hb1
          replace hz := Nat.lt_of_lt_of_le hz hb1.size
          clear hc1
          go_wp2_with fail
          refine Calls.mono (rat_no W H x y A l.length c _ HN.out) ?_
          rintro e w2 ⟨rfl, hb2⟩
          obtain ⟨hc2, _⟩ := bcell hb2
          replace k0 := (hc2 _ _ hz).trans k0
          replace k1 := (hc2 _ _ hz).trans k1
          replace k2 := (hc2 _ _ hz).trans k2
          replace hX := Lib.hid ((hb2.block _ hz).trans hX.out)
          replace hB := bt hB hb2
          replace hz := Nat.lt_of_lt_of_le hz hb2.size
          clear hc2
          go_wp2_with (with_reducible refine wpl_store_arr at27 rfl (.tmp 12) (.tmp 33) rfl w2.heap.size rfl rfl 27 (col_len [0, 0, 0] 0) _ rfl (heap_alloc_new _ _) ?_; intro w5 hr5 hg5 hs5; have hb5 : Below w2.heap.size w2 w5 := (ba (brefl w2) _).grown hg5 (by simp) (fun k hk => by cases hk; exact Nat.le_refl _); obtain ⟨hc5, _⟩ := bcell hb5; replace k0 := (hc5 _ _ hz).trans k0; replace k1 := (hc5 _ _ hz).trans k1; replace k2 := (hc5 _ _ hz).trans k2; replace hX := Lib.hid ((hb5.block _ hz).trans hX.out); replace hB := bt hB hb5; have hg0 := hz; replace hz := Nat.lt_of_lt_of_le hz hb5.size; clear hc5; simp only [Act.put])
          have hgz : w2.heap.size < w5.heap.size := by rw [hs5]; simp
          have HR5 := Lib.hid hr5
          clear hr5
          refine Calls.mono (may_any W H A l.length c _) ?_
          rw [hm]
          rintro e w6 ⟨rfl, hb6⟩
          obtain ⟨hc6, _⟩ := bcell hb6
          replace k0 := (hc6 _ _ hz).trans k0
          replace k1 := (hc6 _ _ hz).trans k1
          replace k2 := (hc6 _ _ hz).trans k2
          replace hX := Lib.hid ((hb6.block _ hz).trans hX.out)
          replace hB := bt hB hb6
          replace hz := Nat.lt_of_lt_of_le hz hb6.size
          clear hc6
          have r6 := (hb6.block _ hgz).trans HR5.out
          have g0 : w6.cell? ⟨w2.heap.size, 0, none⟩ = some (.int .u8 0) := row_cell r6 0 rfl
          have g1 : w6.cell? ⟨w2.heap.size, 1, none⟩ = some (.int .u8 0) := row_cell r6 1 rfl
          have g2 : w6.cell? ⟨w2.heap.size, 2, none⟩ = some (.int .u8 0) := row_cell r6 2 rfl
          have heq : (Op.equalIn 10000 27 (.agg #[.int .u8 0, .int .u8 0, .int .u8 0]) (.agg #[.int .u8 0, .int .u8 0, .int .u8 0])).run Try.prog w6 = .ok true w6 := eq_run at27 (l := [0, 0, 0]) rfl [0, 0, 0] rfl 9998 w6
          clear HR5 HN
          go_wp2_with fail
          clear g0 g1 g2 heq r6
          go_loopw [15] (fun s15 wr => s15 = .int .i64 0 ∧ wr = w6) (fun s15 _ => 0)
          case atStart => exact ⟨rfl, rfl⟩
          case round =>
            obtain ⟨rfl, rfl⟩ := hrel
            go_wp2_with fail
            by_cases hall : [W, H, p, q].all okS = true
            · obtain ⟨hkW, hkH, hkp, hkq⟩ := all4 hall
              clear hall
              refine Calls.mono (fit_yes W H p q _ hkW hkH hkp hkq) ?_
              rintro e wf ⟨rfl, hbf⟩
              obtain ⟨hcf, _⟩ := bcell hbf
              replace k0 := (hcf _ _ hz).trans k0
              replace k1 := (hcf _ _ hz).trans k1
              replace k2 := (hcf _ _ hz).trans k2
              replace hX := Lib.hid ((hbf.block _ hz).trans hX.out)
              replace hB := bt hB hbf
              replace hz := Nat.lt_of_lt_of_le hz hbf.size
              clear hcf
              go_wp2_with fail
              refine Calls.mono (rsize_any W _) ?_
              rw [hkW]
              rintro e wx ⟨rfl, rfl⟩
              go_wp2_with fail
              refine Calls.mono (rsize_any H _) ?_
              rw [hkH]
              rintro e wx ⟨rfl, rfl⟩
              go_wp2_with fail
              refine Calls.mono (rsize_any p _) ?_
              rw [hkp]
              rintro e wx ⟨rfl, rfl⟩
              go_wp2_with fail
              refine Calls.mono (rsize_any q _) ?_
              rw [hkq]
              rintro e wx ⟨rfl, rfl⟩
              go_wp2_with fail
              refine Calls.mono (rfit_any W H p q _ hkW hkH hkp hkq) ?_
              rintro e wg ⟨rfl, hbg⟩
              obtain ⟨hcg, _⟩ := bcell hbg
              replace hX := Lib.hid ((hbg.block _ hz).trans hX.out)
              replace hB := bt hB hbg
              replace hz := Nat.lt_of_lt_of_le hz hbg.size
              clear hcg
              go_wp2_with fail
              refine Calls.mono (awake_any _) ?_
              rintro e wz ⟨rfl, hbz⟩
              go_wp2_with fail
              go_ret
              exact ⟨rfl, bt hB hbz⟩
            · have hall0 : [W, H, p, q].all okS = false := by simpa using hall
              clear hall
              refine Calls.mono (fit_no W H p q _ hall0) ?_
              rintro e wf ⟨rfl, hbf⟩
              obtain ⟨hcf, _⟩ := bcell hbf
              replace k0 := (hcf _ _ hz).trans k0
              replace k1 := (hcf _ _ hz).trans k1
              replace k2 := (hcf _ _ hz).trans k2
              replace hX := Lib.hid ((hbf.block _ hz).trans hX.out)
              replace hB := bt hB hbf
              replace hz := Nat.lt_of_lt_of_le hz hbf.size
              clear hcf
              go_wp2_with fail
              by_cases hW : okS W = true
              · refine Calls.mono (rsize_any W _) ?_
                rw [hW]
                rintro e wx ⟨rfl, rfl⟩
                go_wp2_with fail
                by_cases hH : okS H = true
                · refine Calls.mono (rsize_any H _) ?_
                  rw [hH]
                  rintro e wx ⟨rfl, rfl⟩
                  go_wp2_with fail
                  by_cases hp : okS p = true
                  · refine Calls.mono (rsize_any p _) ?_
                    rw [hp]
                    rintro e wx ⟨rfl, rfl⟩
                    go_wp2_with fail
                    have eq : okS q = false := by simpa [hW, hH, hp] using hall0
                    refine Calls.mono (rsize_any q _) ?_
                    rw [eq]
                    rintro e wx ⟨rfl, rfl⟩
                    go_wp2_with fail
                    clear hall0
                    refine Calls.mono (awake_any _) ?_
                    rintro e wz ⟨rfl, hbz⟩
                    go_wp2_with fail
                    go_ret
                    exact ⟨rfl, bt hB hbz⟩
                  · have ep : okS p = false := by simpa using hp
                    refine Calls.mono (rsize_any p _) ?_
                    rw [ep]
                    rintro e wx ⟨rfl, rfl⟩
                    go_wp2_with fail
                    clear hall0
                    refine Calls.mono (awake_any _) ?_
                    rintro e wz ⟨rfl, hbz⟩
                    go_wp2_with fail
                    go_ret
                    exact ⟨rfl, bt hB hbz⟩
                · have eH : okS H = false := by simpa using hH
                  refine Calls.mono (rsize_any H _) ?_
                  rw [eH]
                  rintro e wx ⟨rfl, rfl⟩
                  go_wp2_with fail
                  clear hall0
                  refine Calls.mono (awake_any _) ?_
                  rintro e wz ⟨rfl, hbz⟩
                  go_wp2_with fail
                  go_ret
                  exact ⟨rfl, bt hB hbz⟩
              · have eW : okS W = false := by simpa using hW
                refine Calls.mono (rsize_any W _) ?_
                rw [eW]
                rintro e wx ⟨rfl, rfl⟩
                go_wp2_with fail
                clear hall0
                refine Calls.mono (awake_any _) ?_
                rintro e wz ⟨rfl, hbz⟩
                go_wp2_with fail
                go_ret
                exact ⟨rfl, bt hB hbz⟩
      · have hm' : mayB W H l.length = false := by simpa using hm
        clear hm hat0
        go_wp2_with fail
        refine Calls.mono (rmay_any W H A l.length c _) ?_
        rw [hm']
        rintro e w1 ⟨rfl, hb1⟩
        obtain ⟨hc1, _⟩ := bcell hb1
        replace k0 := (hc1 _ _ hz).trans k0
        replace k1 := (hc1 _ _ hz).trans k1
        replace k2 := (hc1 _ _ hz).trans k2
        replace hX := Lib.hid ((hb1.block _ hz).trans hX.out)
        replace hB := bt hB hb1
        replace hz := Nat.lt_of_lt_of_le hz hb1.size
        clear hc1
        go_wp2_with fail
        refine Calls.mono (rat_no W H x y A l.length c _ HN.out) ?_
        rintro e w2 ⟨rfl, hb2⟩
        obtain ⟨hc2, _⟩ := bcell hb2
        replace k0 := (hc2 _ _ hz).trans k0
        replace k1 := (hc2 _ _ hz).trans k1
        replace k2 := (hc2 _ _ hz).trans k2
        replace hX := Lib.hid ((hb2.block _ hz).trans hX.out)
        replace hB := bt hB hb2
        replace hz := Nat.lt_of_lt_of_le hz hb2.size
        clear hc2
        go_wp2_with (with_reducible refine wpl_store_arr at27 rfl (.tmp 12) (.tmp 33) rfl w2.heap.size rfl rfl 27 (col_len [0, 0, 0] 0) _ rfl (heap_alloc_new _ _) ?_; intro w5 hr5 hg5 hs5; have hb5 : Below w2.heap.size w2 w5 := (ba (brefl w2) _).grown hg5 (by simp) (fun k hk => by cases hk; exact Nat.le_refl _); obtain ⟨hc5, _⟩ := bcell hb5; replace k0 := (hc5 _ _ hz).trans k0; replace k1 := (hc5 _ _ hz).trans k1; replace k2 := (hc5 _ _ hz).trans k2; replace hX := Lib.hid ((hb5.block _ hz).trans hX.out); replace hB := bt hB hb5; have hg0 := hz; replace hz := Nat.lt_of_lt_of_le hz hb5.size; clear hc5; simp only [Act.put])
        have hgz : w2.heap.size < w5.heap.size := by rw [hs5]; simp
        have HR5 := Lib.hid hr5
        clear hr5
        refine Calls.mono (may_any W H A l.length c _) ?_
        rw [hm']
        rintro e w6 ⟨rfl, hb6⟩
        obtain ⟨hc6, _⟩ := bcell hb6
        replace k0 := (hc6 _ _ hz).trans k0
        replace k1 := (hc6 _ _ hz).trans k1
        replace k2 := (hc6 _ _ hz).trans k2
        replace hX := Lib.hid ((hb6.block _ hz).trans hX.out)
        replace hB := bt hB hb6
        replace hz := Nat.lt_of_lt_of_le hz hb6.size
        clear hc6
        have r6 := (hb6.block _ hgz).trans HR5.out
        have g0 : w6.cell? ⟨w2.heap.size, 0, none⟩ = some (.int .u8 0) := row_cell r6 0 rfl
        have g1 : w6.cell? ⟨w2.heap.size, 1, none⟩ = some (.int .u8 0) := row_cell r6 1 rfl
        have g2 : w6.cell? ⟨w2.heap.size, 2, none⟩ = some (.int .u8 0) := row_cell r6 2 rfl
        have heq : (Op.equalIn 10000 27 (.agg #[.int .u8 0, .int .u8 0, .int .u8 0]) (.agg #[.int .u8 0, .int .u8 0, .int .u8 0])).run Try.prog w6 = .ok true w6 := eq_run at27 (l := [0, 0, 0]) rfl [0, 0, 0] rfl 9998 w6
        clear HR5 HN
        go_wp2_with fail
        clear g0 g1 g2 heq r6
        go_loopw [15] (fun s15 wr => s15 = .int .i64 0 ∧ wr = w6) (fun s15 _ => 0)
        case atStart => exact ⟨rfl, rfl⟩
        case round =>
          obtain ⟨rfl, rfl⟩ := hrel
          go_wp2_with fail
          by_cases hall : [W, H, p, q].all okS = true
          · obtain ⟨hkW, hkH, hkp, hkq⟩ := all4 hall
            clear hall
            refine Calls.mono (fit_yes W H p q _ hkW hkH hkp hkq) ?_
            rintro e wf ⟨rfl, hbf⟩
            obtain ⟨hcf, _⟩ := bcell hbf
            replace k0 := (hcf _ _ hz).trans k0
            replace k1 := (hcf _ _ hz).trans k1
            replace k2 := (hcf _ _ hz).trans k2
            replace hX := Lib.hid ((hbf.block _ hz).trans hX.out)
            replace hB := bt hB hbf
            replace hz := Nat.lt_of_lt_of_le hz hbf.size
            clear hcf
            go_wp2_with fail
            refine Calls.mono (rsize_any W _) ?_
            rw [hkW]
            rintro e wx ⟨rfl, rfl⟩
            go_wp2_with fail
            refine Calls.mono (rsize_any H _) ?_
            rw [hkH]
            rintro e wx ⟨rfl, rfl⟩
            go_wp2_with fail
            refine Calls.mono (rsize_any p _) ?_
            rw [hkp]
            rintro e wx ⟨rfl, rfl⟩
            go_wp2_with fail
            refine Calls.mono (rsize_any q _) ?_
            rw [hkq]
            rintro e wx ⟨rfl, rfl⟩
            go_wp2_with fail
            refine Calls.mono (rfit_any W H p q _ hkW hkH hkp hkq) ?_
            rintro e wg ⟨rfl, hbg⟩
            obtain ⟨hcg, _⟩ := bcell hbg
            replace hX := Lib.hid ((hbg.block _ hz).trans hX.out)
            replace hB := bt hB hbg
            replace hz := Nat.lt_of_lt_of_le hz hbg.size
            clear hcg
            go_wp2_with fail
            refine Calls.mono (awake_any _) ?_
            rintro e wz ⟨rfl, hbz⟩
            go_wp2_with fail
            go_ret
            exact ⟨rfl, bt hB hbz⟩
          · have hall0 : [W, H, p, q].all okS = false := by simpa using hall
            clear hall
            refine Calls.mono (fit_no W H p q _ hall0) ?_
            rintro e wf ⟨rfl, hbf⟩
            obtain ⟨hcf, _⟩ := bcell hbf
            replace k0 := (hcf _ _ hz).trans k0
            replace k1 := (hcf _ _ hz).trans k1
            replace k2 := (hcf _ _ hz).trans k2
            replace hX := Lib.hid ((hbf.block _ hz).trans hX.out)
            replace hB := bt hB hbf
            replace hz := Nat.lt_of_lt_of_le hz hbf.size
            clear hcf
            go_wp2_with fail
            by_cases hW : okS W = true
            · refine Calls.mono (rsize_any W _) ?_
              rw [hW]
              rintro e wx ⟨rfl, rfl⟩
              go_wp2_with fail
              by_cases hH : okS H = true
              · refine Calls.mono (rsize_any H _) ?_
                rw [hH]
                rintro e wx ⟨rfl, rfl⟩
                go_wp2_with fail
                by_cases hp : okS p = true
                · refine Calls.mono (rsize_any p _) ?_
                  rw [hp]
                  rintro e wx ⟨rfl, rfl⟩
                  go_wp2_with fail
                  have eq : okS q = false := by simpa [hW, hH, hp] using hall0
                  refine Calls.mono (rsize_any q _) ?_
                  rw [eq]
                  rintro e wx ⟨rfl, rfl⟩
                  go_wp2_with fail
                  clear hall0
                  refine Calls.mono (awake_any _) ?_
                  rintro e wz ⟨rfl, hbz⟩
                  go_wp2_with fail
                  go_ret
                  exact ⟨rfl, bt hB hbz⟩
                · have ep : okS p = false := by simpa using hp
                  refine Calls.mono (rsize_any p _) ?_
                  rw [ep]
                  rintro e wx ⟨rfl, rfl⟩
                  go_wp2_with fail
                  clear hall0
                  refine Calls.mono (awake_any _) ?_
                  rintro e wz ⟨rfl, hbz⟩
                  go_wp2_with fail
                  go_ret
                  exact ⟨rfl, bt hB hbz⟩
              · have eH : okS H = false := by simpa using hH
                refine Calls.mono (rsize_any H _) ?_
                rw [eH]
                rintro e wx ⟨rfl, rfl⟩
                go_wp2_with fail
                clear hall0
                refine Calls.mono (awake_any _) ?_
                rintro e wz ⟨rfl, hbz⟩
                go_wp2_with fail
                go_ret
                exact ⟨rfl, bt hB hbz⟩
            · have eW : okS W = false := by simpa using hW
              refine Calls.mono (rsize_any W _) ?_
              rw [eW]
              rintro e wx ⟨rfl, rfl⟩
              go_wp2_with fail
              clear hall0
              refine Calls.mono (awake_any _) ?_
              rintro e wz ⟨rfl, hbz⟩
              go_wp2_with fail
              go_ret
              exact ⟨rfl, bt hB hbz⟩
end Go.Proofs.Ytdjfjndmkkhknaa
