/- The contract of values: the spots of a directory's values. -/
import Derived.Test.YtkepbobnjplpoaaLyB
namespace Go.Proofs.Ytkepbobnjplpoaa
open Go.RowKit
open Go.Tin
set_option linter.unusedVariables false
set_option linter.unusedSimpArgs false


theorem rtTg : RT Try.prog 50 4 := RT.of Try.underlying50 rfl (by kernel_rfl)
theorem rtDi : RT Try.prog 42 3 := RT.of Try.underlying42 rfl (by kernel_rfl)
theorem TgS.at_ {w : World} {p : Nat → Prop} {A : Option Addr} {ts : List Tg} (h : TgS w p A ts) (hl : 0 < ts.length) :
    ∃ b off, A = some ⟨b, off, none⟩ ∧ p b ∧ b < w.heap.size ∧ ∀ i (hi : i < ts.length), ∃ Ad cd, w.rangeAt b (off + i * 4) [.int .i64 ts[i].n, .int .i64 ts[i].t, .int .i64 ts[i].c, .slice Ad ts[i].d.length cd] ∧ SlP .u8 w p Ad ts[i].d ∧ Byts ts[i].d ∧ ts[i].d.length ≤ maxLen := by
  obtain ⟨xs, h1, h2⟩ := h
  have hx := h2.len
  rcases h1 with h0 | ⟨b, off, rfl, hp, hb, hc⟩
  · rw [h0] at hx; simp at hx; omega
  refine ⟨b, off, rfl, hp, hb, fun i hi => ?_⟩
  obtain ⟨v, hv, A, c, rfl, h4, h5, h6⟩ := h2.at_ i hi
  refine ⟨A, c, ?_, h4, h5, h6⟩
  have := SlV.rng (w := w) (b := b) (off := off) (xs := xs) (.inr ⟨b, off, rfl, hb, hc⟩) (i * 4) 4 (by rw [hx]; omega)
  rw [hv] at this
  exact this
theorem rng_below {B b o : Nat} {w w' : World} {xs : List Value} (hb : Below B w w') (hlt : b < B) (h : w.rangeAt b o xs) : w'.rangeAt b o xs := fun j v hj => (hb.cell (p := ⟨b, o + j, none⟩) hlt).trans (h j v hj)
theorem drop_at_ {α : Type} {l : List α} {i : Nat} (h : i < l.length) : l.drop i = l[i] :: l.drop (i + 1) := List.drop_eq_getElem_cons h
set_option maxRecDepth 100000 in
set_option maxHeartbeats 4000000 in
theorem values_any (B g : Nat) (l : List Sp) (no dir : Int) (At As Ab : Option Addr) (ct ns cs nb cb : Nat) (ts : List Tg) (w : World) (h : Pl B w g l no) (ht : TgS w (· < B) At ts) (hn : ts.length ≤ 1000000) (he0 : 0 ≤ endL l) (he1 : endL l + 1000001 * ts.length ≤ 100000000000000) (hl : l.length + ts.length ≤ 1000000000) :
    Calls Try.prog 54 #[.pointer (some ⟨g, 0, none⟩), .agg #[.slice At ts.length ct, .slice As ns cs, .slice Ab nb cb], .int .i64 dir, .func (.func 31) #[.pointer (some ⟨g, 0, none⟩)] #[]] w fun e w' => e = .returned (.tuple #[]) ∧ Pl B w' g (tagsL l dir ts) no ∧ Below B w w' ∧ Nsp g w w' := by
  have HP := Lib.hid h
  have HT := Lib.hid ht
  have hlt := h.lt
  have hb0 := ba (brefl w) (.cells (drow At ts.length ct As ns cs Ab nb cb) 42)
  have k0 := row_cell (v := .slice At ts.length ct) (heap_alloc_new w (.cells (drow At ts.length ct As ns cs Ab nb cb) 42)) 0 rfl
  have HP0 := Lib.hid (h.keep hb0)
  have HB0 := Lib.hid (hb0.mono (Nat.le_of_lt hlt))
  have HN0 := Lib.hid (Nsp.of_bel (g := g) hb0)
  clear h ht hb0
  go_enter Try.func54, Try.ntmps54
  go_wp2_with fail
  clear k0
  generalize w.alloc (.cells (drow At ts.length ct As ns cs Ab nb cb) 42) = w0 at *
  go_loopw [14] (fun s14 wr => ∃ (i : Nat) (l' : List Sp), i ≤ ts.length ∧ s14 = .int .i64 (i : Int) ∧ Pl B wr g l' no ∧ Below B w wr ∧ Nsp g w wr ∧ tagsL l dir ts = tagsL l' dir (ts.drop i) ∧ 0 ≤ endL l' ∧ endL l' ≤ endL l + 1000001 * i ∧ l'.length ≤ l.length + i) (fun s14 _ => ts.length - (intOf s14).toNat)
  case atStart => exact ⟨0, l, by omega, rfl, HP0.out, HB0.out, HN0.out, by rw [List.drop_zero], he0, by omega, by omega⟩
  case round =>
    obtain ⟨i, l', hi, rfl, hp, hb, hnn, htl, hz0, hz1, hz2⟩ := hrel
    have HPr := Lib.hid hp
    have HBr := Lib.hid hb
    have HNr := Lib.hid hnn
    have HTL := Lib.hid htl
    clear hp hb hnn htl
    by_cases hin : i < ts.length
    case neg =>
      obtain rfl : i = ts.length := by omega
      go_wp2_with fail
      go_end0
      refine ⟨rfl, ?_, HBr.out, HNr.out⟩
      rw [HTL.out, List.drop_eq_nil_of_le (Nat.le_refl _)]
      exact HPr.out
    have i1 : (i : Int) < (ts.length : Int) := by omega
    obtain ⟨b, off, rfl, hpb, hbs, hc⟩ := HT.out.at_ (by omega)
    obtain ⟨Ad, cd, hr0, _, _, _⟩ := hc i hin
    have HRG := Lib.hid (rng_below HBr.out hpb hr0)
    have HD := Lib.hid (drop_at_ hin)
    have hstep : tagsL l' dir (ts.drop i) = tagsL (if 0 < ouE ts[i].t ts[i].c then wth l' 3 dir ts[i].n (ouE ts[i].t ts[i].c) else l') dir (ts.drop (i + 1)) := by rw [HD.out, tagsL]
    have hob := ouE_bd ts[i].t ts[i].c
    have HO := Lib.hid (fun W => out_any ts[i].t ts[i].c W)
    have HST := Lib.hid hstep
    clear hc hr0 hstep
    generalize hO : ouE ts[i].t ts[i].c = O at *
    generalize ts[i] = t at *
    obtain ⟨tn, tt, tc, td⟩ := t
    dsimp only at HRG HO HST
    clear hO
    have RT := Lib.hid (heap_alloc_new wr (.cells #[.int .i64 tn, .int .i64 tt, .int .i64 tc, .slice Ad td.length cd] 50))
    have hba := ba (brefl wr) (.cells #[.int .i64 tn, .int .i64 tt, .int .i64 tc, .slice Ad td.length cd] 50)
    have hBr : B ≤ wr.heap.size := Nat.le_of_lt HPr.out.lt
    have k0 := row_cell (v := .int .i64 tn) RT.out 0 rfl
    have k1 := row_cell (v := .int .i64 tt) RT.out 1 rfl
    have k2 := row_cell (v := .int .i64 tc) RT.out 2 rfl
    replace HPr := Lib.hid (HPr.out.keep hba)
    replace HBr := Lib.hid (HBr.out.trans (hba.mono hBr))
    replace HNr := Lib.hid (HNr.out.trans (Nsp.of_bel hba))
    clear hba hBr
    go_wp2_with ((with_reducible refine wpl_loadv rtTg ?_ (.tmp 16) ?_ b (off + i * 4) ?_ [.int .i64 tn, .int .i64 tt, .int .i64 tc, .slice Ad td.length cd] ?_ HRG.out ?_); rfl; rfl; rfl; rfl; simp only [Act.put, List.setIfInBounds_toArray, List.set_cons_succ, List.set_cons_zero])
    clear k0 k1 k2
    refine (HO.out _).mono ?_
    rintro e w1 ⟨rfl, hb1⟩
    replace RT := Lib.hid ((hb1.block _ (row_lt RT.out)).trans RT.out)
    have hBr := Nat.le_of_lt HPr.out.lt
    replace HPr := Lib.hid (HPr.out.keep hb1)
    replace HBr := Lib.hid (HBr.out.trans (hb1.mono hBr))
    replace HNr := Lib.hid (HNr.out.trans (Nsp.of_bel hb1))
    have k0 := row_cell (v := .int .i64 tn) RT.out 0 rfl
    clear hb1 hBr
    by_cases h0 : 0 < O
    · rw [if_pos h0] at HST
      go_wp2_with fail
      clear k0
      refine (put_any B g l' no 3 dir tn O _ HPr.out hz0 (by omega) (by omega) (by omega) (by omega)).mono ?_
      rintro e w2 ⟨rfl, hp2, hb2, hn2⟩
      have hev := evenN_bd (endL l')
      have HLe := Lib.hid (endL_wth l' 3 dir tn O)
      have HLn := Lib.hid (wth_len l' 3 dir tn O)
      go_wp2_with fail
      exact ⟨⟨i + 1, _, by omega, rfl, hp2, HBr.out.trans hb2, HNr.out.trans hn2, HTL.out.trans HST.out, by rw [HLe.out]; omega, by rw [HLe.out]; omega, by rw [HLn.out]; omega⟩, by simp only [intOf]; omega⟩
    · rw [if_neg h0] at HST
      go_wp2_with fail
      exact ⟨⟨i + 1, _, by omega, rfl, HPr.out, HBr.out, HNr.out, HTL.out.trans HST.out, by omega, by omega, by omega⟩, by simp only [intOf]; omega⟩
end Go.Proofs.Ytkepbobnjplpoaa
