/- Text and the reference's. -/
import Derived.Test.YtmdcdmgbillehaaTzT
namespace Go.Proofs.Ytmdcdmgbillehaa
open Go.RowKit
open Go.Tin
set_option linter.unusedVariables false
set_option linter.unusedSimpArgs false


def texB (t c : Int) (l : List Int) : Bool := mayV t c l && decide (t = 2)
def texS (t c : Int) (l : List Int) : ByteArray := if texB t c l then strOf (l.take (l.length - 1)) else { data := #[] }
theorem tex_no {t c : Int} {l : List Int} (h : texB t c l = false) : texS t c l = { data := #[] } := by unfold texS; rw [h]; rfl
theorem tex_yes {t c : Int} {l : List Int} (h : texB t c l = true) : texS t c l = strOf (l.take (l.length - 1)) := by unfold texS; rw [h]; rfl
set_option maxRecDepth 100000 in
set_option maxHeartbeats 8000000 in
theorem text_any (t c : Int) (A : Option Addr) (l : List Int) (cap : Nat) (w : World) (hs : Sl .u8 w A l) (hl : l.length ≤ 1000000) (hby : Byts l) (hcap : l.length ≤ cap) :
    Calls Try.prog 28 #[.agg #[.int .i64 t, .int .i64 c, .slice A l.length cap]] w fun e w' => e = .returned (.tuple #[.string (texS t c l), .bool (texB t c l)]) ∧ Below w.heap.size w w' := by
  have HB := Lib.hid (ba (brefl w) (.cells (vrow t c A l.length cap) 27))
  have R1 := Lib.hid (heap_alloc_new w (.cells (vrow t c A l.length cap) 27))
  have HS := Lib.hid (hs.keep HB.out)
  have HBY := Lib.hid hby
  have HNO := Lib.hid (fun h => tex_no (t := t) (c := c) (l := l) h)
  have HYE := Lib.hid (fun h => tex_yes (t := t) (c := c) (l := l) h)
  have HD := Lib.hid (show texB t c l = (mayV t c l && decide (t = 2)) from rfl)
  have HMS := Lib.hid (fun h => may_sz (t := t) (c := c) (l := l) h)
  have hcapz : (l.length : Int) ≤ (cap : Int) := by omega
  clear hs hby
  go_enter Try.func28, Try.ntmps28
  go_wp2_with ((with_reducible refine wpl_load_row rtV ?_ (.tmp 1) ?_ (w.heap.size) ?_ 27 (vrow t c A l.length cap) ?_ R1.out ?_); rfl; rfl; rfl; rfl; simp only [Act.put, List.setIfInBounds_toArray, List.set_cons_succ, List.set_cons_zero])
  refine (vmay_any t c A l cap _ HS.out (by omega) HBY.out).mono ?_
  rintro e w2 ⟨rfl, hb⟩
  replace R1 := Lib.hid ((hb.block _ (row_lt R1.out)).trans R1.out)
  replace HB := Lib.hid (HB.out.trans (hb.mono HB.out.size))
  replace HS := Lib.hid (HS.out.keep hb)
  clear hb
  have k0 := row_cell (v := .int .i64 t) R1.out 0 rfl
  have k2 := row_cell (v := .slice A l.length cap) R1.out 2 rfl
  cases hmv : mayV t c l with
  | false =>
    have HE := Lib.hid (show texB t c l = false by rw [HD.out, hmv]; rfl)
    clear hmv
    go_wp2_with fail
    go_ret2
    rw [HE.out, HNO.out HE.out]
    exact ⟨rfl, HB.out⟩
  | true =>
    obtain ⟨hz, hlen, hc1, hc2⟩ := HMS.out hmv
    by_cases h2 : t = 2
    · have HE := Lib.hid (show texB t c l = true by rw [HD.out, hmv, decide_eq_true h2]; rfl)
      have hl1 : 1 ≤ (l.length : Int) := by rw [hlen, h2]; show 1 ≤ (c.toNat : Int) * 1; omega
      have d2 : (t != 2) = false := by simpa using h2
      have kC : (convert 25 9 (.slice A (l.length - 1) cap)).run Try.prog w2 = .ok (.string (strOf (l.take (l.length - 1)))) w2 := str_run Try.underlying25 Try.underlying5 Try.underlying9 (HS.out.take (l.length - 1)) _ _ (by rw [List.length_take]; omega)
      have HKC := Lib.hid kC
      have tn : ((l.length : Int) - 1).toNat = l.length - 1 := by omega
      clear hmv hz hlen h2 hc1 hc2 kC
      go_wp2_with fail
      rw [HKC.out]
      simp only [Result.andThen]
      rw [Oper.upon_value]
      go_wp2_with fail
      go_ret2
      rw [HE.out, HYE.out HE.out]
      exact ⟨rfl, HB.out⟩
    · have HE := Lib.hid (show texB t c l = false by rw [HD.out, decide_eq_false h2]; simp)
      have d2 : (t != 2) = true := by simpa using h2
      clear hmv hz hlen h2 hc1 hc2
      go_wp2_with fail
      go_ret2
      rw [HE.out, HNO.out HE.out]
      exact ⟨rfl, HB.out⟩
set_option maxRecDepth 100000 in
set_option maxHeartbeats 8000000 in
theorem rtext_any (t c : Int) (A : Option Addr) (l : List Int) (cap : Nat) (w : World) (hs : Sl .u8 w A l) (hl : l.length ≤ 1000000) (hby : Byts l) (hcap : l.length ≤ cap) :
    Calls Try.prog 29 #[.agg #[.int .i64 t, .int .i64 c, .slice A l.length cap]] w fun e w' => e = .returned (.tuple #[.string (texS t c l), .bool (texB t c l)]) ∧ Below w.heap.size w w' := by
  have HB := Lib.hid (ba (brefl w) (.cells (vrow t c A l.length cap) 27))
  have R1 := Lib.hid (heap_alloc_new w (.cells (vrow t c A l.length cap) 27))
  have HS := Lib.hid (hs.keep HB.out)
  have HBY := Lib.hid hby
  have HNO := Lib.hid (fun h => tex_no (t := t) (c := c) (l := l) h)
  have HYE := Lib.hid (fun h => tex_yes (t := t) (c := c) (l := l) h)
  have HD := Lib.hid (show texB t c l = (mayV t c l && decide (t = 2)) from rfl)
  have HMS := Lib.hid (fun h => may_sz (t := t) (c := c) (l := l) h)
  have hcapz : (l.length : Int) ≤ (cap : Int) := by omega
  clear hs hby
  go_enter Try.func29, Try.ntmps29
  go_wp2_with ((with_reducible refine wpl_load_row rtV ?_ (.tmp 1) ?_ (w.heap.size) ?_ 27 (vrow t c A l.length cap) ?_ R1.out ?_); rfl; rfl; rfl; rfl; simp only [Act.put, List.setIfInBounds_toArray, List.set_cons_succ, List.set_cons_zero])
  refine (rmay_any t c A l cap _ HS.out (by omega) HBY.out).mono ?_
  rintro e w2 ⟨rfl, hb⟩
  replace R1 := Lib.hid ((hb.block _ (row_lt R1.out)).trans R1.out)
  replace HB := Lib.hid (HB.out.trans (hb.mono HB.out.size))
  replace HS := Lib.hid (HS.out.keep hb)
  clear hb
  have k0 := row_cell (v := .int .i64 t) R1.out 0 rfl
  have k2 := row_cell (v := .slice A l.length cap) R1.out 2 rfl
  cases hmv : mayV t c l with
  | false =>
    have HE := Lib.hid (show texB t c l = false by rw [HD.out, hmv]; rfl)
    clear hmv
    go_wp2_with fail
    go_ret2
    rw [HE.out, HNO.out HE.out]
    exact ⟨rfl, HB.out⟩
  | true =>
    obtain ⟨hz, hlen, hc1, hc2⟩ := HMS.out hmv
    by_cases h2 : t = 2
    · have HE := Lib.hid (show texB t c l = true by rw [HD.out, hmv, decide_eq_true h2]; rfl)
      have hl1 : 1 ≤ (l.length : Int) := by rw [hlen, h2]; show 1 ≤ (c.toNat : Int) * 1; omega
      have d2 : (t != 2) = false := by simpa using h2
      have kC : (convert 25 9 (.slice A (l.length - 1) cap)).run Try.prog w2 = .ok (.string (strOf (l.take (l.length - 1)))) w2 := str_run Try.underlying25 Try.underlying5 Try.underlying9 (HS.out.take (l.length - 1)) _ _ (by rw [List.length_take]; omega)
      have HKC := Lib.hid kC
      have tn : ((l.length : Int) - 1).toNat = l.length - 1 := by omega
      clear hmv hz hlen h2 hc1 hc2 kC
      go_wp2_with fail
      rw [HKC.out]
      simp only [Result.andThen]
      rw [Oper.upon_value]
      go_wp2_with fail
      go_ret2
      rw [HE.out, HYE.out HE.out]
      exact ⟨rfl, HB.out⟩
    · have HE := Lib.hid (show texB t c l = false by rw [HD.out, decide_eq_false h2]; simp)
      have d2 : (t != 2) = true := by simpa using h2
      clear hmv hz hlen h2 hc1 hc2
      go_wp2_with fail
      go_ret2
      rw [HE.out, HNO.out HE.out]
      exact ⟨rfl, HB.out⟩
end Go.Proofs.Ytmdcdmgbillehaa
