/- The contracts of a directory's entries. -/
import Derived.Test.YtkepbobnjplpoaaLyN
namespace Go.Proofs.Ytkepbobnjplpoaa
open Go.RowKit
open Go.Tin
set_option linter.unusedVariables false
set_option linter.unusedSimpArgs false


abbrev drow (At : Option Addr) (nt ct : Nat) (As : Option Addr) (ns cs : Nat) (Ab : Option Addr) (nb cb : Nat) : Array Value := #[.slice At nt ct, .slice As ns cs, .slice Ab nb cb]
theorem drow_one (At : Option Addr) (nt ct : Nat) (As : Option Addr) (ns cs : Nat) (Ab : Option Addr) (nb cb : Nat) : (drow At nt ct As ns cs Ab nb cb).all (·.oneCell') = true := by simp [Value.oneCell']
def entV (nt ns nb : Nat) : Int := if 0 < nb then (nt : Int) + ns + 2 else (nt : Int) + ns
theorem entV_N (ts : List Tg) (bl : List Int) (sub : Fo) : entV ts.length sub.len bl.length = (entN ts bl sub : Int) := by
  unfold entV entN; split <;> push_cast <;> omega
theorem lent_any (At As Ab : Option Addr) (nt ct ns cs nb cb : Nat) (w : World) (ht : nt ≤ 1000000000) (hs : ns ≤ 1000000000) :
    Calls Try.prog 19 #[.agg #[.slice At nt ct, .slice As ns cs, .slice Ab nb cb]] w fun e w' => e = .returned (.int .i64 (entV nt ns nb)) ∧ Below w.heap.size w w' := by
  have HB := Lib.hid (ba (brefl w) (.cells (drow At nt ct As ns cs Ab nb cb) 42))
  have HD := Lib.hid (show entV nt ns nb = (if 0 < nb then (nt : Int) + ns + 2 else (nt : Int) + ns) from rfl)
  have hr := heap_alloc_new w (.cells (drow At nt ct As ns cs Ab nb cb) 42)
  have k0 := row_cell (v := .slice At nt ct) hr 0 rfl
  have k1 := row_cell (v := .slice As ns cs) hr 1 rfl
  have k2 := row_cell (v := .slice Ab nb cb) hr 2 rfl
  clear hr
  by_cases h : 0 < nb
  · have HE := Lib.hid (show entV nt ns nb = (nt : Int) + ns + 2 by rw [HD.out, if_pos h])
    have i1 : (0 : Int) < (nb : Int) := by omega
    clear h
    go_enter Try.func19, Try.ntmps19
    go_wp2_with fail
    go_ret
    exact ⟨by rw [HE.out]; rfl, HB.out⟩
  · have HE := Lib.hid (show entV nt ns nb = (nt : Int) + ns by rw [HD.out, if_neg h])
    have i1 : ¬ (0 : Int) < (nb : Int) := by omega
    clear h
    go_enter Try.func19, Try.ntmps19
    go_wp2_with fail
    go_ret
    exact ⟨by rw [HE.out]; rfl, HB.out⟩
theorem rent_any (At As Ab : Option Addr) (nt ct ns cs nb cb : Nat) (w : World) (ht : nt ≤ 1000000000) (hs : ns ≤ 1000000000) :
    Calls Try.prog 20 #[.agg #[.slice At nt ct, .slice As ns cs, .slice Ab nb cb]] w fun e w' => e = .returned (.int .i64 (entV nt ns nb)) ∧ Below w.heap.size w w' := by
  have HB := Lib.hid (ba (brefl w) (.cells (drow At nt ct As ns cs Ab nb cb) 42))
  have HD := Lib.hid (show entV nt ns nb = (if 0 < nb then (nt : Int) + ns + 2 else (nt : Int) + ns) from rfl)
  have hr := heap_alloc_new w (.cells (drow At nt ct As ns cs Ab nb cb) 42)
  have k0 := row_cell (v := .slice At nt ct) hr 0 rfl
  have k1 := row_cell (v := .slice As ns cs) hr 1 rfl
  have k2 := row_cell (v := .slice Ab nb cb) hr 2 rfl
  clear hr
  by_cases h : 0 < nb
  · have HE := Lib.hid (show entV nt ns nb = (nt : Int) + ns + 2 by rw [HD.out, if_pos h])
    have i1 : (0 : Int) < (nb : Int) := by omega
    clear h
    go_enter Try.func20, Try.ntmps20
    go_wp2_with fail
    go_ret
    exact ⟨by rw [HE.out]; rfl, HB.out⟩
  · have HE := Lib.hid (show entV nt ns nb = (nt : Int) + ns by rw [HD.out, if_neg h])
    have i1 : ¬ (0 : Int) < (nb : Int) := by omega
    clear h
    go_enter Try.func20, Try.ntmps20
    go_wp2_with fail
    go_ret
    exact ⟨by rw [HE.out]; rfl, HB.out⟩
/-- Spots: what their slices read as. -/
abbrev SpS (w : World) (A : Option Addr) (l : List Sp) : Prop := SlV w A (spsC l)
theorem SpS.cells {w : World} {b off : Nat} {l : List Sp} (h : SpS w (some ⟨b, off, none⟩) l) (i : Nat) (hi : i < l.length) : w.rangeAt b (off + i * 5) (spC l[i]) := by
  have := SlV.rng h (i * 5) 5 (by rw [spsC_len]; omega)
  rw [spsC_at l i hi] at this
  exact this
theorem SpS.at_ {w : World} {A : Option Addr} {l : List Sp} (h : SpS w A l) (hl : 0 < l.length) : ∃ b off, A = some ⟨b, off, none⟩ ∧ b < w.heap.size ∧ ∀ i (hi : i < l.length), w.rangeAt b (off + i * 5) (spC l[i]) := by
  obtain ⟨b, off, rfl, hb, _⟩ := SlV.at_ h (by rw [spsC_len]; omega)
  exact ⟨b, off, rfl, hb, fun i hi => SpS.cells h i hi⟩
theorem getLast_at {l : List Sp} (hl : 0 < l.length) : l.getLast? = some l[l.length - 1] := by
  rw [List.getLast?_eq_getElem?, List.getElem?_eq_getElem (by omega)]
theorem end_at {l : List Sp} (hl : 0 < l.length) : endL l = l[l.length - 1].a + l[l.length - 1].l := by
  unfold endL; rw [getLast_at hl]
/-- The end of spots: their last one's. Bounds of its numbers. -/
theorem end_any (A : Option Addr) (c : Nat) (l : List Sp) (w : World) (hs : SpS w A l) (hl : l.length ≤ 1000000000) (hb0 : -1000000000000000 ≤ endL l) (hb1 : endL l ≤ 1000000000000000) :
    Calls Try.prog 37 #[.slice A l.length c] w fun e w' => e = .returned (.int .i64 (endL l)) ∧ Below w.heap.size w w' := by
  by_cases h0 : l.length = 0
  · have hn : l = [] := List.eq_nil_of_length_eq_zero h0
    subst hn
    clear h0 hs hl hb0 hb1
    go_enter Try.func37, Try.ntmps37
    go_wp2_with fail
    go_ret
    exact ⟨rfl, brefl w⟩
  obtain ⟨b, off, rfl, hlt, hc⟩ := SpS.at_ hs (by omega)
  have hl0 : 0 < l.length := by omega
  have he := end_at hl0
  have hr := hc (l.length - 1) (by omega)
  generalize l[l.length - 1] = s at *
  obtain ⟨s1, s2, s3, s4, s5⟩ := s
  have q3 : w.cell? ⟨b, off + (l.length - 1) * 5 + 3, none⟩ = some (.int .i64 s4) := hr 3 _ rfl
  have q4 : w.cell? ⟨b, off + (l.length - 1) * 5 + 4, none⟩ = some (.int .i64 s5) := hr 4 _ rfl
  dsimp only at he
  rw [he] at hb0 hb1 ⊢
  clear hr hc he hs
  generalize l.length = n at *
  obtain ⟨m, rfl⟩ : ∃ m, n = m + 1 := ⟨n - 1, by omega⟩
  rw [Nat.add_sub_cancel] at q3 q4
  have d1 : (((m + 1 : Nat) : Int) == 0) = false := by rw [beq_eq_false_iff_ne]; omega
  have e1 : ((m + 1 : Nat) : Int) - 1 = (m : Int) := by omega
  clear h0
  go_enter Try.func37, Try.ntmps37
  go_wp2_with fail
  go_quiet (fail)
  go_wp2_with fail
  go_ret
  exact ⟨rfl, bdn' (brefl w) _⟩
end Go.Proofs.Ytkepbobnjplpoaa
