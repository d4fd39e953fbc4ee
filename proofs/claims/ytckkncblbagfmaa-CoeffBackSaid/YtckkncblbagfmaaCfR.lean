/- The contract of next: a symbol that is read. -/
import Derived.Test.YtckkncblbagfmaaCfQ
import Derived.Deep.RegionHeld3
namespace Go.Proofs.Ytckkncblbagfmaa
open Go.RowKit
open Go.Tin
set_option linter.unusedVariables false
set_option linter.unusedSimpArgs false


/-- The reader at block g has so many symbols, of which some are read. -/
structure NS (w : World) (g : Nat) (A : Option Addr) (n c : Nat) (zs : List Int) (used : Nat) : Prop where
  row : w.heap[g]? = some (.cells #[.slice A n c, .int .i64 (used : Int)] 56 (0, 0))
  sl : SlV w A (iv zs)
  ne : 0 < n → ∀ a, A = some a → a.block ≠ g
  len : zs.length = n * 4
  nl : n ≤ 100000
theorem NS.keep {w w' : World} {g : Nat} {A : Option Addr} {n c : Nat} {zs : List Int} {used : Nat} (h : NS w g A n c zs used) (hb : Below w.heap.size w w') : NS w' g A n c zs used :=
  ⟨(hb.block _ (row_lt h.row)).trans h.row, h.sl.keep hb, h.ne, h.len, h.nl⟩
theorem NS.next {w : World} {g : Nat} {A : Option Addr} {n c : Nat} {zs : List Int} {used : Nat} (h : NS w g A n c zs used) (x : Int) (hx : x = ((used + 1 : Nat) : Int)) : NS (w.setCell ⟨g, 1, none⟩ (.int .i64 x)) g A n c zs (used + 1) := by
  subst hx
  refine ⟨(row_set h.row 1 _).trans rfl, ?_, h.ne, h.len, h.nl⟩
  rcases h.sl with h1 | ⟨b, off, hA, hlt, hc⟩
  · exact .inl h1
  · by_cases hz : n = 0
    · have : zs = [] := by have := h.len; simp [hz] at this; exact this
      subst this
      exact .inl rfl
    · refine .inr ⟨b, off, hA, by simpa [World.setCell] using hlt, fun i hi => ?_⟩
      rw [← hc i hi]
      exact World.cell?_of_block (a := ⟨b, off + i, none⟩) (set_other (show b ≠ g from h.ne (by omega) _ hA))

set_option maxRecDepth 100000 in
set_option maxHeartbeats 4000000 in
theorem next_end (w : World) (g : Nat) (A : Option Addr) (n c : Nat) (zs : List Int) (h : NS w g A n c zs n) (ac most : Int) :
    Calls Try.prog 24 #[.pointer (some ⟨g, 0, none⟩), .int .i64 ac, .int .i64 most] w fun e w' => e = .returned (.tuple #[.int .i64 0, .int .i64 0, .int .i64 3]) ∧ Below w.heap.size w w' := by
  have c0 := row_cell h.row 0 rfl
  have c1 := row_cell h.row 1 rfl
  have e1 : ((n : Int) == (n : Int)) = true := by simp
  clear h
  go_enter Try.func24, Try.ntmps24
  go_wp2_with fail
  go_quiet (fail)
  go_wp2_with fail
  exact bodyPost_ret (v := .tuple #[.int .i64 0, .int .i64 0, .int .i64 3]) (by simp [results, Try.results24, go_sem]) rfl ⟨rfl, bdn' (brefl w) _⟩

theorem bel_cells {w : World} {b off : Nat} {zs : List Int} (h : SlV w (some ⟨b, off, none⟩) (iv zs)) (i : Nat) (hi : i < zs.length) : w.cell? ⟨b, off + i, none⟩ = some (.int .i64 (nth zs i)) := by
  rcases h with h | ⟨b', off', hA, hlt, hc⟩
  · have : zs = [] := by simpa using h
    subst this; simp at hi
  · simp only [Option.some.injEq, Addr.mk.injEq, and_true] at hA
    obtain ⟨rfl, rfl⟩ := hA
    rw [hc i (by simpa using hi)]
    simp [nth, List.getD_eq_getElem?_getD, hi]

theorem new4' (w : World) (t : Nat) (a b c d : Value) : let W := w.alloc (.cells #[a, b, c, d] t)
    W.cell? ⟨w.heap.size, 0, none⟩ = some a ∧ W.cell? ⟨w.heap.size, 1, none⟩ = some b ∧ W.cell? ⟨w.heap.size, 2, none⟩ = some c ∧ W.cell? ⟨w.heap.size, 3, none⟩ = some d ∧
    W.frozen? ⟨w.heap.size, 0, none⟩ = false ∧ W.frozen? ⟨w.heap.size, 1, none⟩ = false ∧ W.frozen? ⟨w.heap.size, 2, none⟩ = false ∧ W.frozen? ⟨w.heap.size, 3, none⟩ = false := by
  intro W
  exact ⟨World.cell?_alloc_at #[a, b, c, d] t _ 0 rfl, World.cell?_alloc_at #[a, b, c, d] t _ 1 rfl, World.cell?_alloc_at #[a, b, c, d] t _ 2 rfl, World.cell?_alloc_at #[a, b, c, d] t _ 3 rfl, World.frozen?_alloc_at #[a, b, c, d] t _ 0 rfl, World.frozen?_alloc_at #[a, b, c, d] t _ 1 rfl, World.frozen?_alloc_at #[a, b, c, d] t _ 2 rfl, World.frozen?_alloc_at #[a, b, c, d] t _ 3 rfl⟩
theorem new4 (w : World) (k t : Nat) (a b c d : Value) : let W := (w.drewN k).alloc (.cells #[a, b, c, d] t)
    W.cell? ⟨w.heap.size, 0, none⟩ = some a ∧ W.cell? ⟨w.heap.size, 1, none⟩ = some b ∧ W.cell? ⟨w.heap.size, 2, none⟩ = some c ∧ W.cell? ⟨w.heap.size, 3, none⟩ = some d ∧
    W.frozen? ⟨w.heap.size, 0, none⟩ = false ∧ W.frozen? ⟨w.heap.size, 1, none⟩ = false ∧ W.frozen? ⟨w.heap.size, 2, none⟩ = false ∧ W.frozen? ⟨w.heap.size, 3, none⟩ = false := new4' (w.drewN k) t a b c d
theorem old4 (w : World) (k t : Nat) (a b c d : Value) (q : Addr) (v : Value) (h : q.block < w.heap.size) (h' : w.cell? q = some v) : ((w.drewN k).alloc (.cells #[a, b, c, d] t)).cell? q = some v :=
  (World.cell?_alloc_lt (w.drewN k) _ q h).trans h'

theorem ok_iff (a s V N ac most : Int) : okS a s V N ac most = true ↔ (vaB V N = true ∧ a = ac ∧ 0 ≤ s ∧ s ≤ 255 ∧ bits .and .i64 s 15 ≤ most ∧ N = bits .and .i64 s 15) := by
  rw [and15]
  simp [okS]
theorem fr_set {w w' : World} {g : Nat} (hb : Below w.heap.size w w') (v : Value) : Fr w (w'.setCell ⟨g, 1, none⟩ v) g none :=
  ⟨hb.os, hb.tape, hb.output, by simpa [World.setCell] using hb.size, fun q h1 h2 _ => (set_other h2).trans (hb.block q h1)⟩
theorem put4 (w : World) (k t : Nat) (a b c d x0 x1 x2 x3 : Value) (W : World) (hW : ((((((w.drewN k).alloc (.cells #[x0, x1, x2, x3] t)).setCell ⟨w.heap.size, 0, none⟩ a).setCell ⟨w.heap.size, 1, none⟩ b).setCell ⟨w.heap.size, 2, none⟩ c).setCell ⟨w.heap.size, 3, none⟩ d) = W) :
    Below w.heap.size w W ∧ W.heap[w.heap.size]? = some (.cells #[a, b, c, d] t (0, 0)) ∧ W.heap.size = w.heap.size + 1 := by
  subst hW
  refine ⟨(((((bdn' (brefl w) k).alloc (Nat.le_refl _) _).setCell (Nat.le_refl _) _).setCell (Nat.le_refl _) _).setCell (Nat.le_refl _) _).setCell (Nat.le_refl _) _, ?_, by simp [World.setCell, World.alloc]⟩
  have h0 : ((w.drewN k).alloc (.cells #[x0, x1, x2, x3] t)).heap[w.heap.size]? = some (.cells #[x0, x1, x2, x3] t (0, 0)) := heap_alloc_new (w.drewN k) _
  have h1 := row_set h0 0 a
  have h2 := row_set h1 1 b
  have h3 := row_set h2 2 c
  have h4 := row_set h3 3 d
  exact h4

set_option maxRecDepth 100000 in
set_option maxHeartbeats 4000000 in
theorem next_some (w : World) (g : Nat) (A : Option Addr) (n c : Nat) (zs : List Int) (used : Nat) (h : NS w g A n c zs used) (hu : used < n) (hwf : ∀ z ∈ zs, (Lit.int .i64 z).wf = true) (ac most : Int) (hm : most = 10 ∨ most = 11) :
    Calls Try.prog 24 #[.pointer (some ⟨g, 0, none⟩), .int .i64 ac, .int .i64 most] w fun e w' =>
      (okA zs used ac most = true → e = .returned (.tuple #[.int .i64 (syA zs used / 16), .int .i64 (vlA zs used), .int .i64 0]) ∧ NS w' g A n c zs (used + 1) ∧ Fr w w' g none) ∧
      (okA zs used ac most = false → e = .returned (.tuple #[.int .i64 0, .int .i64 0, .int .i64 2]) ∧ Below w.heap.size w w') := by
  have hl := h.len
  obtain ⟨b, off, rfl, -, -⟩ := h.sl.at_ (by simp; omega)
  have c0 := row_cell h.row 0 rfl
  have c1 := row_cell h.row 1 rfl
  have k0 := bel_cells h.sl (used * 4) (by omega)
  have k1 := bel_cells h.sl (used * 4 + 1) (by omega)
  have k2 := bel_cells h.sl (used * 4 + 2) (by omega)
  have k3 := bel_cells h.sl (used * 4 + 3) (by omega)
  rw [← Nat.add_assoc] at k1 k2 k3
  have H := Lib.hid h
  have hnl := h.nl
  have e1 : ((used : Int) == (n : Int)) = false := by simp; omega
  have i1 : (used : Int) < (n : Int) := by omega
  have wV := hwf _ (mem_nth zs (used * 4 + 2) (by omega))
  have wN := hwf _ (mem_nth zs (used * 4 + 3) (by omega))
  have HV := Lib.hid (fun W => value_any _ _ W wV wN)
  have HOK := Lib.hid (show okA zs used ac most = okS (nth zs (used * 4)) (nth zs (used * 4 + 1)) (nth zs (used * 4 + 2)) (nth zs (used * 4 + 3)) ac most from rfl)
  have HSY := Lib.hid (show syA zs used = nth zs (used * 4 + 1) ∧ vlA zs used = vaN (nth zs (used * 4 + 2)) (nth zs (used * 4 + 3)) from ⟨rfl, rfl⟩)
  clear h hwf wV wN hl
  generalize nth zs (used * 4) = a at *
  generalize nth zs (used * 4 + 1) = s at *
  generalize nth zs (used * 4 + 2) = V at *
  generalize nth zs (used * 4 + 3) = N at *
  go_enter Try.func24, Try.ntmps24
  go_wp2_with fail
  go_quiet (fail)
  go_wp2_with fail
  have hg := row_lt H.1
  have hbb : b < w.heap.size := World.block_lt_of_cell? w _ k0
  obtain ⟨n0d, n1d, n2d, n3d, nf0, nf1, nf2, nf3⟩ := new4 w (nq + 1) 45 (.int .i64 0) (.int .i64 0) (.int .i64 0) (.int .i64 0)
  have al := fun (q : Addr) (v : Value) (hq : q.block < w.heap.size) (hv : w.cell? q = some v) => old4 w (nq + 1) 45 (.int .i64 0) (.int .i64 0) (.int .i64 0) (.int .i64 0) q v hq hv
  have c0d := al _ _ hg c0
  have c1d := al _ _ hg c1
  have k0d := al _ _ hbb k0
  have k1d := al _ _ hbb k1
  have k2d := al _ _ hbb k2
  have k3d := al _ _ hbb k3
  clear al
  go_region
  generalize hW : World.setCell (World.setCell (World.setCell (World.setCell _ _ _) _ _) _ _) _ _ = W
  have HW := Lib.hid (put4 _ _ _ _ _ _ _ _ _ _ _ _ hW)
  clear hW n0d n1d n2d n3d nf0 nf1 nf2 nf3 c0d c1d k0d k1d k2d k3d
  have q0 : W.cell? ⟨w.heap.size, 0, none⟩ = some (.int .i64 a) := row_cell HW.out.2.1 0 rfl
  have q1 : W.cell? ⟨w.heap.size, 1, none⟩ = some (.int .i64 s) := row_cell HW.out.2.1 1 rfl
  have q2 : W.cell? ⟨w.heap.size, 2, none⟩ = some (.int .i64 V) := row_cell HW.out.2.1 2 rfl
  have q3 : W.cell? ⟨w.heap.size, 3, none⟩ = some (.int .i64 N) := row_cell HW.out.2.1 3 rfl
  generalize hG : w.heap.size = G at *
  go_wp2_with fail
  refine (HV.out _).mono ?_
  rintro e w' ⟨rfl, hbv⟩
  have HB := Lib.hid hbv
  have hlt : G < W.heap.size := by have := HW.out.2.2; omega
  clear hbv
  have q0 : w'.cell? ⟨G, 0, none⟩ = some (.int .i64 a) := ((bcell HB.out).1 _ _ hlt).trans q0
  have q1 : w'.cell? ⟨G, 1, none⟩ = some (.int .i64 s) := ((bcell HB.out).1 _ _ hlt).trans q1
  have q3 : w'.cell? ⟨G, 3, none⟩ = some (.int .i64 N) := ((bcell HB.out).1 _ _ hlt).trans q3
  have hG2 : W.heap.size ≤ w'.heap.size := HB.out.size
  have HF := Lib.hid (HB.out)
  have hb2 : Below G w w' := HW.out.1.trans (HB.out.mono (by omega))
  have r' : w'.heap[g]? = some (.cells #[.slice (some ⟨b, off, none⟩) n c, .int .i64 (used : Int)] 56 (0, 0)) := (hb2.block _ hg).trans H.1
  have c1' : w'.cell? ⟨g, 1, none⟩ = some (.int .i64 (used : Int)) := row_cell r' 1 rfl
  have f1' : w'.frozen? ⟨g, 1, none⟩ = false := frozen_of_row _ _ _ _ _ r'
  clear r'
  have HB2 := Lib.hid hb2
  clear hb2
  go_wp2_with fail
  all_goals (have HB3 : Below w.heap.size w w' := (by first | exact HB2.out | (rw [hG]; exact HB2.out)))
  all_goals first
  | (refine bodyPost_ret (v := .tuple #[.int .i64 0, .int .i64 0, .int .i64 2]) (by simp [results, Try.results24, go_sem]) rfl ⟨fun hh => ?_, fun _ => ⟨rfl, by first | exact HB3 | (rw [← hG]; exact HB3)⟩⟩
     rw [HOK.out, ok_iff] at hh
     obtain ⟨h1, h2, h3, h4, h5, h6⟩ := hh
     exfalso
     clear HW HB HB2 HF H HV HSY HOK HB3 c0 c1 k0 k1 k2 k3 q0 q1 q2 q3 c1' f1'
     first | omega | contradiction | (simp_all; done) | (simp_all; omega))
  | (refine bodyPost_ret (v := .tuple #[.int .i64 (s / 16), .int .i64 (vaN V N), .int .i64 0]) (by simp [results, Try.results24, go_sem]) rfl ⟨fun hh => ?_, fun hh => ?_⟩
     · rw [HSY.out.1, HSY.out.2]
       exact ⟨rfl, NS.next (NS.keep H.out HB3) _ (by omega), fr_set HB3 _⟩
     · exfalso
       have : okA zs used ac most = true := by
         rw [HOK.out, ok_iff]
         clear HW HB HB2 HF H HV HSY HOK HB3 c0 c1 k0 k1 k2 k3 q0 q1 q2 q3 c1' f1' hh
         simp_all
       rw [this] at hh
       exact Bool.noConfusion hh)
end Go.Proofs.Ytckkncblbagfmaa
