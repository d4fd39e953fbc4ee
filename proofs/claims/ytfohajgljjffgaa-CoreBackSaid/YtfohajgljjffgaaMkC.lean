/- The lexer: need, marker. -/
import Derived.Test.YtfohajgljjffgaaMkB
import Derived.Deep.QuietTactic
import Derived.BigQuiet
namespace Go.Proofs.Ytfohajgljjffgaa
open Go.RowKit
open Go.Tin
set_option linter.unusedVariables false
set_option linter.unusedSimpArgs false


abbrev lrow (A : Option Addr) (n cap : Nat) (a : Int) : Array Value := #[.slice A n cap, .int .i64 a]
def wrongE (p e : Int) : List PanicEntry := [{ v := .iface 53 (.agg #[.int .i64 p, .int .i64 e]), recovered := false }]
theorem bdn {B : Nat} {w0 w : World} (hb : Below B w0 w) (n : Nat) : Below B w0 (w.drewN n) := ⟨hb.os, hb.tape, hb.output, hb.size, hb.block⟩
theorem need_ok (g : Nat) (A : Option Addr) (n cap a : Nat) (k : Int) (w : World) (hg : w.heap[g]? = some (.cells (lrow A n cap a) 57 (0, 0))) (hn : n ≤ 1000000000) (ha : a ≤ n) (hk : k ≤ (n : Int) - a) :
    Calls Try.prog 45 #[.pointer (some ⟨g, 0, none⟩), .int .i64 k] w fun e w' => e = .returned (.tuple #[]) ∧ Below w.heap.size w w' := by
  have c0 := row_cell (v := .slice A n cap) hg 0 rfl
  have c1 := row_cell (v := .int .i64 a) hg 1 rfl
  have d1 : decide ((n : Int) - a < k) = false := decide_eq_false (by omega)
  clear hg hk
  go_enter Try.func45, Try.ntmps45
  go_wp2_with fail
  go_quiet (fail)
  go_wp2_with fail
  go_end0
  exact ⟨rfl, bdn (brefl w) _⟩
theorem need_err (g : Nat) (A : Option Addr) (n cap a : Nat) (k : Int) (w : World) (hg : w.heap[g]? = some (.cells (lrow A n cap a) 57 (0, 0))) (hn : n ≤ 1000000000) (ha : a ≤ n) (hk : (n : Int) - a < k) :
    Calls Try.prog 45 #[.pointer (some ⟨g, 0, none⟩), .int .i64 k] w fun e w' => e = .panicked (wrongE n 3) ∧ Below w.heap.size w w' := by
  have c0 := row_cell (v := .slice A n cap) hg 0 rfl
  have c1 := row_cell (v := .int .i64 a) hg 1 rfl
  have d1 : decide ((n : Int) - a < k) = true := decide_eq_true (by omega)
  clear hg hk
  go_enter Try.func45, Try.ntmps45
  go_wp2_with fail
  go_quiet (fail)
  go_wp2_with fail
  exact ⟨rfl, rfl, bdn (brefl w) _⟩
/-- What the lexer's marker does. -/
def MkP (w : World) (g : Nat) (A : Option Addr) (n cap a : Nat) (r : Lm) (e : Ending) (w' : World) : Prop :=
  match r with
  | .err p q => e = .panicked (wrongE p q) ∧ Below w.heap.size w w'
  | .ok m => e = .returned (.int .i64 m) ∧ w'.heap[g]? = some (.cells (lrow A n cap ((a : Int) + 2)) 57 (0, 0)) ∧ w.grownBy w' (some g)
theorem MkP.of_err {w w' : World} {g : Nat} {A : Option Addr} {n cap a : Nat} {r : Lm} {p q : Int} (h : r = .err p q) (hb : Below w.heap.size w w') : MkP w g A n cap a r (.panicked (wrongE p q)) w' := by
  subst h; exact ⟨rfl, hb⟩
theorem MkP.of_ok {w w' : World} {g : Nat} {A : Option Addr} {n cap a : Nat} {r : Lm} {m : Int} (h : r = .ok m) (h1 : w'.heap[g]? = some (.cells (lrow A n cap ((a : Int) + 2)) 57 (0, 0))) (h2 : w.grownBy w' (some g)) : MkP w g A n cap a r (.returned (.int .i64 m)) w' := by
  subst h; exact ⟨rfl, h1, h2⟩
theorem grown_at {w w1 : World} {g : Nat} (hb : Below w.heap.size w w1) (n i : Nat) (v : Value) : w.grownBy ((w1.drewN n).setCell ⟨g, i, none⟩ v) (some g) := by
  have hz := hb.size
  refine ⟨hb.os, hb.tape, hb.output, by simpa [World.setCell] using hz, fun q hq hne => ?_⟩
  rw [heap_setCell_other _ _ _ _ (show q ≠ g from fun e => hne (by rw [e]))]
  exact hb.block q hq
theorem badM_z (a : Nat) (m : Int) : badM a m = ((((a : Int) == 0) != (m == 216)) || ((m != 217) && (!((a : Int) == 0) && !hdB m))) := by
  unfold badM
  rw [show decide (a = 0) = ((a : Int) == 0) by rw [Bool.eq_iff_iff, decide_eq_true_eq, beq_iff_eq]; omega]
  rfl
set_option maxRecDepth 100000 in
set_option maxHeartbeats 8000000 in
theorem mk_any (g : Nat) (A : Option Addr) (l : List Int) (cap a : Nat) (w : World) (hg : w.heap[g]? = some (.cells (lrow A l.length cap a) 57 (0, 0))) (hs : Sl .u8 w A l) (hl : l.length ≤ 1000000000) (hby : Byts l) (ha : a ≤ l.length) :
    Calls Try.prog 35 #[.pointer (some ⟨g, 0, none⟩)] w fun e w' => MkP w g A l.length cap a (lexM l a) e w' := by
  have HR := Lib.hid hg
  have HS := Lib.hid hs
  have HBY := Lib.hid hby
  have HD := Lib.hid (show lexM l a = (if l.length ≤ a then .err l.length 3 else if nth l a ≠ 255 then .err a 2 else if l.length ≤ a + 1 then .err l.length 3 else if badM a (nth l (a + 1)) = true then .err a 2 else .ok (nth l (a + 1))) from rfl)
  clear hg hs hby
  have HB := Lib.hid (brefl w)
  by_cases h1 : l.length ≤ a
  · have HE := Lib.hid (show lexM l a = .err l.length 3 by rw [HD.out, if_pos h1])
    have HN := Lib.hid (need_err g A l.length cap a 1 w HR.out hl ha (by omega))
    clear h1
    go_enter Try.func35, Try.ntmps35
    go_wp2_with fail
    refine HN.out.mono ?_
    rintro e w1 ⟨rfl, hb⟩
    go_wp2_with fail
    exact ⟨rfl, MkP.of_err HE.out hb⟩
  have HN1 := Lib.hid (need_ok g A l.length cap a 1 w HR.out hl ha (by omega))
  obtain ⟨b, off, rfl, hlt, hcell⟩ := HS.out.at_ (by omega)
  have HC := Lib.hid hcell
  have i1 : (a : Int) < (l.length : Int) := by omega
  clear hcell
  by_cases h2 : nth l a = 255
  case neg =>
    have HE := Lib.hid (show lexM l a = .err a 2 by rw [HD.out, if_neg h1, if_pos h2])
    have d2 : (nth l a != 255) = true := by simpa using h2
    go_enter Try.func35, Try.ntmps35
    go_wp2_with fail
    refine HN1.out.mono ?_
    rintro e w1 ⟨rfl, hb⟩
    replace HR := Lib.hid ((hb.block _ (row_lt HR.out)).trans HR.out)
    replace HB := Lib.hid (HB.out.trans (hb.mono HB.out.size))
    have c0 := row_cell (v := .slice (some ⟨b, off, none⟩) l.length cap) HR.out 0 rfl
    have c1 := row_cell (v := .int .i64 a) HR.out 1 rfl
    have k0 : w1.cell? ⟨b, off + a, none⟩ = some (.int .u8 (nth l a)) := (hb.cell (p := ⟨b, off + a, none⟩) hlt).trans (HC.out a (by omega))
    clear hb
    generalize nth l a = X at *
    clear h2
    go_wp2_with fail
    go_quiet (fail)
    go_wp2_with fail
    exact ⟨rfl, MkP.of_err HE.out (bdn HB.out _)⟩
  have d2 : (nth l a != 255) = false := by simpa using h2
  by_cases h3 : l.length ≤ a + 1
  · have HE := Lib.hid (show lexM l a = .err l.length 3 by rw [HD.out, if_neg h1, if_neg (by simpa using h2), if_pos h3])
    go_enter Try.func35, Try.ntmps35
    go_wp2_with fail
    refine HN1.out.mono ?_
    rintro e w1 ⟨rfl, hb⟩
    replace HR := Lib.hid ((hb.block _ (row_lt HR.out)).trans HR.out)
    replace HB := Lib.hid (HB.out.trans (hb.mono HB.out.size))
    have c0 := row_cell (v := .slice (some ⟨b, off, none⟩) l.length cap) HR.out 0 rfl
    have c1 := row_cell (v := .int .i64 a) HR.out 1 rfl
    have k0 : w1.cell? ⟨b, off + a, none⟩ = some (.int .u8 (nth l a)) := (hb.cell (p := ⟨b, off + a, none⟩) hlt).trans (HC.out a (by omega))
    clear hb
    generalize nth l a = X at *
    clear h2
    go_wp2_with fail
    go_quiet (fail)
    go_wp2_with fail
    refine (need_err g _ l.length cap a 2 _ (by exact HR.out) hl ha (by omega)).mono ?_
    rintro e w2 ⟨rfl, hb⟩
    go_wp2_with fail
    exact ⟨rfl, MkP.of_err HE.out ((bdn HB.out _).trans (hb.mono HB.out.size))⟩
  have HE0 := Lib.hid (show lexM l a = (if badM a (nth l (a + 1)) = true then .err a 2 else .ok (nth l (a + 1))) by rw [HD.out, if_neg h1, if_neg (by simpa using h2), if_neg h3])
  have HM := Lib.hid (badM_z a (nth l (a + 1)))
  have hy := HBY.out.nth (a + 1)
  have HH := Lib.hid (fun W => hd_any (nth l (a + 1)) W)
  have i2 : (a : Int) + 1 < (l.length : Int) := by omega
  have HQ := Lib.hid (fun (f s e h : Bool) (hf : ((a : Int) == 0) = f) (hs : (nth l (a + 1) == 216) = s) (he : (nth l (a + 1) != 217) = e) (hh : hdB (nth l (a + 1)) = h) => show badM a (nth l (a + 1)) = ((f != s) || (e && (!f && !h))) by rw [HM.out, hf, hs, he, hh])
  cases hf : ((a : Int) == 0) <;> cases hs : (nth l (a + 1) == 216) <;> cases he : (nth l (a + 1) != 217) <;> cases hh : hdB (nth l (a + 1))
  all_goals
    have HBD := HQ.out _ _ _ _ hf hs he hh
    first
      | (have HE := Lib.hid (show lexM l a = .err a 2 by rw [HE0.out, HBD]; rfl)
         rw [hh] at HH
         clear HBD hh
         go_enter Try.func35, Try.ntmps35
         go_wp2_with fail
         refine HN1.out.mono ?_
         rintro e w1 ⟨rfl, hb⟩
         replace HR := Lib.hid ((hb.block _ (row_lt HR.out)).trans HR.out)
         replace HB := Lib.hid (HB.out.trans (hb.mono HB.out.size))
         have c0 := row_cell (v := .slice (some ⟨b, off, none⟩) l.length cap) HR.out 0 rfl
         have c1 := row_cell (v := .int .i64 a) HR.out 1 rfl
         have k0 : w1.cell? ⟨b, off + a, none⟩ = some (.int .u8 (nth l a)) := (hb.cell (p := ⟨b, off + a, none⟩) hlt).trans (HC.out a (by omega))
         clear hb
         have t1 : ((a : Int) + 1).toNat = a + 1 := by omega
         generalize nth l a = X at *
         clear h2
         go_wp2_with fail
         go_quiet (fail)
         go_wp2_with fail
         refine (need_ok g _ l.length cap a 2 _ (by exact HR.out) hl ha (by omega)).mono ?_
         rintro e w2 ⟨rfl, hb⟩
         replace HB := Lib.hid ((bdn HB.out _).trans (hb.mono HB.out.size))
         replace HR := Lib.hid ((hb.block _ (row_lt HR.out)).trans HR.out)
         clear hb c0 c1 k0
         have c0 := row_cell (v := .slice (some ⟨b, off, none⟩) l.length cap) HR.out 0 rfl
         have c1 := row_cell (v := .int .i64 a) HR.out 1 rfl
         have y1 := frozen_of_row w2 g 1 _ _ HR.out
         have k1 : w2.cell? ⟨b, off + (a + 1), none⟩ = some (.int .u8 (nth l (a + 1))) := (HB.out.cell (p := ⟨b, off + (a + 1), none⟩) hlt).trans (HC.out (a + 1) (by omega))
         generalize nth l (a + 1) = M at *
         have m0 := hy.1
         have m1 := hy.2
         clear hy
         go_wp2_with fail
         go_quiet (fail)
         go_wp2_with fail
         try (refine (HH.out _).mono ?_; rintro e w' ⟨rfl, rfl⟩; go_wp2_with fail)
         exact ⟨rfl, MkP.of_err HE.out (bdn HB.out _)⟩)
      | (have HE := Lib.hid (show lexM l a = .ok (nth l (a + 1)) by rw [HE0.out, HBD]; rfl)
         rw [hh] at HH
         clear HBD hh
         go_enter Try.func35, Try.ntmps35
         go_wp2_with fail
         refine HN1.out.mono ?_
         rintro e w1 ⟨rfl, hb⟩
         replace HR := Lib.hid ((hb.block _ (row_lt HR.out)).trans HR.out)
         replace HB := Lib.hid (HB.out.trans (hb.mono HB.out.size))
         have c0 := row_cell (v := .slice (some ⟨b, off, none⟩) l.length cap) HR.out 0 rfl
         have c1 := row_cell (v := .int .i64 a) HR.out 1 rfl
         have k0 : w1.cell? ⟨b, off + a, none⟩ = some (.int .u8 (nth l a)) := (hb.cell (p := ⟨b, off + a, none⟩) hlt).trans (HC.out a (by omega))
         clear hb
         have t1 : ((a : Int) + 1).toNat = a + 1 := by omega
         generalize nth l a = X at *
         clear h2
         go_wp2_with fail
         go_quiet (fail)
         go_wp2_with fail
         refine (need_ok g _ l.length cap a 2 _ (by exact HR.out) hl ha (by omega)).mono ?_
         rintro e w2 ⟨rfl, hb⟩
         replace HB := Lib.hid ((bdn HB.out _).trans (hb.mono HB.out.size))
         replace HR := Lib.hid ((hb.block _ (row_lt HR.out)).trans HR.out)
         clear hb c0 c1 k0
         have c0 := row_cell (v := .slice (some ⟨b, off, none⟩) l.length cap) HR.out 0 rfl
         have c1 := row_cell (v := .int .i64 a) HR.out 1 rfl
         have y1 := frozen_of_row w2 g 1 _ _ HR.out
         have k1 : w2.cell? ⟨b, off + (a + 1), none⟩ = some (.int .u8 (nth l (a + 1))) := (HB.out.cell (p := ⟨b, off + (a + 1), none⟩) hlt).trans (HC.out (a + 1) (by omega))
         generalize nth l (a + 1) = M at *
         have m0 := hy.1
         have m1 := hy.2
         clear hy
         go_wp2_with fail
         go_quiet (fail)
         go_wp2_with fail
         try (refine (HH.out _).mono ?_; rintro e w' ⟨rfl, rfl⟩; go_wp2_with fail)
         go_ret
         exact MkP.of_ok HE.out (row_set (W := w2.drewN _) HR.out 1 _) (grown_at HB.out _ _ _))
end Go.Proofs.Ytfohajgljjffgaa
