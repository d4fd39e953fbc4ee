/- The lexer's segment. -/
import Derived.Test.YtfohajgljjffgaaMkC
namespace Go.Proofs.Ytfohajgljjffgaa
open Go.RowKit
open Go.Tin
set_option linter.unusedVariables false
set_option linter.unusedSimpArgs false


abbrev srow (m : Int) (A : Option Addr) (n c : Nat) (B : Option Addr) (k e : Nat) : Array Value := #[.int .i64 m, .slice A n c, .slice B k e]
theorem sz8 (w : World) : (sizeOf 5).run Try.prog w = .ok 1 w := by kernel_rfl
theorem rtS : RT Try.prog 36 3 := RT.of Try.underlying36 rfl (by kernel_rfl)
theorem srow_one (m : Int) (A : Option Addr) (n c : Nat) (B : Option Addr) (k e : Nat) : (srow m A n c B k e).all (·.oneCell') = true := by simp [Value.oneCell']
theorem ud' {B : Nat} {w x : World} (h : Below B w x) : Below B w x.drew := ⟨h.os, h.tape, h.output, h.size, h.block⟩
theorem ud {B : Nat} {w x : World} (h : Below B w.drew x) : Below B w x := ⟨h.os, h.tape, h.output, h.size, h.block⟩
theorem ne_own {v : Value} {g : Nat} (h : ∀ q, v.ownBlock = some q → q ≠ g) : v.ownBlock = none ∨ v.ownBlock ≠ some g := by
  cases hq : v.ownBlock with
  | none => exact .inl rfl
  | some q => exact .inr (fun e => h q hq (Option.some.inj e))
theorem gb_below {w w1 w2 : World} {r : Option Nat} (h : w.grownBy w1 r) (hb : Below w1.heap.size w1 w2) : w.grownBy w2 r :=
  ⟨hb.os.trans h.os, hb.tape.trans h.tape, hb.output.trans h.output, Nat.le_trans h.size hb.size, fun q hq hne => (hb.block q (Nat.lt_of_lt_of_le hq h.size)).trans (h.block q hq hne)⟩
theorem gb_new {w w1 w2 : World} {r : Option Nat} {g : Nat} (h : w.grownBy w1 r) (h2 : w1.grownBy w2 (some g)) (hg : w.heap.size ≤ g) : w.grownBy w2 r :=
  ⟨h2.os.trans h.os, h2.tape.trans h.tape, h2.output.trans h.output, Nat.le_trans h.size h2.size, fun q hq hne => (h2.block q (Nat.lt_of_lt_of_le hq h.size) (fun e => by have := Option.some.inj e; omega)).trans (h.block q hq hne)⟩
theorem gb_of {w w1 : World} {r : Option Nat} (hb : Below w.heap.size w w1) : w.grownBy w1 r := ⟨hb.os, hb.tape, hb.output, hb.size, fun q hq _ => hb.block q hq⟩
theorem get2 {l : List Int} (hby : Byts l) {a : Nat} (h : a + 2 ≤ l.length) : getN l a 2 2 = lenS l a ∧ 0 ≤ lenS l a ∧ lenS l a ≤ 65535 := by
  have hg : getB l.length a 2 2 = true := by
    unfold getB mayO
    rw [show szB 2 = true by rfl, show orB 2 = true by rfl]
    simp
    omega
  have hd : (l.drop a).take 2 = [nth l a, nth l (a + 1)] := by
    rw [drop_nth (show a < l.length by omega), drop_nth (show a + 1 < l.length by omega)]
    rfl
  have h0 := hby.nth a
  have h1 := hby.nth (a + 1)
  unfold lenS
  refine ⟨?_, by omega, by omega⟩
  unfold getN
  rw [if_pos hg]
  show be (ordL 2 ((l.drop a).take 2)) = _
  rw [hd]
  show be [nth l a, nth l (a + 1)] = _
  simp [be]
  omega
/-- What the lexer's segment does. -/
def SgP (w : World) (g : Nat) (A : Option Addr) (n cap : Nat) (m : Int) (r : Ls) (e : Ending) (w' : World) : Prop :=
  match r with
  | .err p q => e = .panicked (wrongE p q) ∧ Below w.heap.size w w'
  | .ok d s a => ∃ A1 c1 A2 c2, e = .returned (.agg (srow m A1 d.length c1 A2 s.length c2)) ∧ Own .u8 5 w' w.heap.size (.slice A1 d.length c1) d ∧ Own .u8 5 w' w.heap.size (.slice A2 s.length c2) s ∧ w'.heap[g]? = some (.cells (lrow A n cap (a : Int)) 57 (0, 0)) ∧ w.grownBy w' (some g)
theorem SgP.of_err {w w' : World} {g : Nat} {A : Option Addr} {n cap : Nat} {m : Int} {r : Ls} {p q : Int} (h : r = .err p q) (hb : Below w.heap.size w w') : SgP w g A n cap m r (.panicked (wrongE p q)) w' := by
  subst h; exact ⟨rfl, hb⟩
theorem SgP.of_ok {w w' : World} {g : Nat} {A : Option Addr} {n cap : Nat} {m : Int} {r : Ls} {d s : List Int} {a : Nat} (h : r = .ok d s a) {A1 A2 : Option Addr} {c1 c2 : Nat} (h1 : Own .u8 5 w' w.heap.size (.slice A1 d.length c1) d) (h2 : Own .u8 5 w' w.heap.size (.slice A2 s.length c2) s) (h3 : w'.heap[g]? = some (.cells (lrow A n cap (a : Int)) 57 (0, 0))) (h4 : w.grownBy w' (some g)) : SgP w g A n cap m r (.returned (.agg (srow m A1 d.length c1 A2 s.length c2))) w' := by
  subst h; exact ⟨A1, c1, A2, c2, rfl, h1, h2, h3, h4⟩
set_option maxRecDepth 100000 in
set_option maxHeartbeats 16000000 in
theorem sg_any (g : Nat) (A : Option Addr) (l : List Int) (cap a : Nat) (m : Int) (w : World) (hg : w.heap[g]? = some (.cells (lrow A l.length cap a) 57 (0, 0))) (hs : Sl .u8 w A l) (hcap : l.length ≤ cap) (hl : l.length ≤ 1000000000) (hby : Byts l) (ha : a ≤ l.length) (hne : ∀ x, A = some x → x.block ≠ g) :
    Calls Try.prog 34 #[.pointer (some ⟨g, 0, none⟩), .int .i64 m] w fun e w' => SgP w g A l.length cap m (lexS l a m) e w' := by
  have GL : g < w.heap.size := row_lt hg
  have HD := Lib.hid (show lexS l a m = (if aloB m = true then .ok [] [] a else if l.length < a + 2 then .err l.length 3 else if lenS l a < 2 then .err a 2 else if (l.length : Int) < a + lenS l a then .err l.length 3 else if m = 218 then .ok ((l.drop (a + 2)).take ((lenS l a).toNat - 2)) ((l.drop (a + (lenS l a).toNat)).take (scL (l.drop (a + (lenS l a).toNat)))) (a + (lenS l a).toNat + scL (l.drop (a + (lenS l a).toNat))) else .ok ((l.drop (a + 2)).take ((lenS l a).toNat - 2)) [] (a + (lenS l a).toNat)) from rfl)
  have HS0 := Lib.hid hs
  have HBY := Lib.hid hby
  obtain ⟨h0, h1, hb, hz⟩ := alloc2 w (.cells (srow 0 none 0 0 none 0 0) 36) (.cells (srow m none 0 0 none 0 0) 36)
  have HB := Lib.hid hb
  have RG := Lib.hid ((hb.block _ GL).trans hg)
  have R4 := Lib.hid h0
  have R5 := Lib.hid h1
  have HS := Lib.hid (hs.keep hb)
  have HNE := Lib.hid hne
  clear hs hby hg h0 h1 hb hz hne
  go_enter Try.func34, Try.ntmps34
  go_wp2_with fail
  refine (alo_any m _).mono ?_
  rintro e w' ⟨rfl, rfl⟩
  generalize ((w.alloc (.cells (srow 0 none 0 0 none 0 0) 36)).alloc (.cells (srow m none 0 0 none 0 0) 36)) = v0 at *
  cases hal : aloB m with
  | true =>
    have HE := Lib.hid (show lexS l a m = .ok [] [] a by rw [HD.out, hal]; rfl)
    clear hal
    go_wp2_with (first | ((with_reducible refine wpl_load_row rtS ?_ (.tmp 5) ?_ (w.heap.size + 1) ?_ 36 (srow m none 0 0 none 0 0) ?_ R5.out ?_); rfl; rfl; rfl; rfl; simp only [Act.put, List.setIfInBounds_toArray, List.set_cons_succ, List.set_cons_zero]) | ((with_reducible refine wpl_store_row rtS ?_ (.tmp 4) (.tmp 13) ?_ (w.heap.size) ?_ (srow m none 0 0 none 0 0) ?_ (srow_one _ _ _ _ _ _ _) 36 ?_ _ ?_ R4.out ?_); rfl; rfl; rfl; rfl; rfl; rfl; intro w7 hr7 hg7 hs7; (try simp only [Act.put])))
    exact bodyPost_ret (res_row rtS rfl _ _ w.heap.size 36 (srow m none 0 0 none 0 0) rfl rfl hr7) rfl (SgP.of_ok HE.out (Own.nil_ _ _ _ _) (Own.nil_ _ _ _ _) ((hg7.block g (row_lt RG.out) (fun e => by have := Option.some.inj e; omega)).trans RG.out) (gb_of (HB.out.grown hg7 HB.out.size (fun k hk => by cases hk; exact Nat.le_refl _))))
  | false =>
    have HD1 := Lib.hid (show lexS l a m = _ from by rw [HD.out, hal, if_neg (by decide)])
    clear hal HD
    go_wp2_with fail
    by_cases h2 : l.length < a + 2
    · have HE := Lib.hid (HD1.out.trans (if_pos h2))
      refine (need_err g A l.length cap a 2 _ RG.out hl ha (by omega)).mono ?_
      rintro e w2 ⟨rfl, hb⟩
      go_wp2_with fail
      exact ⟨rfl, SgP.of_err HE.out (HB.out.trans (hb.mono HB.out.size))⟩
    have HD2 := Lib.hid (HD1.out.trans (if_neg h2))
    have HG2 := Lib.hid (get2 HBY.out (show a + 2 ≤ l.length by omega))
    clear HD1
    refine (need_ok g A l.length cap a 2 _ RG.out hl ha (by omega)).mono ?_
    rintro e v1 ⟨rfl, hb⟩
    replace RG := Lib.hid ((hb.block _ (row_lt RG.out)).trans RG.out)
    replace R4 := Lib.hid ((hb.block _ (row_lt R4.out)).trans R4.out)
    replace R5 := Lib.hid ((hb.block _ (row_lt R5.out)).trans R5.out)
    replace HS := Lib.hid (HS.out.keep hb)
    replace HB := Lib.hid (HB.out.trans (hb.mono HB.out.size))
    clear hb
    go_wp2_with fail
    have LT_RG : _ < v1.heap.size := row_lt RG.out
    -- R4: no load
    -- R5: no load
    have SZ : v1.heap.size ≤ v1.drew.heap.size := Nat.le_refl _
    have hb := ud' (brefl v1)
    replace RG := Lib.hid ((hb.block _ (row_lt RG.out)).trans RG.out)
    replace R4 := Lib.hid ((hb.block _ (row_lt R4.out)).trans R4.out)
    replace R5 := Lib.hid ((hb.block _ (row_lt R5.out)).trans R5.out)
    replace HS := Lib.hid (HS.out.keep hb)
    replace HB := Lib.hid (HB.out.trans (hb.mono HB.out.size))
    clear hb
    refine Tin.reg_begin (v1.heap.size) 14 (by rfl) (by kernel_rfl) ?_
    have kb : ∀ p : Bel (v1.heap.size) v1.drew, p.w'.cell? ⟨g, 0, none⟩ = some (.slice A l.length cap) := fun p => row_cell ((p.h.block _ LT_RG).trans RG.out) 0 rfl
    have ka : ∀ p : Bel (v1.heap.size) v1.drew, p.w'.cell? ⟨g, 1, none⟩ = some (.int .i64 a) := fun p => row_cell ((p.h.block _ LT_RG).trans RG.out) 1 rfl
    refine Tin.reg_quiets [0, 1, 2, 3, 4, 5, 6, 7] _ 6 rfl (by simp only [Tin.pick, List.map_cons, List.map_nil, Array.getD_eq_getD_getElem?, List.getElem?_toArray, List.getElem?_cons_zero, List.getElem?_cons_succ, Option.getD_some]; rfl) (by kernel_rfl) (by kernel_rfl) ?_
    repeat (first | go_big_quiet_step (fail))
    refine wpQuiet_nil ?_
    clear kb ka
    refine Tin.reg_one 8 _ rfl (by kernel_rfl) ?_
    try simp only [List.getElem_toArray, List.getElem_cons_succ, List.getElem_cons_zero]
    go_wp2_with fail
    refine (get_any A l cap a 2 2 _ HS.out hl HBY.out).mono ?_
    rintro e v2 ⟨rfl, hv⟩
    go_wp2_with fail
    refine ⟨v1.heap.size, hv.mono SZ, Nat.le_refl _, ?_⟩
    replace RG := Lib.hid ((hv.block _ (row_lt RG.out)).trans RG.out)
    replace R4 := Lib.hid ((hv.block _ (row_lt R4.out)).trans R4.out)
    replace R5 := Lib.hid ((hv.block _ (row_lt R5.out)).trans R5.out)
    replace HS := Lib.hid (HS.out.keep hv)
    replace HB := Lib.hid (HB.out.trans (hv.mono HB.out.size))
    replace SZ := Nat.le_trans SZ hv.size
    clear hv
    refine Tin.reg_quiets [9, 10, 11, 12, 13] _ 0 rfl (by simp only [Tin.pick, List.map_cons, List.map_nil, Array.getD_eq_getD_getElem?, List.getElem?_toArray, List.getElem?_cons_zero, List.getElem?_cons_succ, Option.getD_some]; rfl) (by kernel_rfl) (by kernel_rfl) ?_
    repeat (first | go_big_quiet_step (fail))
    refine wpQuiet_nil ?_
    rw [HG2.out.1]
    obtain ⟨N, hN⟩ := Int.eq_ofNat_of_zero_le HG2.out.2.1
    have HNB := Lib.hid (show N ≤ 65535 by have := HG2.out.2.2; omega)
    rw [hN] at HD2 ⊢
    have HLN := Lib.hid hN
    clear hN HG2
    refine Tin.reg_done (by kernel_rfl) ?_
    by_cases h3 : (N : Int) < 2
    · have HE := Lib.hid (HD2.out.trans (if_pos h3))
      have d3 : decide ((N : Int) < 2) = true := decide_eq_true h3
      have ka := row_cell (v := .int .i64 a) RG.out 1 rfl
      clear h3
      go_wp2_with fail
      exact ⟨rfl, SgP.of_err HE.out HB.out⟩
    have HD3 := Lib.hid (HD2.out.trans (if_neg h3))
    have d3 : decide ((N : Int) < 2) = false := decide_eq_false h3
    clear HD2
    go_wp2_with fail
    by_cases h4 : (l.length : Int) < a + (N : Int)
    · have HE := Lib.hid (HD3.out.trans (if_pos h4))
      refine (need_err g _ l.length cap a (N : Int) _ RG.out hl ha (by omega)).mono ?_
      rintro e w2 ⟨rfl, hb⟩
      go_wp2_with fail
      exact ⟨rfl, SgP.of_err HE.out (HB.out.trans (hb.mono HB.out.size))⟩
    have HD4 := Lib.hid (HD3.out.trans (if_neg h4))
    simp only [Int.toNat_natCast] at HD4
    clear HD3
    refine (need_ok g _ l.length cap a (N : Int) _ RG.out hl ha (by omega)).mono ?_
    rintro e v3 ⟨rfl, hb⟩
    replace RG := Lib.hid ((hb.block _ (row_lt RG.out)).trans RG.out)
    replace R4 := Lib.hid ((hb.block _ (row_lt R4.out)).trans R4.out)
    replace R5 := Lib.hid ((hb.block _ (row_lt R5.out)).trans R5.out)
    replace HS := Lib.hid (HS.out.keep hb)
    replace HB := Lib.hid (HB.out.trans (hb.mono HB.out.size))
    clear hb
    go_wp2_with fail
    have LT_RG : _ < w.heap.size := GL
    -- R4: no load
    -- R5: no load
    have SZ : w.heap.size ≤ v3.drew.heap.size := HB.out.size
    have hb := ud' (brefl v3)
    replace RG := Lib.hid ((hb.block _ (row_lt RG.out)).trans RG.out)
    replace R4 := Lib.hid ((hb.block _ (row_lt R4.out)).trans R4.out)
    replace R5 := Lib.hid ((hb.block _ (row_lt R5.out)).trans R5.out)
    replace HS := Lib.hid (HS.out.keep hb)
    replace HB := Lib.hid (HB.out.trans (hb.mono HB.out.size))
    clear hb
    refine Tin.reg_begin (w.heap.size) 19 (by rfl) (by kernel_rfl) ?_
    have t1 : ((a : Int) + 2).toNat = a + 2 := by omega
    have t2 : ((a : Int) + (N : Int)).toNat = a + N := by omega
    have n2 : 2 ≤ N := by omega
    have kb : ∀ p : Bel (w.heap.size) v3.drew, p.w'.cell? ⟨g, 0, none⟩ = some (.slice A l.length cap) := fun p => row_cell ((p.h.block _ LT_RG).trans RG.out) 0 rfl
    have ka : ∀ p : Bel (w.heap.size) v3.drew, p.w'.cell? ⟨g, 1, none⟩ = some (.int .i64 a) := fun p => row_cell ((p.h.block _ LT_RG).trans RG.out) 1 rfl
    refine Tin.reg_quiets [0, 1, 2, 3, 4, 5, 6, 7, 8, 9, 10, 11, 12, 13, 14, 15] _ 3 rfl (by simp only [Tin.pick, List.map_cons, List.map_nil, Array.getD_eq_getD_getElem?, List.getElem?_toArray, List.getElem?_cons_zero, List.getElem?_cons_succ, Option.getD_some]; rfl) (by kernel_rfl) (by kernel_rfl) ?_
    repeat (first | ((with_reducible refine Tin.wpq_cut (P := Try.prog) (e := 5) (s := 1) Try.underlying22 sz8 ?_ (.tmp 42) (.tmp 47) (.tmp 53) ?_ A l.length cap (a + 2) (a + N) ((a : Int) + 2) ((a : Int) + (N : Int)) ?_ ?_ ?_ ?_ ?_ ?_ ?_ ?_); rfl; rfl; rfl; rfl; rfl; omega; omega; omega; omega; simp only [Act.put, List.setIfInBounds_toArray, List.set_cons_succ, List.set_cons_zero]) | go_big_quiet_step (fail))
    refine wpQuiet_nil ?_
    clear kb ka
    obtain ⟨D, hD⟩ : ∃ D, (l.drop (a + 2)).take (N - 2) = D := ⟨_, rfl⟩
    have HDL := Lib.hid (show a + N - (a + 2) = D.length by rw [← hD, List.length_take, List.length_drop]; omega)
    have HDN := Lib.hid (show D.length ≤ 100000 by rw [← HDL.out]; have := HNB.out; omega)
    have HSD := Lib.hid (fun (W : World) (h : Sl .u8 W A l) => (show Sl .u8 W (cutA A cap (a + 2) 1) D by have h2 := (h.cutA (j := a + 2) hcap).take (N - 2); rw [hD] at h2; exact h2))
    rw [hD] at HD4
    clear hD
    refine Tin.reg_one 16 _ rfl (by kernel_rfl) ?_
    try simp only [List.getElem_toArray, List.getElem_cons_succ, List.getElem_cons_zero]
    go_wp2_with fail
    rw [HDL.out]
    refine (clone_any _ D _ _ (HSD.out _ HS.out) (by have := HDN.out; omega)).mono ?_
    rintro e v4 ⟨A1, e1, rfl, hv4_0, hv⟩
    have UB1 : ∀ q, (Value.slice A1 D.length e1).ownBlock = some q → w.heap.size + 1 < q := fun q hq => by have h1 := (World.ownsRow.lt hv4_0 q hq).1; have h2 := row_lt R5.out; omega
    go_wp2_with fail
    refine ⟨w.heap.size, hv.mono SZ, Nat.le_refl _, ?_⟩
    replace RG := Lib.hid ((hv.block _ (row_lt RG.out)).trans RG.out)
    replace R4 := Lib.hid ((hv.block _ (row_lt R4.out)).trans R4.out)
    replace R5 := Lib.hid ((hv.block _ (row_lt R5.out)).trans R5.out)
    replace HS := Lib.hid (HS.out.keep hv)
    replace HB := Lib.hid (HB.out.trans (hv.mono HB.out.size))
    have HO1 := Lib.hid (hv4_0.mono SZ)
    replace SZ := Nat.le_trans SZ hv.size
    clear hv4_0 hv
    refine Tin.reg_quiets [17] _ 1 rfl (by simp only [Tin.pick, List.map_cons, List.map_nil, Array.getD_eq_getD_getElem?, List.getElem?_toArray, List.getElem?_cons_zero, List.getElem?_cons_succ, Option.getD_some]; rfl) (by kernel_rfl) (by kernel_rfl) ?_
    repeat (first | go_big_quiet_step (fail))
    refine wpQuiet_nil ?_
    refine Tin.reg_one 18 _ rfl (by kernel_rfl) ?_
    try simp only [List.getElem_toArray, List.getElem_cons_succ, List.getElem_cons_zero]
    have kq := row_cell (v := .slice none 0 0) R5.out 1 rfl
    have yq := frozen_of_row _ (w.heap.size + 1) 1 _ _ R5.out
    go_wp2_with fail
    clear kq yq
    refine ⟨w.heap.size, bset (Below.refl _ _) _ _ _ (by omega), Nat.le_refl _, ?_⟩
    obtain ⟨v5, hn⟩ : ∃ W, W = (v4.setCell ⟨w.heap.size + 1, 1, none⟩ (.slice A1 D.length e1)) := ⟨_, rfl⟩
    have hg : v4.grownBy v5 (some (w.heap.size + 1)) := by rw [hn]; exact grown_setCells (w.heap.size + 1) [.slice A1 D.length e1] 1 _ _ (World.grownBy.refl _ _)
    replace RG := Lib.hid ((hg.block _ (row_lt RG.out) (fun e => by have := Option.some.inj e; omega)).trans RG.out)
    replace R4 := Lib.hid ((hg.block _ (row_lt R4.out) (fun e => by have := Option.some.inj e; omega)).trans R4.out)
    replace R5 := Lib.hid (show v5.heap[w.heap.size + 1]? = some (.cells (srow m A1 D.length e1 none 0 0) 36 (0, 0)) by rw [hn]; exact row_set R5.out 1 _)
    replace HO1 := Lib.hid (HO1.out.kept hg (ne_own (fun q hq => by have := UB1 q hq; omega)))
    replace HB := Lib.hid (show Below w.heap.size w v5 by rw [hn]; exact bset HB.out _ _ _ (by omega))
    replace HS := Lib.hid (HS0.out.keep HB.out)
    rw [← hn]
    clear hn hg
    refine Tin.reg_done (by kernel_rfl) ?_
    have ka := row_cell (v := .int .i64 a) RG.out 1 rfl
    have yg := frozen_of_row _ g 1 _ _ RG.out
    by_cases h5 : m = 218
    case neg =>
      have HE := Lib.hid (HD4.out.trans (if_neg h5))
      have d5 : (m == 218) = false := by simpa using h5
      clear h5 HD4
      have hg : v5.grownBy (v5.setCell ⟨g, 1, none⟩ (.int .i64 ((a : Int) + (N : Int)))) (some (g)) := by exact grown_setCells (g) [.int .i64 ((a : Int) + (N : Int))] 1 _ _ (World.grownBy.refl _ _)
      replace R4 := Lib.hid ((hg.block _ (row_lt R4.out) (fun e => by have := Option.some.inj e; omega)).trans R4.out)
      replace R5 := Lib.hid ((hg.block _ (row_lt R5.out) (fun e => by have := Option.some.inj e; omega)).trans R5.out)
      replace RG := Lib.hid (show (v5.setCell ⟨g, 1, none⟩ (.int .i64 ((a : Int) + (N : Int)))).heap[g]? = some (.cells (lrow A l.length cap ((a + N : Nat) : Int)) 57 (0, 0)) by rw [show ((a : Int) + (N : Int)) = ((a + N : Nat) : Int) by omega]; exact row_set RG.out 1 _)
      replace HO1 := Lib.hid (HO1.out.kept hg (ne_own (fun q hq => by have := UB1 q hq; omega)))
      have GB := Lib.hid ((gb_of (r := some g) HB.out).trans hg)
      clear HB
      replace HS := Lib.hid (Sl.frN HS0.out HNE.out GB.out)
      clear hg
      go_wp2_with (first | ((with_reducible refine wpl_load_row rtS ?_ (.tmp 5) ?_ (w.heap.size + 1) ?_ 36 (srow m A1 D.length e1 none 0 0) ?_ R5.out ?_); rfl; rfl; rfl; rfl; simp only [Act.put, List.setIfInBounds_toArray, List.set_cons_succ, List.set_cons_zero]) | ((with_reducible refine wpl_store_row rtS ?_ (.tmp 4) (.tmp 102) ?_ (w.heap.size) ?_ (srow m A1 D.length e1 none 0 0) ?_ (srow_one _ _ _ _ _ _ _) 36 ?_ _ ?_ R4.out ?_); rfl; rfl; rfl; rfl; rfl; rfl; intro w7 hr7 hg7 hs7; (try simp only [Act.put])))
      exact bodyPost_ret (res_row rtS rfl _ _ w.heap.size 36 (srow m A1 D.length e1 none 0 0) rfl rfl hr7) rfl (SgP.of_ok HE.out (HO1.out.kept hg7 (ne_own (fun q hq => by have := UB1 q hq; omega))) (Own.nil_ _ _ _ _) ((hg7.block g (row_lt RG.out) (fun e => by have := Option.some.inj e; omega)).trans RG.out) (gb_new GB.out hg7 (Nat.le_refl _)))
    have HD5 := Lib.hid (HD4.out.trans (if_pos h5))
    have d5 : (m == 218) = true := by simpa using h5
    clear h5 HD4
    have hg : v5.grownBy (v5.setCell ⟨g, 1, none⟩ (.int .i64 ((a : Int) + (N : Int)))) (some (g)) := by exact grown_setCells (g) [.int .i64 ((a : Int) + (N : Int))] 1 _ _ (World.grownBy.refl _ _)
    replace R4 := Lib.hid ((hg.block _ (row_lt R4.out) (fun e => by have := Option.some.inj e; omega)).trans R4.out)
    replace R5 := Lib.hid ((hg.block _ (row_lt R5.out) (fun e => by have := Option.some.inj e; omega)).trans R5.out)
    replace RG := Lib.hid (show (v5.setCell ⟨g, 1, none⟩ (.int .i64 ((a : Int) + (N : Int)))).heap[g]? = some (.cells (lrow A l.length cap ((a + N : Nat) : Int)) 57 (0, 0)) by rw [show ((a : Int) + (N : Int)) = ((a + N : Nat) : Int) by omega]; exact row_set RG.out 1 _)
    replace HO1 := Lib.hid (HO1.out.kept hg (ne_own (fun q hq => by have := UB1 q hq; omega)))
    have GB := Lib.hid ((gb_of (r := some g) HB.out).trans hg)
    clear HB
    replace HS := Lib.hid (Sl.frN HS0.out HNE.out GB.out)
    clear hg
    go_wp2_with fail
    generalize (v5.setCell ⟨g, 1, none⟩ (.int .i64 ((a : Int) + (N : Int)))) = v6 at *
    clear ka yg
    have hMl : a + N ≤ l.length := by omega
    clear t1 t2 n2
    generalize a + N = M at *
    obtain ⟨E, hE⟩ : ∃ E, l.drop M = E := ⟨_, rfl⟩
    have HEL := Lib.hid (show l.length - M = E.length by rw [← hE, List.length_drop])
    have HSE := Lib.hid (fun (W : World) (h : Sl .u8 W A l) => (show Sl .u8 W (cutA A cap M 1) E by have h2 := h.cutA (j := M) hcap; rw [hE] at h2; exact h2))
    have HEB := Lib.hid (show Byts E by rw [← hE]; exact HBY.out.drop M)
    rw [hE] at HD5
    clear hE
    have HEN := Lib.hid (show E.length ≤ 1000000000 by rw [← HEL.out]; omega)
    have HSC := Lib.hid (fun (W : World) (h : Sl .u8 W (cutA A cap M 1) E) => scan_any (cutA A cap M 1) E (cap - M) W h HEN.out HEB.out)
    have HKL := Lib.hid (show scL E ≤ l.length - M by rw [HEL.out]; exact scL_le E)
    generalize scL E = K at *
    have hK := HKL.out
    have LT_RG : _ < w.heap.size := GL
    -- R4: no load
    -- R5: no load
    have SZ : w.heap.size ≤ v6.drew.heap.size := GB.out.size
    have hb := ud' (brefl v6)
    replace RG := Lib.hid ((hb.block _ (row_lt RG.out)).trans RG.out)
    replace R4 := Lib.hid ((hb.block _ (row_lt R4.out)).trans R4.out)
    replace R5 := Lib.hid ((hb.block _ (row_lt R5.out)).trans R5.out)
    replace HS := Lib.hid (HS.out.keep hb)
    replace HO1 := Lib.hid (HO1.out.keep hb)
    replace GB := Lib.hid (gb_below GB.out hb)
    clear hb
    refine Tin.reg_begin (w.heap.size) 11 (by rfl) (by kernel_rfl) ?_
    have kb : ∀ p : Bel (w.heap.size) v6.drew, p.w'.cell? ⟨g, 0, none⟩ = some (.slice A l.length cap) := fun p => row_cell ((p.h.block _ LT_RG).trans RG.out) 0 rfl
    have ka : ∀ p : Bel (w.heap.size) v6.drew, p.w'.cell? ⟨g, 1, none⟩ = some (.int .i64 (M : Int)) := fun p => row_cell ((p.h.block _ LT_RG).trans RG.out) 1 rfl
    refine Tin.reg_quiets [0, 1, 2, 3, 4, 5, 6, 7, 8] _ 2 rfl (by simp only [Tin.pick, List.map_cons, List.map_nil, Array.getD_eq_getD_getElem?, List.getElem?_toArray, List.getElem?_cons_zero, List.getElem?_cons_succ, Option.getD_some]; rfl) (by kernel_rfl) (by kernel_rfl) ?_
    repeat (first | ((with_reducible refine Tin.wpq_cutn (P := Try.prog) (e := 5) (s := 1) Try.underlying22 sz8 ?_ (.tmp 70) (.tmp 74) ?_ A l.length cap (M) ((M : Int)) ?_ ?_ ?_ ?_ ?_); rfl; rfl; rfl; rfl; omega; omega; simp only [Act.put, List.setIfInBounds_toArray, List.set_cons_succ, List.set_cons_zero]) | go_big_quiet_step (fail))
    refine wpQuiet_nil ?_
    clear kb ka
    refine Tin.reg_one 9 _ rfl (by kernel_rfl) ?_
    try simp only [List.getElem_toArray, List.getElem_cons_succ, List.getElem_cons_zero]
    go_wp2_with fail
    rw [HEL.out]
    refine (HSC.out _ (HSE.out _ HS.out)).mono ?_
    rintro e v7 ⟨rfl, hv⟩
    go_wp2_with fail
    refine ⟨w.heap.size, hv.mono SZ, Nat.le_refl _, ?_⟩
    replace RG := Lib.hid ((hv.block _ (row_lt RG.out)).trans RG.out)
    replace R4 := Lib.hid ((hv.block _ (row_lt R4.out)).trans R4.out)
    replace R5 := Lib.hid ((hv.block _ (row_lt R5.out)).trans R5.out)
    replace HS := Lib.hid (HS.out.keep hv)
    replace HO1 := Lib.hid (HO1.out.keep hv)
    replace GB := Lib.hid (gb_below GB.out hv)
    replace SZ := Nat.le_trans SZ hv.size
    clear hv
    refine Tin.reg_quiets [10] _ 0 rfl (by simp only [Tin.pick, List.map_cons, List.map_nil, Array.getD_eq_getD_getElem?, List.getElem?_toArray, List.getElem?_cons_zero, List.getElem?_cons_succ, Option.getD_some]; rfl) (by kernel_rfl) (by kernel_rfl) ?_
    repeat (first | go_big_quiet_step (fail))
    refine wpQuiet_nil ?_
    refine Tin.reg_done (by kernel_rfl) ?_
    go_wp2_with fail
    obtain ⟨S, hS⟩ : ∃ S, E.take K = S := ⟨_, rfl⟩
    obtain rfl : K = S.length := by rw [← hS, List.length_take, ← HEL.out]; omega
    have HSS := Lib.hid (fun (W : World) (h : Sl .u8 W A l) => (show Sl .u8 W (cutA A cap M 1) S by rw [← hS]; exact (HSE.out W h).take _))
    have HSN := Lib.hid (show S.length ≤ 1000000000 by omega)
    rw [hS] at HD5
    clear hS
    have LT_RG : _ < w.heap.size := GL
    -- R4: no load
    -- R5: no load
    have SZ : w.heap.size ≤ v7.drew.heap.size := GB.out.size
    have hb := ud' (brefl v7)
    replace RG := Lib.hid ((hb.block _ (row_lt RG.out)).trans RG.out)
    replace R4 := Lib.hid ((hb.block _ (row_lt R4.out)).trans R4.out)
    replace R5 := Lib.hid ((hb.block _ (row_lt R5.out)).trans R5.out)
    replace HS := Lib.hid (HS.out.keep hb)
    replace HO1 := Lib.hid (HO1.out.keep hb)
    replace GB := Lib.hid (gb_below GB.out hb)
    clear hb
    refine Tin.reg_begin (w.heap.size) 18 (by rfl) (by kernel_rfl) ?_
    have kb : ∀ p : Bel (w.heap.size) v7.drew, p.w'.cell? ⟨g, 0, none⟩ = some (.slice A l.length cap) := fun p => row_cell ((p.h.block _ LT_RG).trans RG.out) 0 rfl
    have ka : ∀ p : Bel (w.heap.size) v7.drew, p.w'.cell? ⟨g, 1, none⟩ = some (.int .i64 (M : Int)) := fun p => row_cell ((p.h.block _ LT_RG).trans RG.out) 1 rfl
    refine Tin.reg_quiets [0, 1, 2, 3, 4, 5, 6, 7, 8, 9, 10, 11, 12, 13, 14] _ 3 rfl (by simp only [Tin.pick, List.map_cons, List.map_nil, Array.getD_eq_getD_getElem?, List.getElem?_toArray, List.getElem?_cons_zero, List.getElem?_cons_succ, Option.getD_some]; rfl) (by kernel_rfl) (by kernel_rfl) ?_
    repeat (first | ((with_reducible refine Tin.wpq_cut (P := Try.prog) (e := 5) (s := 1) Try.underlying22 sz8 ?_ (.tmp 80) (.tmp 84) (.tmp 90) ?_ A l.length cap (M) (M + S.length) ((M : Int)) ((M : Int) + (S.length : Int)) ?_ ?_ ?_ ?_ ?_ ?_ ?_ ?_); rfl; rfl; rfl; rfl; rfl; omega; omega; omega; omega; simp only [Act.put, List.setIfInBounds_toArray, List.set_cons_succ, List.set_cons_zero]) | go_big_quiet_step (fail))
    refine wpQuiet_nil ?_
    clear kb ka
    refine Tin.reg_one 15 _ rfl (by kernel_rfl) ?_
    try simp only [List.getElem_toArray, List.getElem_cons_succ, List.getElem_cons_zero]
    go_wp2_with fail
    refine (clone_any _ S _ _ (HSS.out _ HS.out) HSN.out).mono ?_
    rintro e v8 ⟨A2, e2, rfl, hv8_0, hv⟩
    have UB2 : ∀ q, (Value.slice A2 S.length e2).ownBlock = some q → w.heap.size + 1 < q := fun q hq => by have h1 := (World.ownsRow.lt hv8_0 q hq).1; have h2 := row_lt R5.out; omega
    go_wp2_with fail
    refine ⟨w.heap.size, hv.mono SZ, Nat.le_refl _, ?_⟩
    replace RG := Lib.hid ((hv.block _ (row_lt RG.out)).trans RG.out)
    replace R4 := Lib.hid ((hv.block _ (row_lt R4.out)).trans R4.out)
    replace R5 := Lib.hid ((hv.block _ (row_lt R5.out)).trans R5.out)
    replace HS := Lib.hid (HS.out.keep hv)
    replace HO1 := Lib.hid (HO1.out.keep hv)
    replace GB := Lib.hid (gb_below GB.out hv)
    have HO2 := Lib.hid (hv8_0.mono SZ)
    replace SZ := Nat.le_trans SZ hv.size
    clear hv8_0 hv
    refine Tin.reg_quiets [16] _ 1 rfl (by simp only [Tin.pick, List.map_cons, List.map_nil, Array.getD_eq_getD_getElem?, List.getElem?_toArray, List.getElem?_cons_zero, List.getElem?_cons_succ, Option.getD_some]; rfl) (by kernel_rfl) (by kernel_rfl) ?_
    repeat (first | go_big_quiet_step (fail))
    refine wpQuiet_nil ?_
    refine Tin.reg_one 17 _ rfl (by kernel_rfl) ?_
    try simp only [List.getElem_toArray, List.getElem_cons_succ, List.getElem_cons_zero]
    have kq := row_cell (v := .slice none 0 0) R5.out 2 rfl
    have yq := frozen_of_row _ (w.heap.size + 1) 2 _ _ R5.out
    go_wp2_with fail
    clear kq yq
    refine ⟨w.heap.size, bset (Below.refl _ _) _ _ _ (by omega), Nat.le_refl _, ?_⟩
    obtain ⟨v9, hn⟩ : ∃ W, W = (v8.setCell ⟨w.heap.size + 1, 2, none⟩ (.slice A2 S.length e2)) := ⟨_, rfl⟩
    have hg : v8.grownBy v9 (some (w.heap.size + 1)) := by rw [hn]; exact grown_setCells (w.heap.size + 1) [.slice A2 S.length e2] 2 _ _ (World.grownBy.refl _ _)
    replace RG := Lib.hid ((hg.block _ (row_lt RG.out) (fun e => by have := Option.some.inj e; omega)).trans RG.out)
    replace R4 := Lib.hid ((hg.block _ (row_lt R4.out) (fun e => by have := Option.some.inj e; omega)).trans R4.out)
    replace R5 := Lib.hid (show v9.heap[w.heap.size + 1]? = some (.cells (srow m A1 D.length e1 A2 S.length e2) 36 (0, 0)) by rw [hn]; exact row_set R5.out 2 _)
    replace HO1 := Lib.hid (HO1.out.kept hg (ne_own (fun q hq => by have := UB1 q hq; omega)))
    replace HO2 := Lib.hid (HO2.out.kept hg (ne_own (fun q hq => by have := UB2 q hq; omega)))
    replace GB := Lib.hid (gb_new GB.out hg (by omega))
    replace HS := Lib.hid (Sl.frN HS0.out HNE.out GB.out)
    rw [← hn]
    clear hn hg
    refine Tin.reg_done (by kernel_rfl) ?_
    have ka := row_cell (v := .int .i64 (M : Int)) RG.out 1 rfl
    have yg := frozen_of_row _ g 1 _ _ RG.out
    have hg : v9.grownBy (v9.setCell ⟨g, 1, none⟩ (.int .i64 ((M : Int) + (S.length : Int)))) (some (g)) := by exact grown_setCells (g) [.int .i64 ((M : Int) + (S.length : Int))] 1 _ _ (World.grownBy.refl _ _)
    replace R4 := Lib.hid ((hg.block _ (row_lt R4.out) (fun e => by have := Option.some.inj e; omega)).trans R4.out)
    replace R5 := Lib.hid ((hg.block _ (row_lt R5.out) (fun e => by have := Option.some.inj e; omega)).trans R5.out)
    replace RG := Lib.hid (show (v9.setCell ⟨g, 1, none⟩ (.int .i64 ((M : Int) + (S.length : Int)))).heap[g]? = some (.cells (lrow A l.length cap ((M + S.length : Nat) : Int)) 57 (0, 0)) by rw [show ((M : Int) + (S.length : Int)) = ((M + S.length : Nat) : Int) by omega]; exact row_set RG.out 1 _)
    replace HO1 := Lib.hid (HO1.out.kept hg (ne_own (fun q hq => by have := UB1 q hq; omega)))
    replace HO2 := Lib.hid (HO2.out.kept hg (ne_own (fun q hq => by have := UB2 q hq; omega)))
    replace GB := Lib.hid (GB.out.trans hg)
    replace HS := Lib.hid (Sl.frN HS0.out HNE.out GB.out)
    clear hg
    go_wp2_with (first | ((with_reducible refine wpl_load_row rtS ?_ (.tmp 5) ?_ (w.heap.size + 1) ?_ 36 (srow m A1 D.length e1 A2 S.length e2) ?_ R5.out ?_); rfl; rfl; rfl; rfl; simp only [Act.put, List.setIfInBounds_toArray, List.set_cons_succ, List.set_cons_zero]) | ((with_reducible refine wpl_store_row rtS ?_ (.tmp 4) (.tmp 102) ?_ (w.heap.size) ?_ (srow m A1 D.length e1 A2 S.length e2) ?_ (srow_one _ _ _ _ _ _ _) 36 ?_ _ ?_ R4.out ?_); rfl; rfl; rfl; rfl; rfl; rfl; intro w7 hr7 hg7 hs7; (try simp only [Act.put])))
    exact bodyPost_ret (res_row rtS rfl _ _ w.heap.size 36 (srow m A1 D.length e1 A2 S.length e2) rfl rfl hr7) rfl (SgP.of_ok HD5.out (HO1.out.kept hg7 (ne_own (fun q hq => by have := UB1 q hq; omega))) (HO2.out.kept hg7 (ne_own (fun q hq => by have := UB2 q hq; omega))) ((hg7.block g (row_lt RG.out) (fun e => by have := Option.some.inj e; omega)).trans RG.out) (gb_new GB.out hg7 (Nat.le_refl _)))
end Go.Proofs.Ytfohajgljjffgaa
