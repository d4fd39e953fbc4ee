/- The contract of Of. -/
import Derived.Test.YtfohajgljjffgaaMkE
namespace Go.Proofs.Ytfohajgljjffgaa
open Go.RowKit
open Go.Tin
set_option linter.unusedVariables false
set_option linter.unusedSimpArgs false


def OfP (w : World) (r : Lo) (e : Ending) (w' : World) : Prop :=
  match r with
  | .err p q => e = .returned (.tuple #[.slice none 0 0, .int .i64 0, .int .i64 p, .int .i64 q]) ∧ Below w.heap.size w w'
  | .ok L a => ∃ A c xs, e = .returned (.tuple #[.slice A L.length c, .int .i64 a, .int .i64 0, .int .i64 0]) ∧ OwnV 36 3 w' w.heap.size (.slice A L.length c) L.length xs ∧ SgV (fun v l => Own .u8 5 w' w.heap.size v l) xs L ∧ Below w.heap.size w w'
def lastM (L : List Sg) : Int := match L.getLast? with
  | some s => s.m
  | none => 0
theorem leaves_tmps {fn : Func} {R : Ending → World → Prop} {t t' : Array Value} (h : results fn t = results fn t') : ∀ (ds : List Deferred) (u : FrameMode) (w : World), Leaves Try.prog fn t R ds u w → Leaves Try.prog fn t' R ds u w
  | [], .returning, w, hl => by
    obtain ⟨v, h1, h2⟩ := hl
    exact ⟨v, by rw [← h]; exact h1, h2⟩
  | [], .panicking c, w, hl => hl
  | [], .run, w, hl => hl
  | d :: ds, u, w, hl => by
    obtain ⟨h1, fv, cap, f, args, h2, h3, h4⟩ := hl
    refine ⟨h1, fv, cap, f, args, h2, h3, CallsD.mono h4 fun e u' w' he => ?_⟩
    cases e with
    | returned v => exact leaves_tmps h ds _ _ he
    | panicked c => exact leaves_tmps h ds _ _ he
    | outgrown => exact he
def keepR (d : Nat) : Bool := d == 2 || (d == 3 || (d == 4 || d == 5))
theorem res_keep (t : Array Value) (d : Nat) (v : Value) (h : keepR d = false) : results Try.f22 (t.setIfInBounds d v) = results Try.f22 t := by
  have hd : d ≠ 2 ∧ d ≠ 3 ∧ d ≠ 4 ∧ d ≠ 5 := by
    unfold keepR at h
    simpa using h
  have key : ∀ k, d ≠ k → (t.setIfInBounds d v)[k]? = t[k]? := by
    intro k hk
    rw [Array.getElem?_setIfInBounds, if_neg hk]
  unfold results
  simp only [Try.results22]
  simp [key 2 hd.1, key 3 hd.2.1, key 4 hd.2.2.1, key 5 hd.2.2.2]
theorem own_row_ne {k : IntKind} {e : TypeId} {w : World} {B : Nat} {v : Value} {l : List Int} (h : Own k e w B v l) (g : Nat) (hg : g < B) : v.ownBlock = none ∨ v.ownBlock ≠ some g := by
  obtain ⟨A, c, rfl, _, _, _, h3⟩ := h.sl
  rcases h3 with ⟨rfl, _⟩ | ⟨q, rfl, hq, _⟩
  · exact .inl rfl
  · refine .inr fun e => ?_
    have : q = g := Option.some.inj e
    omega
theorem own_ownv_apart {k : IntKind} {e e' : TypeId} {sz B B' n : Nat} {w : World} {v v' : Value} {l : List Int} {xs : List Value} (h : Own k e w B v l) (h' : OwnV e' sz w B' v' n xs) (hne : e ≠ e') : v.ownBlock = none ∨ v.ownBlock ≠ v'.ownBlock := by
  rcases h.2 with ⟨rfl, _⟩ | ⟨g, cap, cur, rfl, _, hh, _⟩
  · exact .inl rfl
  rcases h'.2 with ⟨rfl, _⟩ | ⟨g', cap', cur', rfl, _, hh', _⟩
  · exact .inr nofun
  refine .inr fun he => ?_
  have he : g = g' := Option.some.inj he
  subst he
  rw [hh] at hh'
  injection hh' with hh'
  injection hh' with _ ht
  exact hne ht
theorem svG : SV Try.prog 27 36 3 56 := SV.of Try.underlying27 (by kernel_rfl) (by decide)
theorem bel_grown {B : Nat} {w0 w w' : World} {g : Nat} (hb : Below B w0 w) (hB : B ≤ g) (hs : B ≤ w.heap.size) (hg : w.grownBy w' (some g)) : Below B w0 w' :=
  ⟨hg.os.trans hb.os, hg.tape.trans hb.tape, hg.output.trans hb.output, Nat.le_trans hb.size hg.size, fun i hi => (hg.block i (by omega) (fun e => by have : i = g := Option.some.inj e; omega)).trans (hb.block i hi)⟩
theorem own_row_neV {e : TypeId} {sz : Nat} {w : World} {B : Nat} {v : Value} {n : Nat} {xs : List Value} (h : OwnV e sz w B v n xs) (g : Nat) (hg : g < B) : v.ownBlock = none ∨ v.ownBlock ≠ some g := by
  obtain ⟨A, c, rfl, _, _, _, h3⟩ := h.sl
  rcases h3 with ⟨rfl, _⟩ | ⟨q, rfl, hq, _⟩
  · exact .inl rfl
  · refine .inr fun e => ?_
    have : q = g := Option.some.inj e
    omega
/-- Where the lexer is: what has been read, and the rows of the call. -/
structure OS (w wr : World) (A : Option Addr) (l : List Int) (cap : Nat) (acc : List Sg) (a : Nat) (A1 : Option Addr) (c1 : Nat) (xs : List Value) : Prop where
  r2 : wr.heap[w.heap.size]? = some (.cells #[.slice A1 acc.length c1] 27 (0, 0))
  r3 : wr.heap[w.heap.size + 1]? = some (.cells #[.int .i64 0] 3 (0, 0))
  r4 : wr.heap[w.heap.size + 2]? = some (.cells #[.int .i64 0] 3 (0, 0))
  r5 : wr.heap[w.heap.size + 3]? = some (.cells #[.int .i64 0] 24 (0, 0))
  rx : wr.heap[w.heap.size + 4]? = some (.cells (lrow A l.length cap (a : Int)) 57 (0, 0))
  own : OwnV 36 3 wr (w.heap.size + 5) (.slice A1 acc.length c1) acc.length xs
  segs : SgV (fun v d => Own .u8 5 wr (w.heap.size + 5) v d) xs acc
  bel : Below w.heap.size w wr
/-- Of the loop: more is to be read, or all has been. -/
def OQ (l : List Int) (acc : List Sg) (a : Nat) : Prop := (∃ f, ofR l = lexO l f a acc ∧ l.length < f + a ∧ (acc = [] ∨ lastM acc ≠ 217)) ∨ (ofR l = .ok acc a ∧ acc ≠ [] ∧ lastM acc = 217)
def atX (w wr : World) : Nat := match wr.cell? ⟨w.heap.size + 4, 1, none⟩ with
  | some (.int _ n) => n.toNat
  | _ => 0
theorem last_cell {w wr : World} {A : Option Addr} {l : List Int} {cap : Nat} {acc : List Sg} {a : Nat} {A1 : Option Addr} {c1 : Nat} {xs : List Value} (h : OS w wr A l cap acc a A1 c1 xs) (hl : 0 < acc.length) :
    ∃ q, A1 = some ⟨q, 0, none⟩ ∧ wr.cell? ⟨q, (acc.length - 1) * 3, none⟩ = some (.int .i64 (lastM acc)) ∧ acc.length ≤ c1 ∧ c1 ≤ maxLen := by
  obtain ⟨A', c', he, hsl, h1, h2, h3⟩ := h.own.sl
  injection he with e1 e2 e3
  subst e1; subst e3
  rcases h3 with ⟨rfl, rfl⟩ | ⟨q, rfl, _, _⟩
  · omega
  refine ⟨q, rfl, ?_, h1, h2⟩
  have hxl := h.segs.len
  obtain ⟨b, off, hA, _, hc⟩ := hsl.at_ (by omega)
  injection hA with hA
  injection hA with hb ho _
  subst hb; subst ho
  have hcell := hc ((acc.length - 1) * 3) (by omega)
  rw [Nat.zero_add] at hcell
  rw [hcell]
  obtain ⟨v, u, hx, _, _⟩ := h.segs.at_ (acc.length - 1) (by omega)
  have h0 : ((xs.drop ((acc.length - 1) * 3)).take 3)[0]? = some (.int .i64 acc[acc.length - 1].m) := by rw [hx]; rfl
  rw [List.getElem?_take_of_lt (by decide), List.getElem?_drop] at h0
  rw [Nat.add_zero] at h0
  rw [h0]
  unfold lastM
  rw [List.getLast?_eq_getElem?, List.getElem?_eq_getElem (by omega)]
set_option maxRecDepth 100000 in
set_option maxHeartbeats 8000000 in
theorem of_any (A : Option Addr) (l : List Int) (cap : Nat) (w : World) (hs : Sl .u8 w A l) (hcap : l.length ≤ cap) (hl : l.length ≤ 1000000) (hby : Byts l) :
    Calls Try.prog 22 #[.slice A l.length cap] w fun e w' => OfP w (ofR l) e w' := by
  have hmf : ∀ (fn : Fn) (first cap : Array Value) (w : World), (Instr.makeFunc fn first cap).run Try.prog w = .ok (.func fn first cap) w := fun _ _ _ _ => rfl
  obtain ⟨W, hW⟩ : ∃ W, W = (((((w.alloc (.cells #[.slice none 0 0] 27)).alloc (.cells #[.int .i64 0] 3)).alloc (.cells #[.int .i64 0] 3)).alloc (.cells #[.int .i64 0] 24)).alloc (.cells (lrow A l.length cap 0) 57)) := ⟨_, rfl⟩
  have HO0 := Lib.hid (show OS w W A l cap [] 0 none 0 [] by
    obtain ⟨e0, e1, e2, e3, eb, ez⟩ := alloc4 w (.cells #[.slice none 0 0] 27) (.cells #[.int .i64 0] 3) (.cells #[.int .i64 0] 3) (.cells #[.int .i64 0] 24)
    obtain ⟨k4, kb, kz⟩ := alloc1 ((((w.alloc (.cells #[.slice none 0 0] 27)).alloc (.cells #[.int .i64 0] 3)).alloc (.cells #[.int .i64 0] 3)).alloc (.cells #[.int .i64 0] 24)) (.cells (lrow A l.length cap 0) 57)
    rw [hW]
    exact ⟨(kb.block _ (by omega)).trans e0, (kb.block _ (by omega)).trans e1, (kb.block _ (by omega)).trans e2, (kb.block _ (by omega)).trans e3, by rw [← ez]; exact k4, OwnV.nil_ _ _ _ _, .nil, bt eb kb⟩)
  have HSW := Lib.hid (hs.keep HO0.out.bel)
  have HS0 := Lib.hid hs
  have HBY := Lib.hid hby
  clear hs hby
  go_enter_defers Try.func22, Try.ntmps22
  go_wp2_with fail
  have e2 : w.heap.size + 1 + 1 = w.heap.size + 2 := rfl
  have e3 : w.heap.size + 1 + 1 + 1 = w.heap.size + 3 := rfl
  have e4 : w.heap.size + 1 + 1 + 1 + 1 = w.heap.size + 4 := rfl
  rw [← hW]
  simp only [e4, e3, e2]
  clear hW e2 e3 e4
  go_loopw [] (fun wr => ∃ (acc : List Sg) (a : Nat) (A1 : Option Addr) (c1 : Nat) (xs : List Value), (a ≤ l.length ∧ acc.length ≤ a) ∧ OS w wr A l cap acc a A1 c1 xs ∧ OQ l acc a) (fun wr => l.length + 1 - atX w wr)
  case atStart => exact ⟨[], 0, none, 0, [], ⟨by omega, Nat.le_refl _⟩, HO0.out, .inl ⟨l.length + 1, rfl, by omega, .inl rfl⟩⟩
  case round =>
    obtain ⟨acc, a, A1, c1, xs, ⟨ha, hac⟩, hos, hoq⟩ := hrel
    have HO := Lib.hid hos
    have HLAST := Lib.hid (last_cell hos)
    have kq := row_cell (v := .slice A1 acc.length c1) hos.r2 0 rfl
    clear hos
    rcases hoq with ⟨f, hf, hfl, hrun⟩ | ⟨hok, hne, h217⟩
    case inr =>
      have hlen : 0 < acc.length := List.length_pos_iff.2 hne
      have d0 : ((acc.length : Int) == 0) = false := by rw [beq_eq_false_iff_ne]; omega
      obtain ⟨q, rfl, hlc, hlc1, hlm⟩ := HLAST.out hlen
      rw [h217] at hlc
      have HOK := Lib.hid hok
      unfold maxLen at hlm
      have t1 : ((acc.length : Int) - 1).toNat = acc.length - 1 := by omega
      clear hok h217 hne
      have k0 : ∀ q : Kel (fun i => i < w.heap.size ∨ w.heap.size + 4 ≤ i) wr.drew, q.w'.cell? ⟨w.heap.size + 4, 1, none⟩ = some (.int .i64 (a : Int)) := fun q => (q.h.cell (show w.heap.size + 4 < wr.drew.heap.size from row_lt HO.out.rx) (.inr (by omega))).trans (row_cell HO.out.rx 1 rfl)
      have R0 := Lib.hid HO.out.r2
      have R1 := Lib.hid HO.out.r3
      have R2 := Lib.hid HO.out.r4
      have R3 := Lib.hid HO.out.r5
      have RX := Lib.hid HO.out.rx
      have OV := Lib.hid HO.out.own
      have SV := Lib.hid HO.out.segs
      have HB := Lib.hid HO.out.bel
      clear HO
      go_wp2_with fail
      clear kq hlc
      refine Tin.keg_begin (fun i => i < w.heap.size ∨ w.heap.size + 4 ≤ i) 9 (by rfl) (by kernel_rfl) ?_
      refine Tin.keg_quiets [1, 2, 3, 4] _ 5 rfl (by simp only [Tin.pick, List.map_cons, List.map_nil, Array.getD_eq_getD_getElem?, List.getElem?_toArray, List.getElem?_cons_zero, List.getElem?_cons_succ, Option.getD_some]; rfl) (by kernel_rfl) (by kernel_rfl) ?_
      repeat (first | go_big_quiet_step (fail))
      refine wpQuiet_nil ?_
      clear k0
      refine Tin.keg_one 0 _ rfl (by kernel_rfl) ?_
      try simp only [List.getElem_toArray, List.getElem_cons_succ, List.getElem_cons_zero]
      have kq := row_cell (v := .slice (some ⟨q, 0, none⟩) acc.length c1) R0.out 0 rfl
      go_wp2_with fail
      refine ⟨fun i => i < w.heap.size ∨ w.heap.size + 4 ≤ i, Kept.refl _ _, fun _ _ h => h, ?_⟩
      clear kq
      replace HB := Lib.hid (ud' HB.out)
      replace R0 := Lib.hid (show wr.drew.heap[w.heap.size]? = _ from R0.out)
      replace R1 := Lib.hid (show wr.drew.heap[w.heap.size + 1]? = _ from R1.out)
      replace R2 := Lib.hid (show wr.drew.heap[w.heap.size + 2]? = _ from R2.out)
      replace R3 := Lib.hid (show wr.drew.heap[w.heap.size + 3]? = _ from R3.out)
      replace RX := Lib.hid (show wr.drew.heap[w.heap.size + 4]? = _ from RX.out)
      replace OV := Lib.hid OV.out.drew
      replace SV := Lib.hid (SgV.mono (fun _ _ h => Own.drew h) SV.out)
      have HLO := Lib.hid (OV.out.low q rfl)
      refine Tin.keg_one 5 _ rfl (by kernel_rfl) ?_
      try simp only [List.getElem_toArray, List.getElem_cons_succ, List.getElem_cons_zero]
      have kq := row_cell (v := .slice (some ⟨q, 0, none⟩) acc.length c1) R0.out 0 rfl
      have yq := frozen_of_row _ (w.heap.size) 0 _ _ R0.out
      go_wp2_with fail
      clear kq yq
      have hg : wr.drew.grownBy ((wr.setCell ⟨w.heap.size, 0, none⟩ (.slice (some ⟨q, 0, none⟩) acc.length c1)).drew) (some (w.heap.size)) := grown_setCells (w.heap.size) [.slice (some ⟨q, 0, none⟩) acc.length c1] 0 _ _ (World.grownBy.refl _ _)
      replace R0 := Lib.hid (show ((wr.setCell ⟨w.heap.size, 0, none⟩ (.slice (some ⟨q, 0, none⟩) acc.length c1)).drew).heap[w.heap.size]? = some (.cells #[.slice (some ⟨q, 0, none⟩) acc.length c1] 27 (0, 0)) from row_set R0.out 0 _)
      replace R1 := Lib.hid ((hg.block _ (row_lt R1.out) (fun e => by have := Option.some.inj e; omega)).trans R1.out)
      replace R2 := Lib.hid ((hg.block _ (row_lt R2.out) (fun e => by have := Option.some.inj e; omega)).trans R2.out)
      replace R3 := Lib.hid ((hg.block _ (row_lt R3.out) (fun e => by have := Option.some.inj e; omega)).trans R3.out)
      replace HB := Lib.hid (show Below w.heap.size w ((wr.setCell ⟨w.heap.size, 0, none⟩ (.slice (some ⟨q, 0, none⟩) acc.length c1)).drew) by have h := bset HB.out w.heap.size 0 (.slice (some ⟨q, 0, none⟩) acc.length c1) (Nat.le_refl _); exact ⟨h.os, h.tape, h.output, h.size, h.block⟩)
      have hgo : some (w.heap.size) ≠ some q := fun e => by have := Option.some.inj e; have := HLO.out.1; omega
      replace OV := Lib.hid (OV.out.kept hg (.inr fun e => hgo e.symm))
      replace SV := Lib.hid (SgV.mono (fun _ _ h => h.kept hg (own_row_ne h (w.heap.size) (by omega))) SV.out)
      refine ⟨fun i => i < w.heap.size ∨ w.heap.size + 4 ≤ i, Kept.of_grown hg (fun i h e => by have := Option.some.inj e; omega), fun _ _ h => h, ?_⟩
      clear hg hgo
      generalize ((wr.setCell ⟨w.heap.size, 0, none⟩ (.slice (some ⟨q, 0, none⟩) acc.length c1)).drew) = u1 at *
      refine Tin.keg_one 6 _ rfl (by kernel_rfl) ?_
      try simp only [List.getElem_toArray, List.getElem_cons_succ, List.getElem_cons_zero]
      have kq := row_cell (v := .int .i64 0) R1.out 0 rfl
      have yq := frozen_of_row _ (w.heap.size + 1) 0 _ _ R1.out
      go_wp2_with fail
      clear kq yq
      have hg : u1.grownBy (u1.setCell ⟨w.heap.size + 1, 0, none⟩ (.int .i64 (a : Int))) (some (w.heap.size + 1)) := grown_setCells (w.heap.size + 1) [.int .i64 (a : Int)] 0 _ _ (World.grownBy.refl _ _)
      replace R0 := Lib.hid ((hg.block _ (row_lt R0.out) (fun e => by have := Option.some.inj e; omega)).trans R0.out)
      replace R1 := Lib.hid (show (u1.setCell ⟨w.heap.size + 1, 0, none⟩ (.int .i64 (a : Int))).heap[w.heap.size + 1]? = some (.cells #[.int .i64 (a : Int)] 3 (0, 0)) from row_set R1.out 0 _)
      replace R2 := Lib.hid ((hg.block _ (row_lt R2.out) (fun e => by have := Option.some.inj e; omega)).trans R2.out)
      replace R3 := Lib.hid ((hg.block _ (row_lt R3.out) (fun e => by have := Option.some.inj e; omega)).trans R3.out)
      replace HB := Lib.hid (show Below w.heap.size w (u1.setCell ⟨w.heap.size + 1, 0, none⟩ (.int .i64 (a : Int))) from bset HB.out _ _ _ (by omega))
      have hgo : some (w.heap.size + 1) ≠ some q := fun e => by have := Option.some.inj e; have := HLO.out.1; omega
      replace OV := Lib.hid (OV.out.kept hg (.inr fun e => hgo e.symm))
      replace SV := Lib.hid (SgV.mono (fun _ _ h => h.kept hg (own_row_ne h (w.heap.size + 1) (by omega))) SV.out)
      refine ⟨fun i => i < w.heap.size ∨ w.heap.size + 4 ≤ i, Kept.of_grown hg (fun i h e => by have := Option.some.inj e; omega), fun _ _ h => h, ?_⟩
      clear hg hgo
      generalize (u1.setCell ⟨w.heap.size + 1, 0, none⟩ (.int .i64 (a : Int))) = u2 at *
      refine Tin.keg_one 7 _ rfl (by kernel_rfl) ?_
      try simp only [List.getElem_toArray, List.getElem_cons_succ, List.getElem_cons_zero]
      have kq := row_cell (v := .int .i64 0) R2.out 0 rfl
      have yq := frozen_of_row _ (w.heap.size + 2) 0 _ _ R2.out
      go_wp2_with fail
      clear kq yq
      have hg : u2.grownBy (u2.setCell ⟨w.heap.size + 2, 0, none⟩ (.int .i64 0)) (some (w.heap.size + 2)) := grown_setCells (w.heap.size + 2) [.int .i64 0] 0 _ _ (World.grownBy.refl _ _)
      replace R0 := Lib.hid ((hg.block _ (row_lt R0.out) (fun e => by have := Option.some.inj e; omega)).trans R0.out)
      replace R1 := Lib.hid ((hg.block _ (row_lt R1.out) (fun e => by have := Option.some.inj e; omega)).trans R1.out)
      replace R2 := Lib.hid (show (u2.setCell ⟨w.heap.size + 2, 0, none⟩ (.int .i64 0)).heap[w.heap.size + 2]? = some (.cells #[.int .i64 0] 3 (0, 0)) from row_set R2.out 0 _)
      replace R3 := Lib.hid ((hg.block _ (row_lt R3.out) (fun e => by have := Option.some.inj e; omega)).trans R3.out)
      replace HB := Lib.hid (show Below w.heap.size w (u2.setCell ⟨w.heap.size + 2, 0, none⟩ (.int .i64 0)) from bset HB.out _ _ _ (by omega))
      have hgo : some (w.heap.size + 2) ≠ some q := fun e => by have := Option.some.inj e; have := HLO.out.1; omega
      replace OV := Lib.hid (OV.out.kept hg (.inr fun e => hgo e.symm))
      replace SV := Lib.hid (SgV.mono (fun _ _ h => h.kept hg (own_row_ne h (w.heap.size + 2) (by omega))) SV.out)
      refine ⟨fun i => i < w.heap.size ∨ w.heap.size + 4 ≤ i, Kept.of_grown hg (fun i h e => by have := Option.some.inj e; omega), fun _ _ h => h, ?_⟩
      clear hg hgo
      generalize (u2.setCell ⟨w.heap.size + 2, 0, none⟩ (.int .i64 0)) = u3 at *
      refine Tin.keg_one 8 _ rfl (by kernel_rfl) ?_
      try simp only [List.getElem_toArray, List.getElem_cons_succ, List.getElem_cons_zero]
      have kq := row_cell (v := .int .i64 0) R3.out 0 rfl
      have yq := frozen_of_row _ (w.heap.size + 3) 0 _ _ R3.out
      go_wp2_with fail
      clear kq yq
      have hg : u3.grownBy (u3.setCell ⟨w.heap.size + 3, 0, none⟩ (.int .i64 0)) (some (w.heap.size + 3)) := grown_setCells (w.heap.size + 3) [.int .i64 0] 0 _ _ (World.grownBy.refl _ _)
      replace R0 := Lib.hid ((hg.block _ (row_lt R0.out) (fun e => by have := Option.some.inj e; omega)).trans R0.out)
      replace R1 := Lib.hid ((hg.block _ (row_lt R1.out) (fun e => by have := Option.some.inj e; omega)).trans R1.out)
      replace R2 := Lib.hid ((hg.block _ (row_lt R2.out) (fun e => by have := Option.some.inj e; omega)).trans R2.out)
      replace R3 := Lib.hid (show (u3.setCell ⟨w.heap.size + 3, 0, none⟩ (.int .i64 0)).heap[w.heap.size + 3]? = some (.cells #[.int .i64 0] 24 (0, 0)) from row_set R3.out 0 _)
      replace HB := Lib.hid (show Below w.heap.size w (u3.setCell ⟨w.heap.size + 3, 0, none⟩ (.int .i64 0)) from bset HB.out _ _ _ (by omega))
      have hgo : some (w.heap.size + 3) ≠ some q := fun e => by have := Option.some.inj e; have := HLO.out.1; omega
      replace OV := Lib.hid (OV.out.kept hg (.inr fun e => hgo e.symm))
      replace SV := Lib.hid (SgV.mono (fun _ _ h => h.kept hg (own_row_ne h (w.heap.size + 3) (by omega))) SV.out)
      refine ⟨fun i => i < w.heap.size ∨ w.heap.size + 4 ≤ i, Kept.of_grown hg (fun i h e => by have := Option.some.inj e; omega), fun _ _ h => h, ?_⟩
      clear hg hgo
      generalize (u3.setCell ⟨w.heap.size + 3, 0, none⟩ (.int .i64 0)) = u4 at *
      refine Tin.reg_done (by kernel_rfl) ?_
      go_wp2_with fail
      refine leaves_cons (f := 33) (args := #[.pointer (some ⟨w.heap.size, 0, none⟩), .pointer (some ⟨w.heap.size + 1, 0, none⟩), .pointer (some ⟨w.heap.size + 2, 0, none⟩), .pointer (some ⟨w.heap.size + 3, 0, none⟩)]) nofun rfl ?_
      refine CallsD.mono (catch_i w.heap.size u4) ?_
      rintro e u' w' ⟨rfl, rfl, hb⟩
      have z0 := row_cell (v := .slice (some ⟨q, 0, none⟩) acc.length c1) ((hb.block _ (row_lt R0.out)).trans R0.out) 0 rfl
      have z1 := row_cell (v := .int .i64 (a : Int)) ((hb.block _ (row_lt R1.out)).trans R1.out) 0 rfl
      have z2 := row_cell (v := .int .i64 0) ((hb.block _ (row_lt R2.out)).trans R2.out) 0 rfl
      have z3 := row_cell (v := .int .i64 0) ((hb.block _ (row_lt R3.out)).trans R3.out) 0 rfl
      refine ⟨.tuple #[.slice (some ⟨q, 0, none⟩) acc.length c1, .int .i64 (a : Int), .int .i64 0, .int .i64 0], ?_, ?_⟩
      · simp [results, Try.results22, go_sem, z0, z1, z2, z3]
      rw [HOK.out]
      exact ⟨_, _, xs, rfl, (OV.out.keep hb).mono (by omega), SgV.mono (fun _ _ h => (h.keep hb).mono (by omega)) SV.out, HB.out.trans (hb.mono HB.out.size)⟩
    rcases Nat.eq_zero_or_pos acc.length with hz | hz
    · have d0 : ((acc.length : Int) == 0) = true := by rw [hz]; rfl
      clear HLAST
      go_wp2_with fail
      clear d0
      replace hz := Lib.hid hz
      have R0 := Lib.hid HO.out.r2
      have R1 := Lib.hid HO.out.r3
      have R2 := Lib.hid HO.out.r4
      have R3 := Lib.hid HO.out.r5
      have RX := Lib.hid HO.out.rx
      have OV := Lib.hid HO.out.own
      have SV := Lib.hid HO.out.segs
      have HB := Lib.hid HO.out.bel
      have HSR := Lib.hid (HS0.out.keep (HB.out.mono (Nat.le_refl _)))
      have HAX := Lib.hid (show atX w wr = a by
        have h9 := row_cell (v := .int .i64 (a : Int)) RX.out 1 rfl
        unfold atX; rw [h9]; rfl)
      clear HO kq
      refine Tin.reg_begin0 0 8 rfl (by kernel_rfl) ?_
      refine Tin.reg_quiets0 keepR [1, 2] _ 6 rfl (by simp only [Tin.pick, List.map_cons, List.map_nil, Array.getD_eq_getD_getElem?, List.getElem?_toArray, List.getElem?_cons_zero, List.getElem?_cons_succ, Option.getD_some]; rfl) (by kernel_rfl) (by kernel_rfl) (by kernel_rfl) ?_ ?_
      · intro c a' d v w' hk h
        exact leaves_tmps (t := (a'.put (some d) v).tmps) (t' := a'.tmps) (res_keep _ _ _ hk) _ _ _ h
      repeat (first | go_big_quiet_step (fail))
      refine wpQuiet_nil ?_
      have SZ : w.heap.size + 4 ≤ wr.drew.heap.size := Nat.le_of_lt (row_lt RX.out)
      replace HB := Lib.hid (ud' HB.out)
      replace R0 := Lib.hid (show wr.drew.heap[w.heap.size]? = _ from R0.out)
      replace R1 := Lib.hid (show wr.drew.heap[w.heap.size + 1]? = _ from R1.out)
      replace R2 := Lib.hid (show wr.drew.heap[w.heap.size + 2]? = _ from R2.out)
      replace R3 := Lib.hid (show wr.drew.heap[w.heap.size + 3]? = _ from R3.out)
      replace RX := Lib.hid (show wr.drew.heap[w.heap.size + 4]? = _ from RX.out)
      replace OV := Lib.hid OV.out.drew
      replace SV := Lib.hid (SgV.mono (fun _ _ h => Own.drew h) SV.out)
      replace HSR := Lib.hid (show Sl .u8 wr.drew A l from HSR.out)
      have hf' := Lib.hid hf
      have hrun' := Lib.hid hrun
      have HAC := Lib.hid hac
      clear hac
      refine Tin.reg_two 0 3 _ _ rfl rfl (by kernel_rfl) ?_ ?_
      · try simp only [List.getElem_toArray, List.getElem_cons_succ, List.getElem_cons_zero]
        have kq := row_cell (v := .slice A1 acc.length c1) R0.out 0 rfl
        go_wp2_with fail
        clear kq
        refine ⟨0, Below.refl _ _, Nat.le_refl _, ?_⟩
        refine Tin.reg_one 3 _ rfl (by kernel_rfl) ?_
        try simp only [List.getElem_toArray, List.getElem_cons_succ, List.getElem_cons_zero]
        go_wp2_with fail
        refine (mk_any (w.heap.size + 4) A l cap a _ RX.out HSR.out (by omega) HBY.out ha).mono ?_
        intro e v1 hv
        obtain ⟨r, hr⟩ : ∃ r, lexM l a = r := ⟨_, rfl⟩
        rw [hr] at hv
        cases r with
        | err p q0 =>
          obtain ⟨rfl, hb⟩ := hv
          go_wp2_with fail
          have hvb := hb.mono SZ
          refine leaves_cons (f := 33) (args := #[.pointer (some ⟨w.heap.size, 0, none⟩), .pointer (some ⟨w.heap.size + 1, 0, none⟩), .pointer (some ⟨w.heap.size + 2, 0, none⟩), .pointer (some ⟨w.heap.size + 3, 0, none⟩)]) nofun rfl ?_
          refine CallsD.mono (catch_p w.heap.size (.slice A1 acc.length c1) 0 0 0 p q0 [] v1 ((hvb.block _ (by omega)).trans R0.out) ((hvb.block _ (by omega)).trans R1.out) ((hvb.block _ (by omega)).trans R2.out) ((hvb.block _ (by omega)).trans R3.out)) ?_
          rintro e u' w' ⟨rfl, rfl, z0, z1, z2, z3, hb2⟩
          refine ⟨.tuple #[.slice none 0 0, .int .i64 0, .int .i64 p, .int .i64 q0], ?_, ?_⟩
          · simp [results, Try.results22, go_sem, row_cell z0 0 rfl, row_cell z1 0 rfl, row_cell z2 0 rfl, row_cell z3 0 rfl]
          have he : ofR l = .err p q0 := by
            rw [hf'.out]
            obtain ⟨f', rfl⟩ : ∃ f', f = f' + 1 := ⟨f - 1, by omega⟩
            simp only [lexO, hr]
          rw [he]
          exact ⟨rfl, (HB.out.trans (hvb.mono (by omega))).trans hb2⟩
        | ok m =>
          obtain ⟨rfl, hx, hg⟩ := hv
          have HM := Lib.hid (lexM_ok hr)
          have hvb := bel_grown (Below.refl (w.heap.size + 4) wr.drew) (Nat.le_refl _) SZ hg
          go_wp2_with fail
          refine ⟨0, hvb.mono (Nat.zero_le _), Nat.le_refl _, ?_⟩
          replace R0 := Lib.hid ((hvb.block _ (by omega)).trans R0.out)
          replace R1 := Lib.hid ((hvb.block _ (by omega)).trans R1.out)
          replace R2 := Lib.hid ((hvb.block _ (by omega)).trans R2.out)
          replace R3 := Lib.hid ((hvb.block _ (by omega)).trans R3.out)
          have hx2 : v1.heap[w.heap.size + 4]? = some (.cells (lrow A l.length cap ((a + 2 : Nat) : Int)) 57 (0, 0)) := by rw [Int.natCast_add]; exact hx
          replace RX := Lib.hid hx2
          clear hx2
          have hq := own_row_neV OV.out (w.heap.size + 4) (by omega)
          replace OV := Lib.hid (OV.out.kept hg hq)
          replace SV := Lib.hid (SgV.mono (fun _ _ h => h.kept hg (own_row_ne h (w.heap.size + 4) (by omega))) SV.out)
          replace HB := Lib.hid (HB.out.trans (hvb.mono (by omega)))
          replace HSR := Lib.hid (HS0.out.keep (HB.out.mono (Nat.le_refl _)))
          have SG := Nat.le_trans SZ hg.size
          replace SZ := SG
          clear hg hvb hx hq SG
          refine Tin.reg_one 4 _ rfl (by kernel_rfl) ?_
          try simp only [List.getElem_toArray, List.getElem_cons_succ, List.getElem_cons_zero]
          go_wp2_with fail
          have ha2 : a + 2 ≤ l.length := HM.out.1
          have hne : ∀ x, A = some x → x.block ≠ w.heap.size + 4 := by
            intro x hA
            obtain ⟨b, off, hA2, hb2, _⟩ := HS0.out.at_ (by omega)
            rw [hA] at hA2
            injection hA2 with hA2
            subst hA2
            show b ≠ w.heap.size + 4
            omega
          refine (sg_any (w.heap.size + 4) A l cap (a + 2) m _ RX.out HSR.out hcap (by omega) HBY.out (by omega) hne).mono ?_
          intro e v2 hv
          obtain ⟨r, hr2⟩ : ∃ r, lexS l (a + 2) m = r := ⟨_, rfl⟩
          rw [hr2] at hv
          cases r with
          | err p q0 =>
            obtain ⟨rfl, hb⟩ := hv
            go_wp2_with fail
            have hvb := hb.mono SZ
            refine leaves_cons (f := 33) (args := #[.pointer (some ⟨w.heap.size, 0, none⟩), .pointer (some ⟨w.heap.size + 1, 0, none⟩), .pointer (some ⟨w.heap.size + 2, 0, none⟩), .pointer (some ⟨w.heap.size + 3, 0, none⟩)]) nofun rfl ?_
            refine CallsD.mono (catch_p w.heap.size (.slice A1 acc.length c1) 0 0 0 p q0 [] v2 ((hvb.block _ (by omega)).trans R0.out) ((hvb.block _ (by omega)).trans R1.out) ((hvb.block _ (by omega)).trans R2.out) ((hvb.block _ (by omega)).trans R3.out)) ?_
            rintro e u' w' ⟨rfl, rfl, z0, z1, z2, z3, hb2⟩
            refine ⟨.tuple #[.slice none 0 0, .int .i64 0, .int .i64 p, .int .i64 q0], ?_, ?_⟩
            · simp [results, Try.results22, go_sem, row_cell z0 0 rfl, row_cell z1 0 rfl, row_cell z2 0 rfl, row_cell z3 0 rfl]
            have he : ofR l = .err p q0 := by
              rw [hf'.out]
              obtain ⟨f', rfl⟩ : ∃ f', f = f' + 1 := ⟨f - 1, by omega⟩
              simp only [lexO, hr, hr2]
            rw [he]
            exact ⟨rfl, (HB.out.trans (hvb.mono (by omega))).trans hb2⟩
          | ok d s a' =>
            obtain ⟨B1, k1, B2, k2, rfl, ho1, ho2, hx, hg⟩ := hv
            have ha' := lexS_le (a := a + 2) ha2 hr2
            have S5 : w.heap.size + 5 ≤ v1.heap.size := row_lt RX.out
            have HD1 := Lib.hid (ho1.mono S5)
            have HD2 := Lib.hid (ho2.mono S5)
            have HLO := Lib.hid (OV.out.low)
            clear ho1 ho2
            go_wp2_with fail
            have hvb := bel_grown (Below.refl (w.heap.size + 4) v1) (Nat.le_refl _) SZ hg
            refine ⟨0, hvb.mono (Nat.zero_le _), Nat.le_refl _, ?_⟩
            replace R0 := Lib.hid ((hvb.block _ (by omega)).trans R0.out)
            replace R1 := Lib.hid ((hvb.block _ (by omega)).trans R1.out)
            replace R2 := Lib.hid ((hvb.block _ (by omega)).trans R2.out)
            replace R3 := Lib.hid ((hvb.block _ (by omega)).trans R3.out)
            replace RX := Lib.hid hx
            have hq := own_row_neV OV.out (w.heap.size + 4) (by omega)
            replace OV := Lib.hid (OV.out.kept hg hq)
            replace SV := Lib.hid (SgV.mono (fun _ _ h => h.kept hg (own_row_ne h (w.heap.size + 4) (by omega))) SV.out)
            replace HB := Lib.hid (HB.out.trans (hvb.mono (by omega)))
            have SG := Nat.le_trans SZ hg.size
            replace SZ := SG
            replace S5 := Nat.le_trans S5 hg.size
            clear hg hvb hx hq SG
            refine Tin.reg_one 5 _ rfl (by kernel_rfl) ?_
            try simp only [List.getElem_toArray, List.getElem_cons_succ, List.getElem_cons_zero]
            go_wp2_with fail
            have hv3 := ba (brefl v2) (.cells #[.int .i64 m, .slice B1 d.length k1, .slice B2 s.length k2] 36)
            have hvb := hv3.mono SZ
            have HN := Lib.hid (SlV.new_ v2 36 #[.int .i64 m, .slice B1 d.length k1, .slice B2 s.length k2])
            refine ⟨0, hvb.mono (Nat.zero_le _), Nat.le_refl _, ?_⟩
            replace R0 := Lib.hid ((hvb.block _ (by omega)).trans R0.out)
            replace R1 := Lib.hid ((hvb.block _ (by omega)).trans R1.out)
            replace R2 := Lib.hid ((hvb.block _ (by omega)).trans R2.out)
            replace R3 := Lib.hid ((hvb.block _ (by omega)).trans R3.out)
            replace RX := Lib.hid ((hv3.block _ (by omega)).trans RX.out)
            replace OV := Lib.hid (OV.out.keep hv3)
            replace SV := Lib.hid (SgV.mono (fun _ _ h => h.keep hv3) SV.out)
            replace HD1 := Lib.hid (HD1.out.keep hv3)
            replace HD2 := Lib.hid (HD2.out.keep hv3)
            replace HB := Lib.hid (HB.out.trans (hvb.mono (by omega)))
            have SG := Nat.le_trans SZ hv3.size
            replace SZ := SG
            replace S5 := Nat.le_trans S5 hv3.size
            clear hv3 hvb SG
            generalize (v2.alloc (.cells #[.int .i64 m, .slice B1 d.length k1, .slice B2 s.length k2] 36)) = u3 at *
            refine Tin.reg_one 6 _ rfl (by kernel_rfl) ?_
            try simp only [List.getElem_toArray, List.getElem_cons_succ, List.getElem_cons_zero]
            have hap1 := own_ownv_apart HD1.out OV.out (by decide)
            have hap2 := own_ownv_apart HD2.out OV.out (by decide)
            refine Tin.wplv_app svG _ rfl (.tmp 24) (.tmp 29) rfl (w.heap.size + 5) (.slice A1 acc.length c1) acc.length xs rfl OV.out (some ⟨v2.heap.size, 0, none⟩) 1 1 [.int .i64 m, .slice B1 d.length k1, .slice B2 s.length k2] rfl rfl HN.out (by simp [Value.oneCell']) (by have := HAC.out; omega) (by have := HAC.out; omega) S5 ?_
            intro A4 c4 w4 ho4 hg4 how4
            have hgr : ∀ q, (Value.slice A1 acc.length c1).ownBlock = some q → w.heap.size + 5 ≤ q := fun q hq => (HLO.out q hq).1
            go_wp2_with fail
            have hv4 := OV.out.grown (Below.refl (w.heap.size + 5) u3) S5 hg4
            have hvb := hv4.mono (show w.heap.size + 4 ≤ w.heap.size + 5 by omega)
            refine ⟨0, hvb.mono (Nat.zero_le _), Nat.le_refl _, ?_⟩
            replace R0 := Lib.hid ((hvb.block _ (by omega)).trans R0.out)
            replace R1 := Lib.hid ((hvb.block _ (by omega)).trans R1.out)
            replace R2 := Lib.hid ((hvb.block _ (by omega)).trans R2.out)
            replace R3 := Lib.hid ((hvb.block _ (by omega)).trans R3.out)
            replace RX := Lib.hid ((hv4.block _ (by omega)).trans RX.out)
            have hsv := SgV.app (SgV.mono (fun _ _ h => Own.kept h hg4 (own_ownv_apart h OV.out (by decide))) SV.out) (SgV.one (m := m) (HD1.out.kept hg4 hap1) (HD2.out.kept hg4 hap2))
            replace SV := Lib.hid hsv
            replace OV := Lib.hid ho4
            replace HB := Lib.hid (HB.out.trans (hvb.mono (by omega)))
            clear hv4 hvb hg4 how4 hap1 hap2 hsv ho4 HD1 HD2 HLO hgr HN S5 SZ HSR
            refine Tin.reg_one 7 _ rfl (by kernel_rfl) ?_
            try simp only [List.getElem_toArray, List.getElem_cons_succ, List.getElem_cons_zero]
            have kq := row_cell (v := .slice A1 acc.length c1) R0.out 0 rfl
            have yq := frozen_of_row _ (w.heap.size) 0 _ _ R0.out
            go_wp2_with fail
            clear kq yq
            have hg : w4.grownBy (w4.setCell ⟨w.heap.size, 0, none⟩ (.slice A4 (acc.length + 1) c4)) (some (w.heap.size)) := grown_setCells (w.heap.size) [.slice A4 (acc.length + 1) c4] 0 _ _ (World.grownBy.refl _ _)
            refine ⟨0, bel_grown (Below.refl 0 w4) (Nat.zero_le _) (Nat.zero_le _) hg, Nat.le_refl _, ?_⟩
            replace R0 := Lib.hid (show (w4.setCell ⟨w.heap.size, 0, none⟩ (.slice A4 (acc.length + 1) c4)).heap[w.heap.size]? = some (.cells #[.slice A4 (acc.length + 1) c4] 27 (0, 0)) from row_set R0.out 0 _)
            replace R1 := Lib.hid ((hg.block _ (row_lt R1.out) (fun e => by have := Option.some.inj e; omega)).trans R1.out)
            replace R2 := Lib.hid ((hg.block _ (row_lt R2.out) (fun e => by have := Option.some.inj e; omega)).trans R2.out)
            replace R3 := Lib.hid ((hg.block _ (row_lt R3.out) (fun e => by have := Option.some.inj e; omega)).trans R3.out)
            replace RX := Lib.hid ((hg.block _ (row_lt RX.out) (fun e => by have := Option.some.inj e; omega)).trans RX.out)
            replace HB := Lib.hid (bset HB.out w.heap.size 0 (.slice A4 (acc.length + 1) c4) (Nat.le_refl _))
            have hq := own_row_neV OV.out w.heap.size (by omega)
            replace OV := Lib.hid (OV.out.kept hg hq)
            replace SV := Lib.hid (SgV.mono (fun _ _ h => h.kept hg (own_row_ne h w.heap.size (by omega))) SV.out)
            clear hg hq
            generalize (w4.setCell ⟨w.heap.size, 0, none⟩ (.slice A4 (acc.length + 1) c4)) = w5 at *
            refine Tin.reg_done0 (by kernel_rfl) ?_
            go_wp2_with fail
            have hln : (acc ++ [Sg.mk m d s]).length = acc.length + 1 := by simp
            have hax : atX w w5 = a' := by
              have h9 := row_cell (v := .int .i64 (a' : Int)) RX.out 1 rfl
              unfold atX; rw [h9]; rfl
            refine ⟨⟨acc ++ [⟨m, d, s⟩], a', A4, c4, _, ⟨ha'.2, by rw [hln]; have := HAC.out; omega⟩, ⟨by rw [hln]; exact R0.out, R1.out, R2.out, R3.out, RX.out, by rw [hln]; exact OV.out, SV.out, HB.out⟩, ?_⟩, ?_⟩
            · have he : ofR l = if m = 217 then .ok (acc ++ [⟨m, d, s⟩]) a' else lexO l (f - 1) a' (acc ++ [⟨m, d, s⟩]) := by
                rw [hf'.out]
                obtain ⟨f', rfl⟩ : ∃ f', f = f' + 1 := ⟨f - 1, by omega⟩
                simp only [lexO, hr, hr2, Nat.add_sub_cancel]
              have hlm : lastM (acc ++ [Sg.mk m d s]) = m := by unfold lastM; simp
              by_cases hm : m = 217
              · rw [if_pos hm] at he
                exact .inr ⟨he, by simp, by rw [hlm]; exact hm⟩
              · rw [if_neg hm] at he
                exact .inl ⟨f - 1, he, by omega, .inr (by rw [hlm]; exact hm)⟩
            · have h8 : atX w wr = a := HAX.out
              rw [hax, h8]
              omega
      · try simp only [List.getElem_toArray, List.getElem_cons_succ, List.getElem_cons_zero]
        go_wp2_with fail
        refine (mk_any (w.heap.size + 4) A l cap a _ RX.out HSR.out (by omega) HBY.out ha).mono ?_
        intro e v1 hv
        obtain ⟨r, hr⟩ : ∃ r, lexM l a = r := ⟨_, rfl⟩
        rw [hr] at hv
        cases r with
        | err p q0 =>
          obtain ⟨rfl, hb⟩ := hv
          go_wp2_with fail
          have hvb := hb.mono SZ
          refine leaves_cons (f := 33) (args := #[.pointer (some ⟨w.heap.size, 0, none⟩), .pointer (some ⟨w.heap.size + 1, 0, none⟩), .pointer (some ⟨w.heap.size + 2, 0, none⟩), .pointer (some ⟨w.heap.size + 3, 0, none⟩)]) nofun rfl ?_
          refine CallsD.mono (catch_p w.heap.size (.slice A1 acc.length c1) 0 0 0 p q0 [] v1 ((hvb.block _ (by omega)).trans R0.out) ((hvb.block _ (by omega)).trans R1.out) ((hvb.block _ (by omega)).trans R2.out) ((hvb.block _ (by omega)).trans R3.out)) ?_
          rintro e u' w' ⟨rfl, rfl, z0, z1, z2, z3, hb2⟩
          refine ⟨.tuple #[.slice none 0 0, .int .i64 0, .int .i64 p, .int .i64 q0], ?_, ?_⟩
          · simp [results, Try.results22, go_sem, row_cell z0 0 rfl, row_cell z1 0 rfl, row_cell z2 0 rfl, row_cell z3 0 rfl]
          have he : ofR l = .err p q0 := by
            rw [hf'.out]
            obtain ⟨f', rfl⟩ : ∃ f', f = f' + 1 := ⟨f - 1, by omega⟩
            simp only [lexO, hr]
          rw [he]
          exact ⟨rfl, (HB.out.trans (hvb.mono (by omega))).trans hb2⟩
        | ok m =>
          obtain ⟨rfl, hx, hg⟩ := hv
          have HM := Lib.hid (lexM_ok hr)
          have hvb := bel_grown (Below.refl (w.heap.size + 4) wr.drew) (Nat.le_refl _) SZ hg
          go_wp2_with fail
          refine ⟨0, hvb.mono (Nat.zero_le _), Nat.le_refl _, ?_⟩
          replace R0 := Lib.hid ((hvb.block _ (by omega)).trans R0.out)
          replace R1 := Lib.hid ((hvb.block _ (by omega)).trans R1.out)
          replace R2 := Lib.hid ((hvb.block _ (by omega)).trans R2.out)
          replace R3 := Lib.hid ((hvb.block _ (by omega)).trans R3.out)
          have hx2 : v1.heap[w.heap.size + 4]? = some (.cells (lrow A l.length cap ((a + 2 : Nat) : Int)) 57 (0, 0)) := by rw [Int.natCast_add]; exact hx
          replace RX := Lib.hid hx2
          clear hx2
          have hq := own_row_neV OV.out (w.heap.size + 4) (by omega)
          replace OV := Lib.hid (OV.out.kept hg hq)
          replace SV := Lib.hid (SgV.mono (fun _ _ h => h.kept hg (own_row_ne h (w.heap.size + 4) (by omega))) SV.out)
          replace HB := Lib.hid (HB.out.trans (hvb.mono (by omega)))
          replace HSR := Lib.hid (HS0.out.keep (HB.out.mono (Nat.le_refl _)))
          have SG := Nat.le_trans SZ hg.size
          replace SZ := SG
          clear hg hvb hx hq SG
          refine Tin.reg_two 0 4 _ _ rfl rfl (by kernel_rfl) ?_ ?_
          · try simp only [List.getElem_toArray, List.getElem_cons_succ, List.getElem_cons_zero]
            have kq := row_cell (v := .slice A1 acc.length c1) R0.out 0 rfl
            go_wp2_with fail
            clear kq
            refine ⟨0, Below.refl _ _, Nat.le_refl _, ?_⟩
            refine Tin.reg_one 4 _ rfl (by kernel_rfl) ?_
            try simp only [List.getElem_toArray, List.getElem_cons_succ, List.getElem_cons_zero]
            go_wp2_with fail
            have ha2 : a + 2 ≤ l.length := HM.out.1
            have hne : ∀ x, A = some x → x.block ≠ w.heap.size + 4 := by
              intro x hA
              obtain ⟨b, off, hA2, hb2, _⟩ := HS0.out.at_ (by omega)
              rw [hA] at hA2
              injection hA2 with hA2
              subst hA2
              show b ≠ w.heap.size + 4
              omega
            refine (sg_any (w.heap.size + 4) A l cap (a + 2) m _ RX.out HSR.out hcap (by omega) HBY.out (by omega) hne).mono ?_
            intro e v2 hv
            obtain ⟨r, hr2⟩ : ∃ r, lexS l (a + 2) m = r := ⟨_, rfl⟩
            rw [hr2] at hv
            cases r with
            | err p q0 =>
              obtain ⟨rfl, hb⟩ := hv
              go_wp2_with fail
              have hvb := hb.mono SZ
              refine leaves_cons (f := 33) (args := #[.pointer (some ⟨w.heap.size, 0, none⟩), .pointer (some ⟨w.heap.size + 1, 0, none⟩), .pointer (some ⟨w.heap.size + 2, 0, none⟩), .pointer (some ⟨w.heap.size + 3, 0, none⟩)]) nofun rfl ?_
              refine CallsD.mono (catch_p w.heap.size (.slice A1 acc.length c1) 0 0 0 p q0 [] v2 ((hvb.block _ (by omega)).trans R0.out) ((hvb.block _ (by omega)).trans R1.out) ((hvb.block _ (by omega)).trans R2.out) ((hvb.block _ (by omega)).trans R3.out)) ?_
              rintro e u' w' ⟨rfl, rfl, z0, z1, z2, z3, hb2⟩
              refine ⟨.tuple #[.slice none 0 0, .int .i64 0, .int .i64 p, .int .i64 q0], ?_, ?_⟩
              · simp [results, Try.results22, go_sem, row_cell z0 0 rfl, row_cell z1 0 rfl, row_cell z2 0 rfl, row_cell z3 0 rfl]
              have he : ofR l = .err p q0 := by
                rw [hf'.out]
                obtain ⟨f', rfl⟩ : ∃ f', f = f' + 1 := ⟨f - 1, by omega⟩
                simp only [lexO, hr, hr2]
              rw [he]
              exact ⟨rfl, (HB.out.trans (hvb.mono (by omega))).trans hb2⟩
            | ok d s a' =>
              obtain ⟨B1, k1, B2, k2, rfl, ho1, ho2, hx, hg⟩ := hv
              have ha' := lexS_le (a := a + 2) ha2 hr2
              have S5 : w.heap.size + 5 ≤ v1.heap.size := row_lt RX.out
              have HD1 := Lib.hid (ho1.mono S5)
              have HD2 := Lib.hid (ho2.mono S5)
              have HLO := Lib.hid (OV.out.low)
              clear ho1 ho2
              go_wp2_with fail
              have hvb := bel_grown (Below.refl (w.heap.size + 4) v1) (Nat.le_refl _) SZ hg
              refine ⟨0, hvb.mono (Nat.zero_le _), Nat.le_refl _, ?_⟩
              replace R0 := Lib.hid ((hvb.block _ (by omega)).trans R0.out)
              replace R1 := Lib.hid ((hvb.block _ (by omega)).trans R1.out)
              replace R2 := Lib.hid ((hvb.block _ (by omega)).trans R2.out)
              replace R3 := Lib.hid ((hvb.block _ (by omega)).trans R3.out)
              replace RX := Lib.hid hx
              have hq := own_row_neV OV.out (w.heap.size + 4) (by omega)
              replace OV := Lib.hid (OV.out.kept hg hq)
              replace SV := Lib.hid (SgV.mono (fun _ _ h => h.kept hg (own_row_ne h (w.heap.size + 4) (by omega))) SV.out)
              replace HB := Lib.hid (HB.out.trans (hvb.mono (by omega)))
              have SG := Nat.le_trans SZ hg.size
              replace SZ := SG
              replace S5 := Nat.le_trans S5 hg.size
              clear hg hvb hx hq SG
              refine Tin.reg_one 5 _ rfl (by kernel_rfl) ?_
              try simp only [List.getElem_toArray, List.getElem_cons_succ, List.getElem_cons_zero]
              go_wp2_with fail
              have hv3 := ba (brefl v2) (.cells #[.int .i64 m, .slice B1 d.length k1, .slice B2 s.length k2] 36)
              have hvb := hv3.mono SZ
              have HN := Lib.hid (SlV.new_ v2 36 #[.int .i64 m, .slice B1 d.length k1, .slice B2 s.length k2])
              refine ⟨0, hvb.mono (Nat.zero_le _), Nat.le_refl _, ?_⟩
              replace R0 := Lib.hid ((hvb.block _ (by omega)).trans R0.out)
              replace R1 := Lib.hid ((hvb.block _ (by omega)).trans R1.out)
              replace R2 := Lib.hid ((hvb.block _ (by omega)).trans R2.out)
              replace R3 := Lib.hid ((hvb.block _ (by omega)).trans R3.out)
              replace RX := Lib.hid ((hv3.block _ (by omega)).trans RX.out)
              replace OV := Lib.hid (OV.out.keep hv3)
              replace SV := Lib.hid (SgV.mono (fun _ _ h => h.keep hv3) SV.out)
              replace HD1 := Lib.hid (HD1.out.keep hv3)
              replace HD2 := Lib.hid (HD2.out.keep hv3)
              replace HB := Lib.hid (HB.out.trans (hvb.mono (by omega)))
              have SG := Nat.le_trans SZ hv3.size
              replace SZ := SG
              replace S5 := Nat.le_trans S5 hv3.size
              clear hv3 hvb SG
              generalize (v2.alloc (.cells #[.int .i64 m, .slice B1 d.length k1, .slice B2 s.length k2] 36)) = u3 at *
              refine Tin.reg_one 6 _ rfl (by kernel_rfl) ?_
              try simp only [List.getElem_toArray, List.getElem_cons_succ, List.getElem_cons_zero]
              have hap1 := own_ownv_apart HD1.out OV.out (by decide)
              have hap2 := own_ownv_apart HD2.out OV.out (by decide)
              refine Tin.wplv_app svG _ rfl (.tmp 24) (.tmp 29) rfl (w.heap.size + 5) (.slice A1 acc.length c1) acc.length xs rfl OV.out (some ⟨v2.heap.size, 0, none⟩) 1 1 [.int .i64 m, .slice B1 d.length k1, .slice B2 s.length k2] rfl rfl HN.out (by simp [Value.oneCell']) (by have := HAC.out; omega) (by have := HAC.out; omega) S5 ?_
              intro A4 c4 w4 ho4 hg4 how4
              have hgr : ∀ q, (Value.slice A1 acc.length c1).ownBlock = some q → w.heap.size + 5 ≤ q := fun q hq => (HLO.out q hq).1
              go_wp2_with fail
              have hv4 := OV.out.grown (Below.refl (w.heap.size + 5) u3) S5 hg4
              have hvb := hv4.mono (show w.heap.size + 4 ≤ w.heap.size + 5 by omega)
              refine ⟨0, hvb.mono (Nat.zero_le _), Nat.le_refl _, ?_⟩
              replace R0 := Lib.hid ((hvb.block _ (by omega)).trans R0.out)
              replace R1 := Lib.hid ((hvb.block _ (by omega)).trans R1.out)
              replace R2 := Lib.hid ((hvb.block _ (by omega)).trans R2.out)
              replace R3 := Lib.hid ((hvb.block _ (by omega)).trans R3.out)
              replace RX := Lib.hid ((hv4.block _ (by omega)).trans RX.out)
              have hsv := SgV.app (SgV.mono (fun _ _ h => Own.kept h hg4 (own_ownv_apart h OV.out (by decide))) SV.out) (SgV.one (m := m) (HD1.out.kept hg4 hap1) (HD2.out.kept hg4 hap2))
              replace SV := Lib.hid hsv
              replace OV := Lib.hid ho4
              replace HB := Lib.hid (HB.out.trans (hvb.mono (by omega)))
              clear hv4 hvb hg4 how4 hap1 hap2 hsv ho4 HD1 HD2 HLO hgr HN S5 SZ HSR
              refine Tin.reg_one 7 _ rfl (by kernel_rfl) ?_
              try simp only [List.getElem_toArray, List.getElem_cons_succ, List.getElem_cons_zero]
              have kq := row_cell (v := .slice A1 acc.length c1) R0.out 0 rfl
              have yq := frozen_of_row _ (w.heap.size) 0 _ _ R0.out
              go_wp2_with fail
              clear kq yq
              have hg : w4.grownBy (w4.setCell ⟨w.heap.size, 0, none⟩ (.slice A4 (acc.length + 1) c4)) (some (w.heap.size)) := grown_setCells (w.heap.size) [.slice A4 (acc.length + 1) c4] 0 _ _ (World.grownBy.refl _ _)
              refine ⟨0, bel_grown (Below.refl 0 w4) (Nat.zero_le _) (Nat.zero_le _) hg, Nat.le_refl _, ?_⟩
              replace R0 := Lib.hid (show (w4.setCell ⟨w.heap.size, 0, none⟩ (.slice A4 (acc.length + 1) c4)).heap[w.heap.size]? = some (.cells #[.slice A4 (acc.length + 1) c4] 27 (0, 0)) from row_set R0.out 0 _)
              replace R1 := Lib.hid ((hg.block _ (row_lt R1.out) (fun e => by have := Option.some.inj e; omega)).trans R1.out)
              replace R2 := Lib.hid ((hg.block _ (row_lt R2.out) (fun e => by have := Option.some.inj e; omega)).trans R2.out)
              replace R3 := Lib.hid ((hg.block _ (row_lt R3.out) (fun e => by have := Option.some.inj e; omega)).trans R3.out)
              replace RX := Lib.hid ((hg.block _ (row_lt RX.out) (fun e => by have := Option.some.inj e; omega)).trans RX.out)
              replace HB := Lib.hid (bset HB.out w.heap.size 0 (.slice A4 (acc.length + 1) c4) (Nat.le_refl _))
              have hq := own_row_neV OV.out w.heap.size (by omega)
              replace OV := Lib.hid (OV.out.kept hg hq)
              replace SV := Lib.hid (SgV.mono (fun _ _ h => h.kept hg (own_row_ne h w.heap.size (by omega))) SV.out)
              clear hg hq
              generalize (w4.setCell ⟨w.heap.size, 0, none⟩ (.slice A4 (acc.length + 1) c4)) = w5 at *
              refine Tin.reg_done0 (by kernel_rfl) ?_
              go_wp2_with fail
              have hln : (acc ++ [Sg.mk m d s]).length = acc.length + 1 := by simp
              have hax : atX w w5 = a' := by
                have h9 := row_cell (v := .int .i64 (a' : Int)) RX.out 1 rfl
                unfold atX; rw [h9]; rfl
              refine ⟨⟨acc ++ [⟨m, d, s⟩], a', A4, c4, _, ⟨ha'.2, by rw [hln]; have := HAC.out; omega⟩, ⟨by rw [hln]; exact R0.out, R1.out, R2.out, R3.out, RX.out, by rw [hln]; exact OV.out, SV.out, HB.out⟩, ?_⟩, ?_⟩
              · have he : ofR l = if m = 217 then .ok (acc ++ [⟨m, d, s⟩]) a' else lexO l (f - 1) a' (acc ++ [⟨m, d, s⟩]) := by
                  rw [hf'.out]
                  obtain ⟨f', rfl⟩ : ∃ f', f = f' + 1 := ⟨f - 1, by omega⟩
                  simp only [lexO, hr, hr2, Nat.add_sub_cancel]
                have hlm : lastM (acc ++ [Sg.mk m d s]) = m := by unfold lastM; simp
                by_cases hm : m = 217
                · rw [if_pos hm] at he
                  exact .inr ⟨he, by simp, by rw [hlm]; exact hm⟩
                · rw [if_neg hm] at he
                  exact .inl ⟨f - 1, he, by omega, .inr (by rw [hlm]; exact hm)⟩
              · have h8 : atX w wr = a := HAX.out
                rw [hax, h8]
                omega
          · try simp only [List.getElem_toArray, List.getElem_cons_succ, List.getElem_cons_zero]
            go_wp2_with fail
            have ha2 : a + 2 ≤ l.length := HM.out.1
            have hne : ∀ x, A = some x → x.block ≠ w.heap.size + 4 := by
              intro x hA
              obtain ⟨b, off, hA2, hb2, _⟩ := HS0.out.at_ (by omega)
              rw [hA] at hA2
              injection hA2 with hA2
              subst hA2
              show b ≠ w.heap.size + 4
              omega
            refine (sg_any (w.heap.size + 4) A l cap (a + 2) m _ RX.out HSR.out hcap (by omega) HBY.out (by omega) hne).mono ?_
            intro e v2 hv
            obtain ⟨r, hr2⟩ : ∃ r, lexS l (a + 2) m = r := ⟨_, rfl⟩
            rw [hr2] at hv
            cases r with
            | err p q0 =>
              obtain ⟨rfl, hb⟩ := hv
              go_wp2_with fail
              have hvb := hb.mono SZ
              refine leaves_cons (f := 33) (args := #[.pointer (some ⟨w.heap.size, 0, none⟩), .pointer (some ⟨w.heap.size + 1, 0, none⟩), .pointer (some ⟨w.heap.size + 2, 0, none⟩), .pointer (some ⟨w.heap.size + 3, 0, none⟩)]) nofun rfl ?_
              refine CallsD.mono (catch_p w.heap.size (.slice A1 acc.length c1) 0 0 0 p q0 [] v2 ((hvb.block _ (by omega)).trans R0.out) ((hvb.block _ (by omega)).trans R1.out) ((hvb.block _ (by omega)).trans R2.out) ((hvb.block _ (by omega)).trans R3.out)) ?_
              rintro e u' w' ⟨rfl, rfl, z0, z1, z2, z3, hb2⟩
              refine ⟨.tuple #[.slice none 0 0, .int .i64 0, .int .i64 p, .int .i64 q0], ?_, ?_⟩
              · simp [results, Try.results22, go_sem, row_cell z0 0 rfl, row_cell z1 0 rfl, row_cell z2 0 rfl, row_cell z3 0 rfl]
              have he : ofR l = .err p q0 := by
                rw [hf'.out]
                obtain ⟨f', rfl⟩ : ∃ f', f = f' + 1 := ⟨f - 1, by omega⟩
                simp only [lexO, hr, hr2]
              rw [he]
              exact ⟨rfl, (HB.out.trans (hvb.mono (by omega))).trans hb2⟩
            | ok d s a' =>
              obtain ⟨B1, k1, B2, k2, rfl, ho1, ho2, hx, hg⟩ := hv
              have ha' := lexS_le (a := a + 2) ha2 hr2
              have S5 : w.heap.size + 5 ≤ v1.heap.size := row_lt RX.out
              have HD1 := Lib.hid (ho1.mono S5)
              have HD2 := Lib.hid (ho2.mono S5)
              have HLO := Lib.hid (OV.out.low)
              clear ho1 ho2
              go_wp2_with fail
              have hvb := bel_grown (Below.refl (w.heap.size + 4) v1) (Nat.le_refl _) SZ hg
              refine ⟨0, hvb.mono (Nat.zero_le _), Nat.le_refl _, ?_⟩
              replace R0 := Lib.hid ((hvb.block _ (by omega)).trans R0.out)
              replace R1 := Lib.hid ((hvb.block _ (by omega)).trans R1.out)
              replace R2 := Lib.hid ((hvb.block _ (by omega)).trans R2.out)
              replace R3 := Lib.hid ((hvb.block _ (by omega)).trans R3.out)
              replace RX := Lib.hid hx
              have hq := own_row_neV OV.out (w.heap.size + 4) (by omega)
              replace OV := Lib.hid (OV.out.kept hg hq)
              replace SV := Lib.hid (SgV.mono (fun _ _ h => h.kept hg (own_row_ne h (w.heap.size + 4) (by omega))) SV.out)
              replace HB := Lib.hid (HB.out.trans (hvb.mono (by omega)))
              have SG := Nat.le_trans SZ hg.size
              replace SZ := SG
              replace S5 := Nat.le_trans S5 hg.size
              clear hg hvb hx hq SG
              refine Tin.reg_two 0 5 _ _ rfl rfl (by kernel_rfl) ?_ ?_
              · try simp only [List.getElem_toArray, List.getElem_cons_succ, List.getElem_cons_zero]
                have kq := row_cell (v := .slice A1 acc.length c1) R0.out 0 rfl
                go_wp2_with fail
                clear kq
                refine ⟨0, Below.refl _ _, Nat.le_refl _, ?_⟩
                refine Tin.reg_one 5 _ rfl (by kernel_rfl) ?_
                try simp only [List.getElem_toArray, List.getElem_cons_succ, List.getElem_cons_zero]
                go_wp2_with fail
                have hv3 := ba (brefl v2) (.cells #[.int .i64 m, .slice B1 d.length k1, .slice B2 s.length k2] 36)
                have hvb := hv3.mono SZ
                have HN := Lib.hid (SlV.new_ v2 36 #[.int .i64 m, .slice B1 d.length k1, .slice B2 s.length k2])
                refine ⟨0, hvb.mono (Nat.zero_le _), Nat.le_refl _, ?_⟩
                replace R0 := Lib.hid ((hvb.block _ (by omega)).trans R0.out)
                replace R1 := Lib.hid ((hvb.block _ (by omega)).trans R1.out)
                replace R2 := Lib.hid ((hvb.block _ (by omega)).trans R2.out)
                replace R3 := Lib.hid ((hvb.block _ (by omega)).trans R3.out)
                replace RX := Lib.hid ((hv3.block _ (by omega)).trans RX.out)
                replace OV := Lib.hid (OV.out.keep hv3)
                replace SV := Lib.hid (SgV.mono (fun _ _ h => h.keep hv3) SV.out)
                replace HD1 := Lib.hid (HD1.out.keep hv3)
                replace HD2 := Lib.hid (HD2.out.keep hv3)
                replace HB := Lib.hid (HB.out.trans (hvb.mono (by omega)))
                have SG := Nat.le_trans SZ hv3.size
                replace SZ := SG
                replace S5 := Nat.le_trans S5 hv3.size
                clear hv3 hvb SG
                generalize (v2.alloc (.cells #[.int .i64 m, .slice B1 d.length k1, .slice B2 s.length k2] 36)) = u3 at *
                refine Tin.reg_one 6 _ rfl (by kernel_rfl) ?_
                try simp only [List.getElem_toArray, List.getElem_cons_succ, List.getElem_cons_zero]
                have hap1 := own_ownv_apart HD1.out OV.out (by decide)
                have hap2 := own_ownv_apart HD2.out OV.out (by decide)
                refine Tin.wplv_app svG _ rfl (.tmp 24) (.tmp 29) rfl (w.heap.size + 5) (.slice A1 acc.length c1) acc.length xs rfl OV.out (some ⟨v2.heap.size, 0, none⟩) 1 1 [.int .i64 m, .slice B1 d.length k1, .slice B2 s.length k2] rfl rfl HN.out (by simp [Value.oneCell']) (by have := HAC.out; omega) (by have := HAC.out; omega) S5 ?_
                intro A4 c4 w4 ho4 hg4 how4
                have hgr : ∀ q, (Value.slice A1 acc.length c1).ownBlock = some q → w.heap.size + 5 ≤ q := fun q hq => (HLO.out q hq).1
                go_wp2_with fail
                have hv4 := OV.out.grown (Below.refl (w.heap.size + 5) u3) S5 hg4
                have hvb := hv4.mono (show w.heap.size + 4 ≤ w.heap.size + 5 by omega)
                refine ⟨0, hvb.mono (Nat.zero_le _), Nat.le_refl _, ?_⟩
                replace R0 := Lib.hid ((hvb.block _ (by omega)).trans R0.out)
                replace R1 := Lib.hid ((hvb.block _ (by omega)).trans R1.out)
                replace R2 := Lib.hid ((hvb.block _ (by omega)).trans R2.out)
                replace R3 := Lib.hid ((hvb.block _ (by omega)).trans R3.out)
                replace RX := Lib.hid ((hv4.block _ (by omega)).trans RX.out)
                have hsv := SgV.app (SgV.mono (fun _ _ h => Own.kept h hg4 (own_ownv_apart h OV.out (by decide))) SV.out) (SgV.one (m := m) (HD1.out.kept hg4 hap1) (HD2.out.kept hg4 hap2))
                replace SV := Lib.hid hsv
                replace OV := Lib.hid ho4
                replace HB := Lib.hid (HB.out.trans (hvb.mono (by omega)))
                clear hv4 hvb hg4 how4 hap1 hap2 hsv ho4 HD1 HD2 HLO hgr HN S5 SZ HSR
                refine Tin.reg_one 7 _ rfl (by kernel_rfl) ?_
                try simp only [List.getElem_toArray, List.getElem_cons_succ, List.getElem_cons_zero]
                have kq := row_cell (v := .slice A1 acc.length c1) R0.out 0 rfl
                have yq := frozen_of_row _ (w.heap.size) 0 _ _ R0.out
                go_wp2_with fail
                clear kq yq
                have hg : w4.grownBy (w4.setCell ⟨w.heap.size, 0, none⟩ (.slice A4 (acc.length + 1) c4)) (some (w.heap.size)) := grown_setCells (w.heap.size) [.slice A4 (acc.length + 1) c4] 0 _ _ (World.grownBy.refl _ _)
                refine ⟨0, bel_grown (Below.refl 0 w4) (Nat.zero_le _) (Nat.zero_le _) hg, Nat.le_refl _, ?_⟩
                replace R0 := Lib.hid (show (w4.setCell ⟨w.heap.size, 0, none⟩ (.slice A4 (acc.length + 1) c4)).heap[w.heap.size]? = some (.cells #[.slice A4 (acc.length + 1) c4] 27 (0, 0)) from row_set R0.out 0 _)
                replace R1 := Lib.hid ((hg.block _ (row_lt R1.out) (fun e => by have := Option.some.inj e; omega)).trans R1.out)
                replace R2 := Lib.hid ((hg.block _ (row_lt R2.out) (fun e => by have := Option.some.inj e; omega)).trans R2.out)
                replace R3 := Lib.hid ((hg.block _ (row_lt R3.out) (fun e => by have := Option.some.inj e; omega)).trans R3.out)
                replace RX := Lib.hid ((hg.block _ (row_lt RX.out) (fun e => by have := Option.some.inj e; omega)).trans RX.out)
                replace HB := Lib.hid (bset HB.out w.heap.size 0 (.slice A4 (acc.length + 1) c4) (Nat.le_refl _))
                have hq := own_row_neV OV.out w.heap.size (by omega)
                replace OV := Lib.hid (OV.out.kept hg hq)
                replace SV := Lib.hid (SgV.mono (fun _ _ h => h.kept hg (own_row_ne h w.heap.size (by omega))) SV.out)
                clear hg hq
                generalize (w4.setCell ⟨w.heap.size, 0, none⟩ (.slice A4 (acc.length + 1) c4)) = w5 at *
                refine Tin.reg_done0 (by kernel_rfl) ?_
                go_wp2_with fail
                have hln : (acc ++ [Sg.mk m d s]).length = acc.length + 1 := by simp
                have hax : atX w w5 = a' := by
                  have h9 := row_cell (v := .int .i64 (a' : Int)) RX.out 1 rfl
                  unfold atX; rw [h9]; rfl
                refine ⟨⟨acc ++ [⟨m, d, s⟩], a', A4, c4, _, ⟨ha'.2, by rw [hln]; have := HAC.out; omega⟩, ⟨by rw [hln]; exact R0.out, R1.out, R2.out, R3.out, RX.out, by rw [hln]; exact OV.out, SV.out, HB.out⟩, ?_⟩, ?_⟩
                · have he : ofR l = if m = 217 then .ok (acc ++ [⟨m, d, s⟩]) a' else lexO l (f - 1) a' (acc ++ [⟨m, d, s⟩]) := by
                    rw [hf'.out]
                    obtain ⟨f', rfl⟩ : ∃ f', f = f' + 1 := ⟨f - 1, by omega⟩
                    simp only [lexO, hr, hr2, Nat.add_sub_cancel]
                  have hlm : lastM (acc ++ [Sg.mk m d s]) = m := by unfold lastM; simp
                  by_cases hm : m = 217
                  · rw [if_pos hm] at he
                    exact .inr ⟨he, by simp, by rw [hlm]; exact hm⟩
                  · rw [if_neg hm] at he
                    exact .inl ⟨f - 1, he, by omega, .inr (by rw [hlm]; exact hm)⟩
                · have h8 : atX w wr = a := HAX.out
                  rw [hax, h8]
                  omega
              · try simp only [List.getElem_toArray, List.getElem_cons_succ, List.getElem_cons_zero]
                go_wp2_with fail
                have hv3 := ba (brefl v2) (.cells #[.int .i64 m, .slice B1 d.length k1, .slice B2 s.length k2] 36)
                have hvb := hv3.mono SZ
                have HN := Lib.hid (SlV.new_ v2 36 #[.int .i64 m, .slice B1 d.length k1, .slice B2 s.length k2])
                refine ⟨0, hvb.mono (Nat.zero_le _), Nat.le_refl _, ?_⟩
                replace R0 := Lib.hid ((hvb.block _ (by omega)).trans R0.out)
                replace R1 := Lib.hid ((hvb.block _ (by omega)).trans R1.out)
                replace R2 := Lib.hid ((hvb.block _ (by omega)).trans R2.out)
                replace R3 := Lib.hid ((hvb.block _ (by omega)).trans R3.out)
                replace RX := Lib.hid ((hv3.block _ (by omega)).trans RX.out)
                replace OV := Lib.hid (OV.out.keep hv3)
                replace SV := Lib.hid (SgV.mono (fun _ _ h => h.keep hv3) SV.out)
                replace HD1 := Lib.hid (HD1.out.keep hv3)
                replace HD2 := Lib.hid (HD2.out.keep hv3)
                replace HB := Lib.hid (HB.out.trans (hvb.mono (by omega)))
                have SG := Nat.le_trans SZ hv3.size
                replace SZ := SG
                replace S5 := Nat.le_trans S5 hv3.size
                clear hv3 hvb SG
                generalize (v2.alloc (.cells #[.int .i64 m, .slice B1 d.length k1, .slice B2 s.length k2] 36)) = u3 at *
                refine Tin.reg_one 0 _ rfl (by kernel_rfl) ?_
                try simp only [List.getElem_toArray, List.getElem_cons_succ, List.getElem_cons_zero]
                have kq := row_cell (v := .slice A1 acc.length c1) R0.out 0 rfl
                go_wp2_with fail
                clear kq
                refine ⟨0, Below.refl _ _, Nat.le_refl _, ?_⟩
                refine Tin.reg_one 6 _ rfl (by kernel_rfl) ?_
                try simp only [List.getElem_toArray, List.getElem_cons_succ, List.getElem_cons_zero]
                have hap1 := own_ownv_apart HD1.out OV.out (by decide)
                have hap2 := own_ownv_apart HD2.out OV.out (by decide)
                refine Tin.wplv_app svG _ rfl (.tmp 24) (.tmp 29) rfl (w.heap.size + 5) (.slice A1 acc.length c1) acc.length xs rfl OV.out (some ⟨v2.heap.size, 0, none⟩) 1 1 [.int .i64 m, .slice B1 d.length k1, .slice B2 s.length k2] rfl rfl HN.out (by simp [Value.oneCell']) (by have := HAC.out; omega) (by have := HAC.out; omega) S5 ?_
                intro A4 c4 w4 ho4 hg4 how4
                have hgr : ∀ q, (Value.slice A1 acc.length c1).ownBlock = some q → w.heap.size + 5 ≤ q := fun q hq => (HLO.out q hq).1
                go_wp2_with fail
                have hv4 := OV.out.grown (Below.refl (w.heap.size + 5) u3) S5 hg4
                have hvb := hv4.mono (show w.heap.size + 4 ≤ w.heap.size + 5 by omega)
                refine ⟨0, hvb.mono (Nat.zero_le _), Nat.le_refl _, ?_⟩
                replace R0 := Lib.hid ((hvb.block _ (by omega)).trans R0.out)
                replace R1 := Lib.hid ((hvb.block _ (by omega)).trans R1.out)
                replace R2 := Lib.hid ((hvb.block _ (by omega)).trans R2.out)
                replace R3 := Lib.hid ((hvb.block _ (by omega)).trans R3.out)
                replace RX := Lib.hid ((hv4.block _ (by omega)).trans RX.out)
                have hsv := SgV.app (SgV.mono (fun _ _ h => Own.kept h hg4 (own_ownv_apart h OV.out (by decide))) SV.out) (SgV.one (m := m) (HD1.out.kept hg4 hap1) (HD2.out.kept hg4 hap2))
                replace SV := Lib.hid hsv
                replace OV := Lib.hid ho4
                replace HB := Lib.hid (HB.out.trans (hvb.mono (by omega)))
                clear hv4 hvb hg4 how4 hap1 hap2 hsv ho4 HD1 HD2 HLO hgr HN S5 SZ HSR
                refine Tin.reg_one 7 _ rfl (by kernel_rfl) ?_
                try simp only [List.getElem_toArray, List.getElem_cons_succ, List.getElem_cons_zero]
                have kq := row_cell (v := .slice A1 acc.length c1) R0.out 0 rfl
                have yq := frozen_of_row _ (w.heap.size) 0 _ _ R0.out
                go_wp2_with fail
                clear kq yq
                have hg : w4.grownBy (w4.setCell ⟨w.heap.size, 0, none⟩ (.slice A4 (acc.length + 1) c4)) (some (w.heap.size)) := grown_setCells (w.heap.size) [.slice A4 (acc.length + 1) c4] 0 _ _ (World.grownBy.refl _ _)
                refine ⟨0, bel_grown (Below.refl 0 w4) (Nat.zero_le _) (Nat.zero_le _) hg, Nat.le_refl _, ?_⟩
                replace R0 := Lib.hid (show (w4.setCell ⟨w.heap.size, 0, none⟩ (.slice A4 (acc.length + 1) c4)).heap[w.heap.size]? = some (.cells #[.slice A4 (acc.length + 1) c4] 27 (0, 0)) from row_set R0.out 0 _)
                replace R1 := Lib.hid ((hg.block _ (row_lt R1.out) (fun e => by have := Option.some.inj e; omega)).trans R1.out)
                replace R2 := Lib.hid ((hg.block _ (row_lt R2.out) (fun e => by have := Option.some.inj e; omega)).trans R2.out)
                replace R3 := Lib.hid ((hg.block _ (row_lt R3.out) (fun e => by have := Option.some.inj e; omega)).trans R3.out)
                replace RX := Lib.hid ((hg.block _ (row_lt RX.out) (fun e => by have := Option.some.inj e; omega)).trans RX.out)
                replace HB := Lib.hid (bset HB.out w.heap.size 0 (.slice A4 (acc.length + 1) c4) (Nat.le_refl _))
                have hq := own_row_neV OV.out w.heap.size (by omega)
                replace OV := Lib.hid (OV.out.kept hg hq)
                replace SV := Lib.hid (SgV.mono (fun _ _ h => h.kept hg (own_row_ne h w.heap.size (by omega))) SV.out)
                clear hg hq
                generalize (w4.setCell ⟨w.heap.size, 0, none⟩ (.slice A4 (acc.length + 1) c4)) = w5 at *
                refine Tin.reg_done0 (by kernel_rfl) ?_
                go_wp2_with fail
                have hln : (acc ++ [Sg.mk m d s]).length = acc.length + 1 := by simp
                have hax : atX w w5 = a' := by
                  have h9 := row_cell (v := .int .i64 (a' : Int)) RX.out 1 rfl
                  unfold atX; rw [h9]; rfl
                refine ⟨⟨acc ++ [⟨m, d, s⟩], a', A4, c4, _, ⟨ha'.2, by rw [hln]; have := HAC.out; omega⟩, ⟨by rw [hln]; exact R0.out, R1.out, R2.out, R3.out, RX.out, by rw [hln]; exact OV.out, SV.out, HB.out⟩, ?_⟩, ?_⟩
                · have he : ofR l = if m = 217 then .ok (acc ++ [⟨m, d, s⟩]) a' else lexO l (f - 1) a' (acc ++ [⟨m, d, s⟩]) := by
                    rw [hf'.out]
                    obtain ⟨f', rfl⟩ : ∃ f', f = f' + 1 := ⟨f - 1, by omega⟩
                    simp only [lexO, hr, hr2, Nat.add_sub_cancel]
                  have hlm : lastM (acc ++ [Sg.mk m d s]) = m := by unfold lastM; simp
                  by_cases hm : m = 217
                  · rw [if_pos hm] at he
                    exact .inr ⟨he, by simp, by rw [hlm]; exact hm⟩
                  · rw [if_neg hm] at he
                    exact .inl ⟨f - 1, he, by omega, .inr (by rw [hlm]; exact hm)⟩
                · have h8 : atX w wr = a := HAX.out
                  rw [hax, h8]
                  omega
    · have d0 : ((acc.length : Int) == 0) = false := by rw [beq_eq_false_iff_ne]; omega
      obtain ⟨q, rfl, hlc, hlc1, hlm⟩ := HLAST.out hz
      have hn : (lastM acc == 217) = false := by
        rcases hrun with h | h
        · subst h; simp at hz
        · rw [beq_eq_false_iff_ne]; exact h
      unfold maxLen at hlm
      have t1 : ((acc.length : Int) - 1).toNat = acc.length - 1 := by omega
      clear HLAST
      obtain ⟨lm, hlmE⟩ : ∃ lm, lastM acc = lm := ⟨_, rfl⟩
      rw [hlmE] at hlc hn
      go_wp2_with fail
      clear hlc hn t1
      obtain ⟨A1, hA1⟩ : ∃ A1 : Option Addr, A1 = some ⟨q, 0, none⟩ := ⟨_, rfl⟩
      simp only [← hA1] at *
      clear d0
      replace hz := Lib.hid hz
      have R0 := Lib.hid HO.out.r2
      have R1 := Lib.hid HO.out.r3
      have R2 := Lib.hid HO.out.r4
      have R3 := Lib.hid HO.out.r5
      have RX := Lib.hid HO.out.rx
      have OV := Lib.hid HO.out.own
      have SV := Lib.hid HO.out.segs
      have HB := Lib.hid HO.out.bel
      have HSR := Lib.hid (HS0.out.keep (HB.out.mono (Nat.le_refl _)))
      have HAX := Lib.hid (show atX w wr = a by
        have h9 := row_cell (v := .int .i64 (a : Int)) RX.out 1 rfl
        unfold atX; rw [h9]; rfl)
      clear HO kq
      refine Tin.reg_begin0 0 8 rfl (by kernel_rfl) ?_
      refine Tin.reg_quiets0 keepR [1, 2] _ 6 rfl (by simp only [Tin.pick, List.map_cons, List.map_nil, Array.getD_eq_getD_getElem?, List.getElem?_toArray, List.getElem?_cons_zero, List.getElem?_cons_succ, Option.getD_some]; rfl) (by kernel_rfl) (by kernel_rfl) (by kernel_rfl) ?_ ?_
      · intro c a' d v w' hk h
        exact leaves_tmps (t := (a'.put (some d) v).tmps) (t' := a'.tmps) (res_keep _ _ _ hk) _ _ _ h
      repeat (first | go_big_quiet_step (fail))
      refine wpQuiet_nil ?_
      have SZ : w.heap.size + 4 ≤ wr.drew.heap.size := Nat.le_of_lt (row_lt RX.out)
      replace HB := Lib.hid (ud' HB.out)
      replace R0 := Lib.hid (show wr.drew.heap[w.heap.size]? = _ from R0.out)
      replace R1 := Lib.hid (show wr.drew.heap[w.heap.size + 1]? = _ from R1.out)
      replace R2 := Lib.hid (show wr.drew.heap[w.heap.size + 2]? = _ from R2.out)
      replace R3 := Lib.hid (show wr.drew.heap[w.heap.size + 3]? = _ from R3.out)
      replace RX := Lib.hid (show wr.drew.heap[w.heap.size + 4]? = _ from RX.out)
      replace OV := Lib.hid OV.out.drew
      replace SV := Lib.hid (SgV.mono (fun _ _ h => Own.drew h) SV.out)
      replace HSR := Lib.hid (show Sl .u8 wr.drew A l from HSR.out)
      have hf' := Lib.hid hf
      have hrun' := Lib.hid hrun
      have HAC := Lib.hid hac
      clear hac
      refine Tin.reg_two 0 3 _ _ rfl rfl (by kernel_rfl) ?_ ?_
      · try simp only [List.getElem_toArray, List.getElem_cons_succ, List.getElem_cons_zero]
        have kq := row_cell (v := .slice A1 acc.length c1) R0.out 0 rfl
        go_wp2_with fail
        clear kq
        refine ⟨0, Below.refl _ _, Nat.le_refl _, ?_⟩
        refine Tin.reg_one 3 _ rfl (by kernel_rfl) ?_
        try simp only [List.getElem_toArray, List.getElem_cons_succ, List.getElem_cons_zero]
        go_wp2_with fail
        refine (mk_any (w.heap.size + 4) A l cap a _ RX.out HSR.out (by omega) HBY.out ha).mono ?_
        intro e v1 hv
        obtain ⟨r, hr⟩ : ∃ r, lexM l a = r := ⟨_, rfl⟩
        rw [hr] at hv
        cases r with
        | err p q0 =>
          obtain ⟨rfl, hb⟩ := hv
          go_wp2_with fail
          have hvb := hb.mono SZ
          refine leaves_cons (f := 33) (args := #[.pointer (some ⟨w.heap.size, 0, none⟩), .pointer (some ⟨w.heap.size + 1, 0, none⟩), .pointer (some ⟨w.heap.size + 2, 0, none⟩), .pointer (some ⟨w.heap.size + 3, 0, none⟩)]) nofun rfl ?_
          refine CallsD.mono (catch_p w.heap.size (.slice A1 acc.length c1) 0 0 0 p q0 [] v1 ((hvb.block _ (by omega)).trans R0.out) ((hvb.block _ (by omega)).trans R1.out) ((hvb.block _ (by omega)).trans R2.out) ((hvb.block _ (by omega)).trans R3.out)) ?_
          rintro e u' w' ⟨rfl, rfl, z0, z1, z2, z3, hb2⟩
          refine ⟨.tuple #[.slice none 0 0, .int .i64 0, .int .i64 p, .int .i64 q0], ?_, ?_⟩
          · simp [results, Try.results22, go_sem, row_cell z0 0 rfl, row_cell z1 0 rfl, row_cell z2 0 rfl, row_cell z3 0 rfl]
          have he : ofR l = .err p q0 := by
            rw [hf'.out]
            obtain ⟨f', rfl⟩ : ∃ f', f = f' + 1 := ⟨f - 1, by omega⟩
            simp only [lexO, hr]
          rw [he]
          exact ⟨rfl, (HB.out.trans (hvb.mono (by omega))).trans hb2⟩
        | ok m =>
          obtain ⟨rfl, hx, hg⟩ := hv
          have HM := Lib.hid (lexM_ok hr)
          have hvb := bel_grown (Below.refl (w.heap.size + 4) wr.drew) (Nat.le_refl _) SZ hg
          go_wp2_with fail
          refine ⟨0, hvb.mono (Nat.zero_le _), Nat.le_refl _, ?_⟩
          replace R0 := Lib.hid ((hvb.block _ (by omega)).trans R0.out)
          replace R1 := Lib.hid ((hvb.block _ (by omega)).trans R1.out)
          replace R2 := Lib.hid ((hvb.block _ (by omega)).trans R2.out)
          replace R3 := Lib.hid ((hvb.block _ (by omega)).trans R3.out)
          have hx2 : v1.heap[w.heap.size + 4]? = some (.cells (lrow A l.length cap ((a + 2 : Nat) : Int)) 57 (0, 0)) := by rw [Int.natCast_add]; exact hx
          replace RX := Lib.hid hx2
          clear hx2
          have hq := own_row_neV OV.out (w.heap.size + 4) (by omega)
          replace OV := Lib.hid (OV.out.kept hg hq)
          replace SV := Lib.hid (SgV.mono (fun _ _ h => h.kept hg (own_row_ne h (w.heap.size + 4) (by omega))) SV.out)
          replace HB := Lib.hid (HB.out.trans (hvb.mono (by omega)))
          replace HSR := Lib.hid (HS0.out.keep (HB.out.mono (Nat.le_refl _)))
          have SG := Nat.le_trans SZ hg.size
          replace SZ := SG
          clear hg hvb hx hq SG
          refine Tin.reg_one 4 _ rfl (by kernel_rfl) ?_
          try simp only [List.getElem_toArray, List.getElem_cons_succ, List.getElem_cons_zero]
          go_wp2_with fail
          have ha2 : a + 2 ≤ l.length := HM.out.1
          have hne : ∀ x, A = some x → x.block ≠ w.heap.size + 4 := by
            intro x hA
            obtain ⟨b, off, hA2, hb2, _⟩ := HS0.out.at_ (by omega)
            rw [hA] at hA2
            injection hA2 with hA2
            subst hA2
            show b ≠ w.heap.size + 4
            omega
          refine (sg_any (w.heap.size + 4) A l cap (a + 2) m _ RX.out HSR.out hcap (by omega) HBY.out (by omega) hne).mono ?_
          intro e v2 hv
          obtain ⟨r, hr2⟩ : ∃ r, lexS l (a + 2) m = r := ⟨_, rfl⟩
          rw [hr2] at hv
          cases r with
          | err p q0 =>
            obtain ⟨rfl, hb⟩ := hv
            go_wp2_with fail
            have hvb := hb.mono SZ
            refine leaves_cons (f := 33) (args := #[.pointer (some ⟨w.heap.size, 0, none⟩), .pointer (some ⟨w.heap.size + 1, 0, none⟩), .pointer (some ⟨w.heap.size + 2, 0, none⟩), .pointer (some ⟨w.heap.size + 3, 0, none⟩)]) nofun rfl ?_
            refine CallsD.mono (catch_p w.heap.size (.slice A1 acc.length c1) 0 0 0 p q0 [] v2 ((hvb.block _ (by omega)).trans R0.out) ((hvb.block _ (by omega)).trans R1.out) ((hvb.block _ (by omega)).trans R2.out) ((hvb.block _ (by omega)).trans R3.out)) ?_
            rintro e u' w' ⟨rfl, rfl, z0, z1, z2, z3, hb2⟩
            refine ⟨.tuple #[.slice none 0 0, .int .i64 0, .int .i64 p, .int .i64 q0], ?_, ?_⟩
            · simp [results, Try.results22, go_sem, row_cell z0 0 rfl, row_cell z1 0 rfl, row_cell z2 0 rfl, row_cell z3 0 rfl]
            have he : ofR l = .err p q0 := by
              rw [hf'.out]
              obtain ⟨f', rfl⟩ : ∃ f', f = f' + 1 := ⟨f - 1, by omega⟩
              simp only [lexO, hr, hr2]
            rw [he]
            exact ⟨rfl, (HB.out.trans (hvb.mono (by omega))).trans hb2⟩
          | ok d s a' =>
            obtain ⟨B1, k1, B2, k2, rfl, ho1, ho2, hx, hg⟩ := hv
            have ha' := lexS_le (a := a + 2) ha2 hr2
            have S5 : w.heap.size + 5 ≤ v1.heap.size := row_lt RX.out
            have HD1 := Lib.hid (ho1.mono S5)
            have HD2 := Lib.hid (ho2.mono S5)
            have HLO := Lib.hid (OV.out.low)
            clear ho1 ho2
            go_wp2_with fail
            have hvb := bel_grown (Below.refl (w.heap.size + 4) v1) (Nat.le_refl _) SZ hg
            refine ⟨0, hvb.mono (Nat.zero_le _), Nat.le_refl _, ?_⟩
            replace R0 := Lib.hid ((hvb.block _ (by omega)).trans R0.out)
            replace R1 := Lib.hid ((hvb.block _ (by omega)).trans R1.out)
            replace R2 := Lib.hid ((hvb.block _ (by omega)).trans R2.out)
            replace R3 := Lib.hid ((hvb.block _ (by omega)).trans R3.out)
            replace RX := Lib.hid hx
            have hq := own_row_neV OV.out (w.heap.size + 4) (by omega)
            replace OV := Lib.hid (OV.out.kept hg hq)
            replace SV := Lib.hid (SgV.mono (fun _ _ h => h.kept hg (own_row_ne h (w.heap.size + 4) (by omega))) SV.out)
            replace HB := Lib.hid (HB.out.trans (hvb.mono (by omega)))
            have SG := Nat.le_trans SZ hg.size
            replace SZ := SG
            replace S5 := Nat.le_trans S5 hg.size
            clear hg hvb hx hq SG
            refine Tin.reg_one 5 _ rfl (by kernel_rfl) ?_
            try simp only [List.getElem_toArray, List.getElem_cons_succ, List.getElem_cons_zero]
            go_wp2_with fail
            have hv3 := ba (brefl v2) (.cells #[.int .i64 m, .slice B1 d.length k1, .slice B2 s.length k2] 36)
            have hvb := hv3.mono SZ
            have HN := Lib.hid (SlV.new_ v2 36 #[.int .i64 m, .slice B1 d.length k1, .slice B2 s.length k2])
            refine ⟨0, hvb.mono (Nat.zero_le _), Nat.le_refl _, ?_⟩
            replace R0 := Lib.hid ((hvb.block _ (by omega)).trans R0.out)
            replace R1 := Lib.hid ((hvb.block _ (by omega)).trans R1.out)
            replace R2 := Lib.hid ((hvb.block _ (by omega)).trans R2.out)
            replace R3 := Lib.hid ((hvb.block _ (by omega)).trans R3.out)
            replace RX := Lib.hid ((hv3.block _ (by omega)).trans RX.out)
            replace OV := Lib.hid (OV.out.keep hv3)
            replace SV := Lib.hid (SgV.mono (fun _ _ h => h.keep hv3) SV.out)
            replace HD1 := Lib.hid (HD1.out.keep hv3)
            replace HD2 := Lib.hid (HD2.out.keep hv3)
            replace HB := Lib.hid (HB.out.trans (hvb.mono (by omega)))
            have SG := Nat.le_trans SZ hv3.size
            replace SZ := SG
            replace S5 := Nat.le_trans S5 hv3.size
            clear hv3 hvb SG
            generalize (v2.alloc (.cells #[.int .i64 m, .slice B1 d.length k1, .slice B2 s.length k2] 36)) = u3 at *
            refine Tin.reg_one 6 _ rfl (by kernel_rfl) ?_
            try simp only [List.getElem_toArray, List.getElem_cons_succ, List.getElem_cons_zero]
            have hap1 := own_ownv_apart HD1.out OV.out (by decide)
            have hap2 := own_ownv_apart HD2.out OV.out (by decide)
            refine Tin.wplv_app svG _ rfl (.tmp 24) (.tmp 29) rfl (w.heap.size + 5) (.slice A1 acc.length c1) acc.length xs rfl OV.out (some ⟨v2.heap.size, 0, none⟩) 1 1 [.int .i64 m, .slice B1 d.length k1, .slice B2 s.length k2] rfl rfl HN.out (by simp [Value.oneCell']) (by have := HAC.out; omega) (by have := HAC.out; omega) S5 ?_
            intro A4 c4 w4 ho4 hg4 how4
            have hgr : ∀ q, (Value.slice A1 acc.length c1).ownBlock = some q → w.heap.size + 5 ≤ q := fun q hq => (HLO.out q hq).1
            go_wp2_with fail
            have hv4 := OV.out.grown (Below.refl (w.heap.size + 5) u3) S5 hg4
            have hvb := hv4.mono (show w.heap.size + 4 ≤ w.heap.size + 5 by omega)
            refine ⟨0, hvb.mono (Nat.zero_le _), Nat.le_refl _, ?_⟩
            replace R0 := Lib.hid ((hvb.block _ (by omega)).trans R0.out)
            replace R1 := Lib.hid ((hvb.block _ (by omega)).trans R1.out)
            replace R2 := Lib.hid ((hvb.block _ (by omega)).trans R2.out)
            replace R3 := Lib.hid ((hvb.block _ (by omega)).trans R3.out)
            replace RX := Lib.hid ((hv4.block _ (by omega)).trans RX.out)
            have hsv := SgV.app (SgV.mono (fun _ _ h => Own.kept h hg4 (own_ownv_apart h OV.out (by decide))) SV.out) (SgV.one (m := m) (HD1.out.kept hg4 hap1) (HD2.out.kept hg4 hap2))
            replace SV := Lib.hid hsv
            replace OV := Lib.hid ho4
            replace HB := Lib.hid (HB.out.trans (hvb.mono (by omega)))
            clear hv4 hvb hg4 how4 hap1 hap2 hsv ho4 HD1 HD2 HLO hgr HN S5 SZ HSR
            refine Tin.reg_one 7 _ rfl (by kernel_rfl) ?_
            try simp only [List.getElem_toArray, List.getElem_cons_succ, List.getElem_cons_zero]
            have kq := row_cell (v := .slice A1 acc.length c1) R0.out 0 rfl
            have yq := frozen_of_row _ (w.heap.size) 0 _ _ R0.out
            go_wp2_with fail
            clear kq yq
            have hg : w4.grownBy (w4.setCell ⟨w.heap.size, 0, none⟩ (.slice A4 (acc.length + 1) c4)) (some (w.heap.size)) := grown_setCells (w.heap.size) [.slice A4 (acc.length + 1) c4] 0 _ _ (World.grownBy.refl _ _)
            refine ⟨0, bel_grown (Below.refl 0 w4) (Nat.zero_le _) (Nat.zero_le _) hg, Nat.le_refl _, ?_⟩
            replace R0 := Lib.hid (show (w4.setCell ⟨w.heap.size, 0, none⟩ (.slice A4 (acc.length + 1) c4)).heap[w.heap.size]? = some (.cells #[.slice A4 (acc.length + 1) c4] 27 (0, 0)) from row_set R0.out 0 _)
            replace R1 := Lib.hid ((hg.block _ (row_lt R1.out) (fun e => by have := Option.some.inj e; omega)).trans R1.out)
            replace R2 := Lib.hid ((hg.block _ (row_lt R2.out) (fun e => by have := Option.some.inj e; omega)).trans R2.out)
            replace R3 := Lib.hid ((hg.block _ (row_lt R3.out) (fun e => by have := Option.some.inj e; omega)).trans R3.out)
            replace RX := Lib.hid ((hg.block _ (row_lt RX.out) (fun e => by have := Option.some.inj e; omega)).trans RX.out)
            replace HB := Lib.hid (bset HB.out w.heap.size 0 (.slice A4 (acc.length + 1) c4) (Nat.le_refl _))
            have hq := own_row_neV OV.out w.heap.size (by omega)
            replace OV := Lib.hid (OV.out.kept hg hq)
            replace SV := Lib.hid (SgV.mono (fun _ _ h => h.kept hg (own_row_ne h w.heap.size (by omega))) SV.out)
            clear hg hq
            generalize (w4.setCell ⟨w.heap.size, 0, none⟩ (.slice A4 (acc.length + 1) c4)) = w5 at *
            refine Tin.reg_done0 (by kernel_rfl) ?_
            go_wp2_with fail
            have hln : (acc ++ [Sg.mk m d s]).length = acc.length + 1 := by simp
            have hax : atX w w5 = a' := by
              have h9 := row_cell (v := .int .i64 (a' : Int)) RX.out 1 rfl
              unfold atX; rw [h9]; rfl
            refine ⟨⟨acc ++ [⟨m, d, s⟩], a', A4, c4, _, ⟨ha'.2, by rw [hln]; have := HAC.out; omega⟩, ⟨by rw [hln]; exact R0.out, R1.out, R2.out, R3.out, RX.out, by rw [hln]; exact OV.out, SV.out, HB.out⟩, ?_⟩, ?_⟩
            · have he : ofR l = if m = 217 then .ok (acc ++ [⟨m, d, s⟩]) a' else lexO l (f - 1) a' (acc ++ [⟨m, d, s⟩]) := by
                rw [hf'.out]
                obtain ⟨f', rfl⟩ : ∃ f', f = f' + 1 := ⟨f - 1, by omega⟩
                simp only [lexO, hr, hr2, Nat.add_sub_cancel]
              have hlm : lastM (acc ++ [Sg.mk m d s]) = m := by unfold lastM; simp
              by_cases hm : m = 217
              · rw [if_pos hm] at he
                exact .inr ⟨he, by simp, by rw [hlm]; exact hm⟩
              · rw [if_neg hm] at he
                exact .inl ⟨f - 1, he, by omega, .inr (by rw [hlm]; exact hm)⟩
            · have h8 : atX w wr = a := HAX.out
              rw [hax, h8]
              omega
      · try simp only [List.getElem_toArray, List.getElem_cons_succ, List.getElem_cons_zero]
        go_wp2_with fail
        refine (mk_any (w.heap.size + 4) A l cap a _ RX.out HSR.out (by omega) HBY.out ha).mono ?_
        intro e v1 hv
        obtain ⟨r, hr⟩ : ∃ r, lexM l a = r := ⟨_, rfl⟩
        rw [hr] at hv
        cases r with
        | err p q0 =>
          obtain ⟨rfl, hb⟩ := hv
          go_wp2_with fail
          have hvb := hb.mono SZ
          refine leaves_cons (f := 33) (args := #[.pointer (some ⟨w.heap.size, 0, none⟩), .pointer (some ⟨w.heap.size + 1, 0, none⟩), .pointer (some ⟨w.heap.size + 2, 0, none⟩), .pointer (some ⟨w.heap.size + 3, 0, none⟩)]) nofun rfl ?_
          refine CallsD.mono (catch_p w.heap.size (.slice A1 acc.length c1) 0 0 0 p q0 [] v1 ((hvb.block _ (by omega)).trans R0.out) ((hvb.block _ (by omega)).trans R1.out) ((hvb.block _ (by omega)).trans R2.out) ((hvb.block _ (by omega)).trans R3.out)) ?_
          rintro e u' w' ⟨rfl, rfl, z0, z1, z2, z3, hb2⟩
          refine ⟨.tuple #[.slice none 0 0, .int .i64 0, .int .i64 p, .int .i64 q0], ?_, ?_⟩
          · simp [results, Try.results22, go_sem, row_cell z0 0 rfl, row_cell z1 0 rfl, row_cell z2 0 rfl, row_cell z3 0 rfl]
          have he : ofR l = .err p q0 := by
            rw [hf'.out]
            obtain ⟨f', rfl⟩ : ∃ f', f = f' + 1 := ⟨f - 1, by omega⟩
            simp only [lexO, hr]
          rw [he]
          exact ⟨rfl, (HB.out.trans (hvb.mono (by omega))).trans hb2⟩
        | ok m =>
          obtain ⟨rfl, hx, hg⟩ := hv
          have HM := Lib.hid (lexM_ok hr)
          have hvb := bel_grown (Below.refl (w.heap.size + 4) wr.drew) (Nat.le_refl _) SZ hg
          go_wp2_with fail
          refine ⟨0, hvb.mono (Nat.zero_le _), Nat.le_refl _, ?_⟩
          replace R0 := Lib.hid ((hvb.block _ (by omega)).trans R0.out)
          replace R1 := Lib.hid ((hvb.block _ (by omega)).trans R1.out)
          replace R2 := Lib.hid ((hvb.block _ (by omega)).trans R2.out)
          replace R3 := Lib.hid ((hvb.block _ (by omega)).trans R3.out)
          have hx2 : v1.heap[w.heap.size + 4]? = some (.cells (lrow A l.length cap ((a + 2 : Nat) : Int)) 57 (0, 0)) := by rw [Int.natCast_add]; exact hx
          replace RX := Lib.hid hx2
          clear hx2
          have hq := own_row_neV OV.out (w.heap.size + 4) (by omega)
          replace OV := Lib.hid (OV.out.kept hg hq)
          replace SV := Lib.hid (SgV.mono (fun _ _ h => h.kept hg (own_row_ne h (w.heap.size + 4) (by omega))) SV.out)
          replace HB := Lib.hid (HB.out.trans (hvb.mono (by omega)))
          replace HSR := Lib.hid (HS0.out.keep (HB.out.mono (Nat.le_refl _)))
          have SG := Nat.le_trans SZ hg.size
          replace SZ := SG
          clear hg hvb hx hq SG
          refine Tin.reg_two 0 4 _ _ rfl rfl (by kernel_rfl) ?_ ?_
          · try simp only [List.getElem_toArray, List.getElem_cons_succ, List.getElem_cons_zero]
            have kq := row_cell (v := .slice A1 acc.length c1) R0.out 0 rfl
            go_wp2_with fail
            clear kq
            refine ⟨0, Below.refl _ _, Nat.le_refl _, ?_⟩
            refine Tin.reg_one 4 _ rfl (by kernel_rfl) ?_
            try simp only [List.getElem_toArray, List.getElem_cons_succ, List.getElem_cons_zero]
            go_wp2_with fail
            have ha2 : a + 2 ≤ l.length := HM.out.1
            have hne : ∀ x, A = some x → x.block ≠ w.heap.size + 4 := by
              intro x hA
              obtain ⟨b, off, hA2, hb2, _⟩ := HS0.out.at_ (by omega)
              rw [hA] at hA2
              injection hA2 with hA2
              subst hA2
              show b ≠ w.heap.size + 4
              omega
            refine (sg_any (w.heap.size + 4) A l cap (a + 2) m _ RX.out HSR.out hcap (by omega) HBY.out (by omega) hne).mono ?_
            intro e v2 hv
            obtain ⟨r, hr2⟩ : ∃ r, lexS l (a + 2) m = r := ⟨_, rfl⟩
            rw [hr2] at hv
            cases r with
            | err p q0 =>
              obtain ⟨rfl, hb⟩ := hv
              go_wp2_with fail
              have hvb := hb.mono SZ
              refine leaves_cons (f := 33) (args := #[.pointer (some ⟨w.heap.size, 0, none⟩), .pointer (some ⟨w.heap.size + 1, 0, none⟩), .pointer (some ⟨w.heap.size + 2, 0, none⟩), .pointer (some ⟨w.heap.size + 3, 0, none⟩)]) nofun rfl ?_
              refine CallsD.mono (catch_p w.heap.size (.slice A1 acc.length c1) 0 0 0 p q0 [] v2 ((hvb.block _ (by omega)).trans R0.out) ((hvb.block _ (by omega)).trans R1.out) ((hvb.block _ (by omega)).trans R2.out) ((hvb.block _ (by omega)).trans R3.out)) ?_
              rintro e u' w' ⟨rfl, rfl, z0, z1, z2, z3, hb2⟩
              refine ⟨.tuple #[.slice none 0 0, .int .i64 0, .int .i64 p, .int .i64 q0], ?_, ?_⟩
              · simp [results, Try.results22, go_sem, row_cell z0 0 rfl, row_cell z1 0 rfl, row_cell z2 0 rfl, row_cell z3 0 rfl]
              have he : ofR l = .err p q0 := by
                rw [hf'.out]
                obtain ⟨f', rfl⟩ : ∃ f', f = f' + 1 := ⟨f - 1, by omega⟩
                simp only [lexO, hr, hr2]
              rw [he]
              exact ⟨rfl, (HB.out.trans (hvb.mono (by omega))).trans hb2⟩
            | ok d s a' =>
              obtain ⟨B1, k1, B2, k2, rfl, ho1, ho2, hx, hg⟩ := hv
              have ha' := lexS_le (a := a + 2) ha2 hr2
              have S5 : w.heap.size + 5 ≤ v1.heap.size := row_lt RX.out
              have HD1 := Lib.hid (ho1.mono S5)
              have HD2 := Lib.hid (ho2.mono S5)
              have HLO := Lib.hid (OV.out.low)
              clear ho1 ho2
              go_wp2_with fail
              have hvb := bel_grown (Below.refl (w.heap.size + 4) v1) (Nat.le_refl _) SZ hg
              refine ⟨0, hvb.mono (Nat.zero_le _), Nat.le_refl _, ?_⟩
              replace R0 := Lib.hid ((hvb.block _ (by omega)).trans R0.out)
              replace R1 := Lib.hid ((hvb.block _ (by omega)).trans R1.out)
              replace R2 := Lib.hid ((hvb.block _ (by omega)).trans R2.out)
              replace R3 := Lib.hid ((hvb.block _ (by omega)).trans R3.out)
              replace RX := Lib.hid hx
              have hq := own_row_neV OV.out (w.heap.size + 4) (by omega)
              replace OV := Lib.hid (OV.out.kept hg hq)
              replace SV := Lib.hid (SgV.mono (fun _ _ h => h.kept hg (own_row_ne h (w.heap.size + 4) (by omega))) SV.out)
              replace HB := Lib.hid (HB.out.trans (hvb.mono (by omega)))
              have SG := Nat.le_trans SZ hg.size
              replace SZ := SG
              replace S5 := Nat.le_trans S5 hg.size
              clear hg hvb hx hq SG
              refine Tin.reg_one 5 _ rfl (by kernel_rfl) ?_
              try simp only [List.getElem_toArray, List.getElem_cons_succ, List.getElem_cons_zero]
              go_wp2_with fail
              have hv3 := ba (brefl v2) (.cells #[.int .i64 m, .slice B1 d.length k1, .slice B2 s.length k2] 36)
              have hvb := hv3.mono SZ
              have HN := Lib.hid (SlV.new_ v2 36 #[.int .i64 m, .slice B1 d.length k1, .slice B2 s.length k2])
              refine ⟨0, hvb.mono (Nat.zero_le _), Nat.le_refl _, ?_⟩
              replace R0 := Lib.hid ((hvb.block _ (by omega)).trans R0.out)
              replace R1 := Lib.hid ((hvb.block _ (by omega)).trans R1.out)
              replace R2 := Lib.hid ((hvb.block _ (by omega)).trans R2.out)
              replace R3 := Lib.hid ((hvb.block _ (by omega)).trans R3.out)
              replace RX := Lib.hid ((hv3.block _ (by omega)).trans RX.out)
              replace OV := Lib.hid (OV.out.keep hv3)
              replace SV := Lib.hid (SgV.mono (fun _ _ h => h.keep hv3) SV.out)
              replace HD1 := Lib.hid (HD1.out.keep hv3)
              replace HD2 := Lib.hid (HD2.out.keep hv3)
              replace HB := Lib.hid (HB.out.trans (hvb.mono (by omega)))
              have SG := Nat.le_trans SZ hv3.size
              replace SZ := SG
              replace S5 := Nat.le_trans S5 hv3.size
              clear hv3 hvb SG
              generalize (v2.alloc (.cells #[.int .i64 m, .slice B1 d.length k1, .slice B2 s.length k2] 36)) = u3 at *
              refine Tin.reg_one 6 _ rfl (by kernel_rfl) ?_
              try simp only [List.getElem_toArray, List.getElem_cons_succ, List.getElem_cons_zero]
              have hap1 := own_ownv_apart HD1.out OV.out (by decide)
              have hap2 := own_ownv_apart HD2.out OV.out (by decide)
              refine Tin.wplv_app svG _ rfl (.tmp 24) (.tmp 29) rfl (w.heap.size + 5) (.slice A1 acc.length c1) acc.length xs rfl OV.out (some ⟨v2.heap.size, 0, none⟩) 1 1 [.int .i64 m, .slice B1 d.length k1, .slice B2 s.length k2] rfl rfl HN.out (by simp [Value.oneCell']) (by have := HAC.out; omega) (by have := HAC.out; omega) S5 ?_
              intro A4 c4 w4 ho4 hg4 how4
              have hgr : ∀ q, (Value.slice A1 acc.length c1).ownBlock = some q → w.heap.size + 5 ≤ q := fun q hq => (HLO.out q hq).1
              go_wp2_with fail
              have hv4 := OV.out.grown (Below.refl (w.heap.size + 5) u3) S5 hg4
              have hvb := hv4.mono (show w.heap.size + 4 ≤ w.heap.size + 5 by omega)
              refine ⟨0, hvb.mono (Nat.zero_le _), Nat.le_refl _, ?_⟩
              replace R0 := Lib.hid ((hvb.block _ (by omega)).trans R0.out)
              replace R1 := Lib.hid ((hvb.block _ (by omega)).trans R1.out)
              replace R2 := Lib.hid ((hvb.block _ (by omega)).trans R2.out)
              replace R3 := Lib.hid ((hvb.block _ (by omega)).trans R3.out)
              replace RX := Lib.hid ((hv4.block _ (by omega)).trans RX.out)
              have hsv := SgV.app (SgV.mono (fun _ _ h => Own.kept h hg4 (own_ownv_apart h OV.out (by decide))) SV.out) (SgV.one (m := m) (HD1.out.kept hg4 hap1) (HD2.out.kept hg4 hap2))
              replace SV := Lib.hid hsv
              replace OV := Lib.hid ho4
              replace HB := Lib.hid (HB.out.trans (hvb.mono (by omega)))
              clear hv4 hvb hg4 how4 hap1 hap2 hsv ho4 HD1 HD2 HLO hgr HN S5 SZ HSR
              refine Tin.reg_one 7 _ rfl (by kernel_rfl) ?_
              try simp only [List.getElem_toArray, List.getElem_cons_succ, List.getElem_cons_zero]
              have kq := row_cell (v := .slice A1 acc.length c1) R0.out 0 rfl
              have yq := frozen_of_row _ (w.heap.size) 0 _ _ R0.out
              go_wp2_with fail
              clear kq yq
              have hg : w4.grownBy (w4.setCell ⟨w.heap.size, 0, none⟩ (.slice A4 (acc.length + 1) c4)) (some (w.heap.size)) := grown_setCells (w.heap.size) [.slice A4 (acc.length + 1) c4] 0 _ _ (World.grownBy.refl _ _)
              refine ⟨0, bel_grown (Below.refl 0 w4) (Nat.zero_le _) (Nat.zero_le _) hg, Nat.le_refl _, ?_⟩
              replace R0 := Lib.hid (show (w4.setCell ⟨w.heap.size, 0, none⟩ (.slice A4 (acc.length + 1) c4)).heap[w.heap.size]? = some (.cells #[.slice A4 (acc.length + 1) c4] 27 (0, 0)) from row_set R0.out 0 _)
              replace R1 := Lib.hid ((hg.block _ (row_lt R1.out) (fun e => by have := Option.some.inj e; omega)).trans R1.out)
              replace R2 := Lib.hid ((hg.block _ (row_lt R2.out) (fun e => by have := Option.some.inj e; omega)).trans R2.out)
              replace R3 := Lib.hid ((hg.block _ (row_lt R3.out) (fun e => by have := Option.some.inj e; omega)).trans R3.out)
              replace RX := Lib.hid ((hg.block _ (row_lt RX.out) (fun e => by have := Option.some.inj e; omega)).trans RX.out)
              replace HB := Lib.hid (bset HB.out w.heap.size 0 (.slice A4 (acc.length + 1) c4) (Nat.le_refl _))
              have hq := own_row_neV OV.out w.heap.size (by omega)
              replace OV := Lib.hid (OV.out.kept hg hq)
              replace SV := Lib.hid (SgV.mono (fun _ _ h => h.kept hg (own_row_ne h w.heap.size (by omega))) SV.out)
              clear hg hq
              generalize (w4.setCell ⟨w.heap.size, 0, none⟩ (.slice A4 (acc.length + 1) c4)) = w5 at *
              refine Tin.reg_done0 (by kernel_rfl) ?_
              go_wp2_with fail
              have hln : (acc ++ [Sg.mk m d s]).length = acc.length + 1 := by simp
              have hax : atX w w5 = a' := by
                have h9 := row_cell (v := .int .i64 (a' : Int)) RX.out 1 rfl
                unfold atX; rw [h9]; rfl
              refine ⟨⟨acc ++ [⟨m, d, s⟩], a', A4, c4, _, ⟨ha'.2, by rw [hln]; have := HAC.out; omega⟩, ⟨by rw [hln]; exact R0.out, R1.out, R2.out, R3.out, RX.out, by rw [hln]; exact OV.out, SV.out, HB.out⟩, ?_⟩, ?_⟩
              · have he : ofR l = if m = 217 then .ok (acc ++ [⟨m, d, s⟩]) a' else lexO l (f - 1) a' (acc ++ [⟨m, d, s⟩]) := by
                  rw [hf'.out]
                  obtain ⟨f', rfl⟩ : ∃ f', f = f' + 1 := ⟨f - 1, by omega⟩
                  simp only [lexO, hr, hr2, Nat.add_sub_cancel]
                have hlm : lastM (acc ++ [Sg.mk m d s]) = m := by unfold lastM; simp
                by_cases hm : m = 217
                · rw [if_pos hm] at he
                  exact .inr ⟨he, by simp, by rw [hlm]; exact hm⟩
                · rw [if_neg hm] at he
                  exact .inl ⟨f - 1, he, by omega, .inr (by rw [hlm]; exact hm)⟩
              · have h8 : atX w wr = a := HAX.out
                rw [hax, h8]
                omega
          · try simp only [List.getElem_toArray, List.getElem_cons_succ, List.getElem_cons_zero]
            go_wp2_with fail
            have ha2 : a + 2 ≤ l.length := HM.out.1
            have hne : ∀ x, A = some x → x.block ≠ w.heap.size + 4 := by
              intro x hA
              obtain ⟨b, off, hA2, hb2, _⟩ := HS0.out.at_ (by omega)
              rw [hA] at hA2
              injection hA2 with hA2
              subst hA2
              show b ≠ w.heap.size + 4
              omega
            refine (sg_any (w.heap.size + 4) A l cap (a + 2) m _ RX.out HSR.out hcap (by omega) HBY.out (by omega) hne).mono ?_
            intro e v2 hv
            obtain ⟨r, hr2⟩ : ∃ r, lexS l (a + 2) m = r := ⟨_, rfl⟩
            rw [hr2] at hv
            cases r with
            | err p q0 =>
              obtain ⟨rfl, hb⟩ := hv
              go_wp2_with fail
              have hvb := hb.mono SZ
              refine leaves_cons (f := 33) (args := #[.pointer (some ⟨w.heap.size, 0, none⟩), .pointer (some ⟨w.heap.size + 1, 0, none⟩), .pointer (some ⟨w.heap.size + 2, 0, none⟩), .pointer (some ⟨w.heap.size + 3, 0, none⟩)]) nofun rfl ?_
              refine CallsD.mono (catch_p w.heap.size (.slice A1 acc.length c1) 0 0 0 p q0 [] v2 ((hvb.block _ (by omega)).trans R0.out) ((hvb.block _ (by omega)).trans R1.out) ((hvb.block _ (by omega)).trans R2.out) ((hvb.block _ (by omega)).trans R3.out)) ?_
              rintro e u' w' ⟨rfl, rfl, z0, z1, z2, z3, hb2⟩
              refine ⟨.tuple #[.slice none 0 0, .int .i64 0, .int .i64 p, .int .i64 q0], ?_, ?_⟩
              · simp [results, Try.results22, go_sem, row_cell z0 0 rfl, row_cell z1 0 rfl, row_cell z2 0 rfl, row_cell z3 0 rfl]
              have he : ofR l = .err p q0 := by
                rw [hf'.out]
                obtain ⟨f', rfl⟩ : ∃ f', f = f' + 1 := ⟨f - 1, by omega⟩
                simp only [lexO, hr, hr2]
              rw [he]
              exact ⟨rfl, (HB.out.trans (hvb.mono (by omega))).trans hb2⟩
            | ok d s a' =>
              obtain ⟨B1, k1, B2, k2, rfl, ho1, ho2, hx, hg⟩ := hv
              have ha' := lexS_le (a := a + 2) ha2 hr2
              have S5 : w.heap.size + 5 ≤ v1.heap.size := row_lt RX.out
              have HD1 := Lib.hid (ho1.mono S5)
              have HD2 := Lib.hid (ho2.mono S5)
              have HLO := Lib.hid (OV.out.low)
              clear ho1 ho2
              go_wp2_with fail
              have hvb := bel_grown (Below.refl (w.heap.size + 4) v1) (Nat.le_refl _) SZ hg
              refine ⟨0, hvb.mono (Nat.zero_le _), Nat.le_refl _, ?_⟩
              replace R0 := Lib.hid ((hvb.block _ (by omega)).trans R0.out)
              replace R1 := Lib.hid ((hvb.block _ (by omega)).trans R1.out)
              replace R2 := Lib.hid ((hvb.block _ (by omega)).trans R2.out)
              replace R3 := Lib.hid ((hvb.block _ (by omega)).trans R3.out)
              replace RX := Lib.hid hx
              have hq := own_row_neV OV.out (w.heap.size + 4) (by omega)
              replace OV := Lib.hid (OV.out.kept hg hq)
              replace SV := Lib.hid (SgV.mono (fun _ _ h => h.kept hg (own_row_ne h (w.heap.size + 4) (by omega))) SV.out)
              replace HB := Lib.hid (HB.out.trans (hvb.mono (by omega)))
              have SG := Nat.le_trans SZ hg.size
              replace SZ := SG
              replace S5 := Nat.le_trans S5 hg.size
              clear hg hvb hx hq SG
              refine Tin.reg_two 0 5 _ _ rfl rfl (by kernel_rfl) ?_ ?_
              · try simp only [List.getElem_toArray, List.getElem_cons_succ, List.getElem_cons_zero]
                have kq := row_cell (v := .slice A1 acc.length c1) R0.out 0 rfl
                go_wp2_with fail
                clear kq
                refine ⟨0, Below.refl _ _, Nat.le_refl _, ?_⟩
                refine Tin.reg_one 5 _ rfl (by kernel_rfl) ?_
                try simp only [List.getElem_toArray, List.getElem_cons_succ, List.getElem_cons_zero]
                go_wp2_with fail
                have hv3 := ba (brefl v2) (.cells #[.int .i64 m, .slice B1 d.length k1, .slice B2 s.length k2] 36)
                have hvb := hv3.mono SZ
                have HN := Lib.hid (SlV.new_ v2 36 #[.int .i64 m, .slice B1 d.length k1, .slice B2 s.length k2])
                refine ⟨0, hvb.mono (Nat.zero_le _), Nat.le_refl _, ?_⟩
                replace R0 := Lib.hid ((hvb.block _ (by omega)).trans R0.out)
                replace R1 := Lib.hid ((hvb.block _ (by omega)).trans R1.out)
                replace R2 := Lib.hid ((hvb.block _ (by omega)).trans R2.out)
                replace R3 := Lib.hid ((hvb.block _ (by omega)).trans R3.out)
                replace RX := Lib.hid ((hv3.block _ (by omega)).trans RX.out)
                replace OV := Lib.hid (OV.out.keep hv3)
                replace SV := Lib.hid (SgV.mono (fun _ _ h => h.keep hv3) SV.out)
                replace HD1 := Lib.hid (HD1.out.keep hv3)
                replace HD2 := Lib.hid (HD2.out.keep hv3)
                replace HB := Lib.hid (HB.out.trans (hvb.mono (by omega)))
                have SG := Nat.le_trans SZ hv3.size
                replace SZ := SG
                replace S5 := Nat.le_trans S5 hv3.size
                clear hv3 hvb SG
                generalize (v2.alloc (.cells #[.int .i64 m, .slice B1 d.length k1, .slice B2 s.length k2] 36)) = u3 at *
                refine Tin.reg_one 6 _ rfl (by kernel_rfl) ?_
                try simp only [List.getElem_toArray, List.getElem_cons_succ, List.getElem_cons_zero]
                have hap1 := own_ownv_apart HD1.out OV.out (by decide)
                have hap2 := own_ownv_apart HD2.out OV.out (by decide)
                refine Tin.wplv_app svG _ rfl (.tmp 24) (.tmp 29) rfl (w.heap.size + 5) (.slice A1 acc.length c1) acc.length xs rfl OV.out (some ⟨v2.heap.size, 0, none⟩) 1 1 [.int .i64 m, .slice B1 d.length k1, .slice B2 s.length k2] rfl rfl HN.out (by simp [Value.oneCell']) (by have := HAC.out; omega) (by have := HAC.out; omega) S5 ?_
                intro A4 c4 w4 ho4 hg4 how4
                have hgr : ∀ q, (Value.slice A1 acc.length c1).ownBlock = some q → w.heap.size + 5 ≤ q := fun q hq => (HLO.out q hq).1
                go_wp2_with fail
                have hv4 := OV.out.grown (Below.refl (w.heap.size + 5) u3) S5 hg4
                have hvb := hv4.mono (show w.heap.size + 4 ≤ w.heap.size + 5 by omega)
                refine ⟨0, hvb.mono (Nat.zero_le _), Nat.le_refl _, ?_⟩
                replace R0 := Lib.hid ((hvb.block _ (by omega)).trans R0.out)
                replace R1 := Lib.hid ((hvb.block _ (by omega)).trans R1.out)
                replace R2 := Lib.hid ((hvb.block _ (by omega)).trans R2.out)
                replace R3 := Lib.hid ((hvb.block _ (by omega)).trans R3.out)
                replace RX := Lib.hid ((hv4.block _ (by omega)).trans RX.out)
                have hsv := SgV.app (SgV.mono (fun _ _ h => Own.kept h hg4 (own_ownv_apart h OV.out (by decide))) SV.out) (SgV.one (m := m) (HD1.out.kept hg4 hap1) (HD2.out.kept hg4 hap2))
                replace SV := Lib.hid hsv
                replace OV := Lib.hid ho4
                replace HB := Lib.hid (HB.out.trans (hvb.mono (by omega)))
                clear hv4 hvb hg4 how4 hap1 hap2 hsv ho4 HD1 HD2 HLO hgr HN S5 SZ HSR
                refine Tin.reg_one 7 _ rfl (by kernel_rfl) ?_
                try simp only [List.getElem_toArray, List.getElem_cons_succ, List.getElem_cons_zero]
                have kq := row_cell (v := .slice A1 acc.length c1) R0.out 0 rfl
                have yq := frozen_of_row _ (w.heap.size) 0 _ _ R0.out
                go_wp2_with fail
                clear kq yq
                have hg : w4.grownBy (w4.setCell ⟨w.heap.size, 0, none⟩ (.slice A4 (acc.length + 1) c4)) (some (w.heap.size)) := grown_setCells (w.heap.size) [.slice A4 (acc.length + 1) c4] 0 _ _ (World.grownBy.refl _ _)
                refine ⟨0, bel_grown (Below.refl 0 w4) (Nat.zero_le _) (Nat.zero_le _) hg, Nat.le_refl _, ?_⟩
                replace R0 := Lib.hid (show (w4.setCell ⟨w.heap.size, 0, none⟩ (.slice A4 (acc.length + 1) c4)).heap[w.heap.size]? = some (.cells #[.slice A4 (acc.length + 1) c4] 27 (0, 0)) from row_set R0.out 0 _)
                replace R1 := Lib.hid ((hg.block _ (row_lt R1.out) (fun e => by have := Option.some.inj e; omega)).trans R1.out)
                replace R2 := Lib.hid ((hg.block _ (row_lt R2.out) (fun e => by have := Option.some.inj e; omega)).trans R2.out)
                replace R3 := Lib.hid ((hg.block _ (row_lt R3.out) (fun e => by have := Option.some.inj e; omega)).trans R3.out)
                replace RX := Lib.hid ((hg.block _ (row_lt RX.out) (fun e => by have := Option.some.inj e; omega)).trans RX.out)
                replace HB := Lib.hid (bset HB.out w.heap.size 0 (.slice A4 (acc.length + 1) c4) (Nat.le_refl _))
                have hq := own_row_neV OV.out w.heap.size (by omega)
                replace OV := Lib.hid (OV.out.kept hg hq)
                replace SV := Lib.hid (SgV.mono (fun _ _ h => h.kept hg (own_row_ne h w.heap.size (by omega))) SV.out)
                clear hg hq
                generalize (w4.setCell ⟨w.heap.size, 0, none⟩ (.slice A4 (acc.length + 1) c4)) = w5 at *
                refine Tin.reg_done0 (by kernel_rfl) ?_
                go_wp2_with fail
                have hln : (acc ++ [Sg.mk m d s]).length = acc.length + 1 := by simp
                have hax : atX w w5 = a' := by
                  have h9 := row_cell (v := .int .i64 (a' : Int)) RX.out 1 rfl
                  unfold atX; rw [h9]; rfl
                refine ⟨⟨acc ++ [⟨m, d, s⟩], a', A4, c4, _, ⟨ha'.2, by rw [hln]; have := HAC.out; omega⟩, ⟨by rw [hln]; exact R0.out, R1.out, R2.out, R3.out, RX.out, by rw [hln]; exact OV.out, SV.out, HB.out⟩, ?_⟩, ?_⟩
                · have he : ofR l = if m = 217 then .ok (acc ++ [⟨m, d, s⟩]) a' else lexO l (f - 1) a' (acc ++ [⟨m, d, s⟩]) := by
                    rw [hf'.out]
                    obtain ⟨f', rfl⟩ : ∃ f', f = f' + 1 := ⟨f - 1, by omega⟩
                    simp only [lexO, hr, hr2, Nat.add_sub_cancel]
                  have hlm : lastM (acc ++ [Sg.mk m d s]) = m := by unfold lastM; simp
                  by_cases hm : m = 217
                  · rw [if_pos hm] at he
                    exact .inr ⟨he, by simp, by rw [hlm]; exact hm⟩
                  · rw [if_neg hm] at he
                    exact .inl ⟨f - 1, he, by omega, .inr (by rw [hlm]; exact hm)⟩
                · have h8 : atX w wr = a := HAX.out
                  rw [hax, h8]
                  omega
              · try simp only [List.getElem_toArray, List.getElem_cons_succ, List.getElem_cons_zero]
                go_wp2_with fail
                have hv3 := ba (brefl v2) (.cells #[.int .i64 m, .slice B1 d.length k1, .slice B2 s.length k2] 36)
                have hvb := hv3.mono SZ
                have HN := Lib.hid (SlV.new_ v2 36 #[.int .i64 m, .slice B1 d.length k1, .slice B2 s.length k2])
                refine ⟨0, hvb.mono (Nat.zero_le _), Nat.le_refl _, ?_⟩
                replace R0 := Lib.hid ((hvb.block _ (by omega)).trans R0.out)
                replace R1 := Lib.hid ((hvb.block _ (by omega)).trans R1.out)
                replace R2 := Lib.hid ((hvb.block _ (by omega)).trans R2.out)
                replace R3 := Lib.hid ((hvb.block _ (by omega)).trans R3.out)
                replace RX := Lib.hid ((hv3.block _ (by omega)).trans RX.out)
                replace OV := Lib.hid (OV.out.keep hv3)
                replace SV := Lib.hid (SgV.mono (fun _ _ h => h.keep hv3) SV.out)
                replace HD1 := Lib.hid (HD1.out.keep hv3)
                replace HD2 := Lib.hid (HD2.out.keep hv3)
                replace HB := Lib.hid (HB.out.trans (hvb.mono (by omega)))
                have SG := Nat.le_trans SZ hv3.size
                replace SZ := SG
                replace S5 := Nat.le_trans S5 hv3.size
                clear hv3 hvb SG
                generalize (v2.alloc (.cells #[.int .i64 m, .slice B1 d.length k1, .slice B2 s.length k2] 36)) = u3 at *
                refine Tin.reg_one 0 _ rfl (by kernel_rfl) ?_
                try simp only [List.getElem_toArray, List.getElem_cons_succ, List.getElem_cons_zero]
                have kq := row_cell (v := .slice A1 acc.length c1) R0.out 0 rfl
                go_wp2_with fail
                clear kq
                refine ⟨0, Below.refl _ _, Nat.le_refl _, ?_⟩
                refine Tin.reg_one 6 _ rfl (by kernel_rfl) ?_
                try simp only [List.getElem_toArray, List.getElem_cons_succ, List.getElem_cons_zero]
                have hap1 := own_ownv_apart HD1.out OV.out (by decide)
                have hap2 := own_ownv_apart HD2.out OV.out (by decide)
                refine Tin.wplv_app svG _ rfl (.tmp 24) (.tmp 29) rfl (w.heap.size + 5) (.slice A1 acc.length c1) acc.length xs rfl OV.out (some ⟨v2.heap.size, 0, none⟩) 1 1 [.int .i64 m, .slice B1 d.length k1, .slice B2 s.length k2] rfl rfl HN.out (by simp [Value.oneCell']) (by have := HAC.out; omega) (by have := HAC.out; omega) S5 ?_
                intro A4 c4 w4 ho4 hg4 how4
                have hgr : ∀ q, (Value.slice A1 acc.length c1).ownBlock = some q → w.heap.size + 5 ≤ q := fun q hq => (HLO.out q hq).1
                go_wp2_with fail
                have hv4 := OV.out.grown (Below.refl (w.heap.size + 5) u3) S5 hg4
                have hvb := hv4.mono (show w.heap.size + 4 ≤ w.heap.size + 5 by omega)
                refine ⟨0, hvb.mono (Nat.zero_le _), Nat.le_refl _, ?_⟩
                replace R0 := Lib.hid ((hvb.block _ (by omega)).trans R0.out)
                replace R1 := Lib.hid ((hvb.block _ (by omega)).trans R1.out)
                replace R2 := Lib.hid ((hvb.block _ (by omega)).trans R2.out)
                replace R3 := Lib.hid ((hvb.block _ (by omega)).trans R3.out)
                replace RX := Lib.hid ((hv4.block _ (by omega)).trans RX.out)
                have hsv := SgV.app (SgV.mono (fun _ _ h => Own.kept h hg4 (own_ownv_apart h OV.out (by decide))) SV.out) (SgV.one (m := m) (HD1.out.kept hg4 hap1) (HD2.out.kept hg4 hap2))
                replace SV := Lib.hid hsv
                replace OV := Lib.hid ho4
                replace HB := Lib.hid (HB.out.trans (hvb.mono (by omega)))
                clear hv4 hvb hg4 how4 hap1 hap2 hsv ho4 HD1 HD2 HLO hgr HN S5 SZ HSR
                refine Tin.reg_one 7 _ rfl (by kernel_rfl) ?_
                try simp only [List.getElem_toArray, List.getElem_cons_succ, List.getElem_cons_zero]
                have kq := row_cell (v := .slice A1 acc.length c1) R0.out 0 rfl
                have yq := frozen_of_row _ (w.heap.size) 0 _ _ R0.out
                go_wp2_with fail
                clear kq yq
                have hg : w4.grownBy (w4.setCell ⟨w.heap.size, 0, none⟩ (.slice A4 (acc.length + 1) c4)) (some (w.heap.size)) := grown_setCells (w.heap.size) [.slice A4 (acc.length + 1) c4] 0 _ _ (World.grownBy.refl _ _)
                refine ⟨0, bel_grown (Below.refl 0 w4) (Nat.zero_le _) (Nat.zero_le _) hg, Nat.le_refl _, ?_⟩
                replace R0 := Lib.hid (show (w4.setCell ⟨w.heap.size, 0, none⟩ (.slice A4 (acc.length + 1) c4)).heap[w.heap.size]? = some (.cells #[.slice A4 (acc.length + 1) c4] 27 (0, 0)) from row_set R0.out 0 _)
                replace R1 := Lib.hid ((hg.block _ (row_lt R1.out) (fun e => by have := Option.some.inj e; omega)).trans R1.out)
                replace R2 := Lib.hid ((hg.block _ (row_lt R2.out) (fun e => by have := Option.some.inj e; omega)).trans R2.out)
                replace R3 := Lib.hid ((hg.block _ (row_lt R3.out) (fun e => by have := Option.some.inj e; omega)).trans R3.out)
                replace RX := Lib.hid ((hg.block _ (row_lt RX.out) (fun e => by have := Option.some.inj e; omega)).trans RX.out)
                replace HB := Lib.hid (bset HB.out w.heap.size 0 (.slice A4 (acc.length + 1) c4) (Nat.le_refl _))
                have hq := own_row_neV OV.out w.heap.size (by omega)
                replace OV := Lib.hid (OV.out.kept hg hq)
                replace SV := Lib.hid (SgV.mono (fun _ _ h => h.kept hg (own_row_ne h w.heap.size (by omega))) SV.out)
                clear hg hq
                generalize (w4.setCell ⟨w.heap.size, 0, none⟩ (.slice A4 (acc.length + 1) c4)) = w5 at *
                refine Tin.reg_done0 (by kernel_rfl) ?_
                go_wp2_with fail
                have hln : (acc ++ [Sg.mk m d s]).length = acc.length + 1 := by simp
                have hax : atX w w5 = a' := by
                  have h9 := row_cell (v := .int .i64 (a' : Int)) RX.out 1 rfl
                  unfold atX; rw [h9]; rfl
                refine ⟨⟨acc ++ [⟨m, d, s⟩], a', A4, c4, _, ⟨ha'.2, by rw [hln]; have := HAC.out; omega⟩, ⟨by rw [hln]; exact R0.out, R1.out, R2.out, R3.out, RX.out, by rw [hln]; exact OV.out, SV.out, HB.out⟩, ?_⟩, ?_⟩
                · have he : ofR l = if m = 217 then .ok (acc ++ [⟨m, d, s⟩]) a' else lexO l (f - 1) a' (acc ++ [⟨m, d, s⟩]) := by
                    rw [hf'.out]
                    obtain ⟨f', rfl⟩ : ∃ f', f = f' + 1 := ⟨f - 1, by omega⟩
                    simp only [lexO, hr, hr2, Nat.add_sub_cancel]
                  have hlm : lastM (acc ++ [Sg.mk m d s]) = m := by unfold lastM; simp
                  by_cases hm : m = 217
                  · rw [if_pos hm] at he
                    exact .inr ⟨he, by simp, by rw [hlm]; exact hm⟩
                  · rw [if_neg hm] at he
                    exact .inl ⟨f - 1, he, by omega, .inr (by rw [hlm]; exact hm)⟩
                · have h8 : atX w wr = a := HAX.out
                  rw [hax, h8]
                  omega
end Go.Proofs.Ytfohajgljjffgaa
