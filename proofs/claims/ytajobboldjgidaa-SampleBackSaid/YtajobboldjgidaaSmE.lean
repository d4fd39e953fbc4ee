/- Rows of planes (no program in sight). -/
import Derived.Test.YtajobboldjgidaaSmD
namespace Go.Proofs.Ytajobboldjgidaa
open Go.RowKit
open Go.Tin
set_option linter.unusedVariables false
set_option linter.unusedSimpArgs false


/-- A plane: its sides, its samples. -/
structure Pn where
  W : Int
  H : Int
  v : List Int
/-- The cells of planes: each slice as told. -/
inductive PnV (P : Value → List Int → Prop) : List Value → List Pn → Prop
  | nil : PnV P [] []
  | cons {W H : Int} {u : Value} {d : List Int} {xs : List Value} {L : List Pn} : P u d → PnV P xs L → PnV P (.int .i64 W :: .int .i64 H :: u :: xs) (⟨W, H, d⟩ :: L)
theorem PnV.len {P : Value → List Int → Prop} {xs : List Value} {L : List Pn} (h : PnV P xs L) : xs.length = L.length * 3 := by
  induction h with
  | nil => rfl
  | cons _ _ ih => simp only [List.length_cons, ih]; omega
theorem PnV.mono {P Q : Value → List Int → Prop} (hpq : ∀ v l, P v l → Q v l) {xs : List Value} {L : List Pn} (h : PnV P xs L) : PnV Q xs L := by
  induction h with
  | nil => exact .nil
  | cons h1 _ ih => exact .cons (hpq _ _ h1) ih
theorem PnV.app {P : Value → List Int → Prop} {xs ys : List Value} {L M : List Pn} (h : PnV P xs L) (h' : PnV P ys M) : PnV P (xs ++ ys) (L ++ M) := by
  induction h with
  | nil => exact h'
  | cons h1 _ ih => exact .cons h1 ih
theorem PnV.one {P : Value → List Int → Prop} {W H : Int} {u : Value} {d : List Int} (h1 : P u d) : PnV P [.int .i64 W, .int .i64 H, u] [⟨W, H, d⟩] := .cons h1 .nil
theorem PnV.at_ {P : Value → List Int → Prop} {xs : List Value} {L : List Pn} (h : PnV P xs L) (i : Nat) (hi : i < L.length) : ∃ u, (xs.drop (i * 3)).take 3 = [.int .i64 L[i].W, .int .i64 L[i].H, u] ∧ P u L[i].v := by
  induction h generalizing i with
  | nil => simp at hi
  | cons h1 _ ih =>
    cases i with
    | zero => exact ⟨_, rfl, h1⟩
    | succ i =>
      obtain ⟨u, h2, h3⟩ := ih i (by simpa using hi)
      exact ⟨u, by rw [show (i + 1) * 3 = i * 3 + 3 by omega]; exact h2, h3⟩
/-- A slice of ints as told. -/
def PtI (w : World) (v : Value) (d : List Int) : Prop := ∃ A c, v = .slice A d.length c ∧ Sl .i64 w A d ∧ d.length ≤ c ∧ d.length ≤ 1000000000
theorem PtI.keep {w w' : World} {v : Value} {d : List Int} (h : PtI w v d) (hb : Below w.heap.size w w') : PtI w' v d := by
  obtain ⟨A, c, rfl, hs, r⟩ := h
  exact ⟨A, c, rfl, hs.keep hb, r⟩
theorem PtI.own {w : World} {B : Nat} {v : Value} {d : List Int} (h : Own .i64 3 w B v d) (hl : d.length ≤ 1000000000) : PtI w v d := by
  obtain ⟨A, c, rfl, hs, hc, _⟩ := h.sl
  exact ⟨A, c, rfl, hs, hc, hl⟩
theorem PtI.sl {w : World} {A : Option Addr} {n c : Nat} {d : List Int} (h : PtI w (.slice A n c) d) : n = d.length ∧ Sl .i64 w A d ∧ d.length ≤ c ∧ d.length ≤ 1000000000 := by
  obtain ⟨A', c', hv, r⟩ := h
  injection hv with h1 h2 h3
  subst h1; subst h3
  exact ⟨h2, r⟩
/-- A slice of planes as told. -/
def PlS (w : World) (A : Option Addr) (L : List Pn) : Prop := ∃ xs, SlV w A xs ∧ PnV (PtI w) xs L
theorem PlS.keep {w w' : World} {A : Option Addr} {L : List Pn} (h : PlS w A L) (hb : Below w.heap.size w w') : PlS w' A L := by
  obtain ⟨xs, h1, h2⟩ := h
  exact ⟨xs, h1.keep hb, PnV.mono (fun _ _ h => h.keep hb) h2⟩
theorem PlS.nil_ {w : World} {A : Option Addr} : PlS w A [] := ⟨[], .inl rfl, .nil⟩
theorem PlS.at_ {w : World} {A : Option Addr} {L : List Pn} (h : PlS w A L) (hl : 0 < L.length) : ∃ b off, A = some ⟨b, off, none⟩ ∧ b < w.heap.size ∧ ∀ i, i < L.length → ∃ x y d A1 c1, L[i]? = some ⟨x, y, d⟩ ∧
    w.cell? ⟨b, off + i * 3, none⟩ = some (.int .i64 x) ∧ w.cell? ⟨b, off + i * 3 + 1, none⟩ = some (.int .i64 y) ∧ w.cell? ⟨b, off + i * 3 + 2, none⟩ = some (.slice A1 d.length c1) ∧
    w.rangeAt b (off + i * 3) [.int .i64 x, .int .i64 y, .slice A1 d.length c1] ∧ PtI w (.slice A1 d.length c1) d := by
  obtain ⟨xs, h1, h2⟩ := h
  have hxl := h2.len
  obtain ⟨b, off, rfl, hb, hc⟩ := h1.at_ (by omega)
  refine ⟨b, off, rfl, hb, fun i hi => ?_⟩
  obtain ⟨u, hx, hu⟩ := h2.at_ i hi
  obtain ⟨A1, c1, hu1, r1⟩ := hu
  subst hu1
  have hr := h1.rng (i * 3) 3 (by omega)
  rw [hx] at hr
  exact ⟨L[i].W, L[i].H, L[i].v, A1, c1, by rw [List.getElem?_eq_getElem hi], hr 0 _ rfl, hr 1 _ rfl, hr 2 _ rfl, hr, A1, c1, rfl, r1⟩
theorem PnV.own {w : World} {B : Nat} {xs : List Value} {L : List Pn} (h : PnV (fun v l => Own .i64 3 w B v l) xs L) (hy : ∀ p ∈ L, p.v.length ≤ 1000000000) : PnV (PtI w) xs L := by
  induction h with
  | nil => exact .nil
  | cons h1 _ ih => exact .cons (PtI.own h1 (hy _ (List.mem_cons_self ..))) (ih fun s hs => hy s (List.mem_cons_of_mem _ hs))
theorem PlS.own {w : World} {B B' n c : Nat} {A : Option Addr} {xs : List Value} {L : List Pn} (ho : OwnV 24 3 w B (.slice A n c) n xs) (h : PnV (fun v l => Own .i64 3 w B' v l) xs L) (hy : ∀ p ∈ L, p.v.length ≤ 1000000000) : PlS w A L :=
  ⟨xs, ho.sl'.2.1, h.own hy⟩
theorem take_nextP {L : List Pn} {i : Nat} {x : Pn} (h : L[i]? = some x) : L.take (i + 1) = L.take i ++ [x] := by
  rw [List.take_add_one, h]; rfl
theorem ownI_ne {k : IntKind} {e : TypeId} {w : World} {B : Nat} {v : Value} {l : List Int} (h : Own k e w B v l) (g : Nat) (hg : ∀ q, v.ownBlock = some q → q < w.heap.size → q ≠ g) : v.ownBlock = none ∨ v.ownBlock ≠ some g := by
  cases hq : v.ownBlock with
  | none => exact .inl rfl
  | some q => exact .inr fun e => hg q hq (World.ownsRow.lt h q hq).2 (Option.some.inj e)
theorem svP : SV Try.prog 27 24 3 40 := SV.of Try.underlying27 (by kernel_rfl) (by decide)
theorem ownI_ownv_apart {k : IntKind} {e e' : TypeId} {w : World} {B B' n sz : Nat} {v v' : Value} {l : List Int} {xs : List Value} (h : Own k e w B v l) (h' : OwnV e' sz w B' v' n xs) (hne : e ≠ e') : v.ownBlock = none ∨ v.ownBlock ≠ v'.ownBlock := by
  obtain ⟨_, h2⟩ := h
  obtain ⟨_, h2'⟩ := h'
  rcases h2 with ⟨rfl, _⟩ | ⟨g, cap, cur, rfl, _, hh, _⟩
  · exact .inl rfl
  · rcases h2' with ⟨rfl, _⟩ | ⟨g', cap', cur', rfl, _, hh', _⟩
    · exact .inr fun e => by cases e
    · refine .inr fun e => hne ?_
      have e1 : g = g' := Option.some.inj e
      subst e1
      rw [hh] at hh'
      injection hh' with hh'
      injection hh' with _ hh'
theorem ownv_belowP {e : TypeId} {sz : Nat} {w w' : World} {B n : Nat} {v : Value} {xs : List Value} (h : OwnV e sz w B v n xs) (hB : B ≤ w.heap.size) (hg : w.grownBy w' v.ownBlock) : Below B w w' := h.grown (Below.refl _ _) hB hg
end Go.Proofs.Ytajobboldjgidaa
