/- Trees in memory (no program in sight). -/
import Derived.Test.YtkepbobnjplpoaaLyM
namespace Go.Proofs.Ytkepbobnjplpoaa
open Go.RowKit
open Go.Tin
set_option linter.unusedVariables false
set_option linter.unusedSimpArgs false


/-- What was there, in the blocks that p allows, is there still. -/
structure Kp (p : Nat → Prop) (w w' : World) : Prop where
  size : w.heap.size ≤ w'.heap.size
  block : ∀ b, p b → b < w.heap.size → w'.heap[b]? = w.heap[b]?
theorem Kp.refl (p : Nat → Prop) (w : World) : Kp p w w := ⟨Nat.le_refl _, fun _ _ _ => rfl⟩
theorem Kp.trans {p : Nat → Prop} {a b c : World} (h : Kp p a b) (g : Kp p b c) : Kp p a c :=
  ⟨Nat.le_trans h.size g.size, fun k hp hk => (g.block k hp (Nat.lt_of_lt_of_le hk h.size)).trans (h.block k hp hk)⟩
theorem Kp.mono {p q : Nat → Prop} {a b : World} (h : Kp p a b) (hq : ∀ k, k < a.heap.size → q k → p k) : Kp q a b := ⟨h.size, fun k hp hk => h.block k (hq k hk hp) hk⟩
theorem Kp.below {p : Nat → Prop} {B : Nat} {w w' : World} (h : Below B w w') (hp : ∀ b, b < w.heap.size → p b → b < B) : Kp p w w' := ⟨h.size, fun b hpb hb => h.block b (hp b hb hpb)⟩
theorem Kp.all {p : Nat → Prop} {w w' : World} (h : Below w.heap.size w w') : Kp p w w' := .below h fun _ h _ => h
theorem Kp.grown {p : Nat → Prop} {r : Option Nat} {w w' : World} (h : w.grownBy w' r) (hp : ∀ b, p b → some b ≠ r) : Kp p w w' := ⟨h.size, fun b hpb hb => h.block b hb (hp b hpb)⟩
theorem cell_heap {w w' : World} {b o : Nat} (h : w'.heap[b]? = w.heap[b]?) : w'.cell? ⟨b, o, none⟩ = w.cell? ⟨b, o, none⟩ := by
  unfold World.cell?
  rw [h]
/-- The slice at A reads as l; its block is one that p allows. -/
def SlP (k : IntKind) (w : World) (p : Nat → Prop) (A : Option Addr) (l : List Int) : Prop :=
  l = [] ∨ ∃ b off, A = some ⟨b, off, none⟩ ∧ p b ∧ b < w.heap.size ∧ ∀ i, i < l.length → w.cell? ⟨b, off + i, none⟩ = some (.int k (l.getD i 0))
def SvP (w : World) (p : Nat → Prop) (A : Option Addr) (xs : List Value) : Prop :=
  xs = [] ∨ ∃ b off, A = some ⟨b, off, none⟩ ∧ p b ∧ b < w.heap.size ∧ ∀ i, i < xs.length → w.cell? ⟨b, off + i, none⟩ = xs[i]?
section
variable {k : IntKind} {w w' : World} {p q : Nat → Prop} {A : Option Addr} {l : List Int} {xs : List Value}
theorem SlP.sl (h : SlP k w p A l) : Sl k w A l := h.imp id fun ⟨b, off, hA, _, hb, hc⟩ => ⟨b, off, hA, hb, hc⟩
theorem SvP.sl (h : SvP w p A xs) : SlV w A xs := h.imp id fun ⟨b, off, hA, _, hb, hc⟩ => ⟨b, off, hA, hb, hc⟩
theorem SlP.keep (h : SlP k w p A l) (hk : Kp p w w') : SlP k w' p A l := h.imp id fun ⟨b, off, hA, hp, hb, hc⟩ =>
  ⟨b, off, hA, hp, Nat.lt_of_lt_of_le hb hk.size, fun i hi => (cell_heap (hk.block b hp hb)).trans (hc i hi)⟩
theorem SvP.keep (h : SvP w p A xs) (hk : Kp p w w') : SvP w' p A xs := h.imp id fun ⟨b, off, hA, hp, hb, hc⟩ =>
  ⟨b, off, hA, hp, Nat.lt_of_lt_of_le hb hk.size, fun i hi => (cell_heap (hk.block b hp hb)).trans (hc i hi)⟩
theorem SlP.mono (h : SlP k w p A l) (hq : ∀ b, b < w.heap.size → p b → q b) : SlP k w q A l := h.imp id fun ⟨b, off, hA, hp, hb, hc⟩ => ⟨b, off, hA, hq b hb hp, hb, hc⟩
theorem SvP.mono (h : SvP w p A xs) (hq : ∀ b, b < w.heap.size → p b → q b) : SvP w q A xs := h.imp id fun ⟨b, off, hA, hp, hb, hc⟩ => ⟨b, off, hA, hq b hb hp, hb, hc⟩
theorem SlP.ofOwn {e : TypeId} {B : Nat} {m c : Nat} (h : Own k e w B (.slice A m c) l) (hq : ∀ b, b < w.heap.size → B ≤ b → q b) : SlP k w q A l := by
  obtain ⟨A', c', he, hs, _, _, hA⟩ := h.sl
  injection he with h1 h2 h3
  subst h1
  rcases hs with hs | ⟨b, off, rfl, hb, hc⟩
  · exact .inl hs
  · refine .inr ⟨b, off, rfl, ?_, hb, hc⟩
    rcases hA with ⟨h, _⟩ | ⟨g, h, hg, hg2⟩
    · cases h
    · injection h with h
      injection h with h
      subst h
      exact hq _ hb hg
theorem SvP.ofOwn {e : TypeId} {sz B : Nat} {m c n : Nat} (h : OwnV e sz w B (.slice A m c) n xs) (hq : ∀ b, b < w.heap.size → B ≤ b → q b) : SvP w q A xs := by
  obtain ⟨A', c', he, hs, _, _, hA⟩ := h.sl
  injection he with h1 h2 h3
  subst h1
  rcases hs with hs | ⟨b, off, rfl, hb, hc⟩
  · exact .inl hs
  · refine .inr ⟨b, off, rfl, ?_, hb, hc⟩
    rcases hA with ⟨h, _⟩ | ⟨g, h, hg, hg2⟩
    · cases h
    · injection h with h
      injection h with h
      subst h
      exact hq _ hb hg
end
/-- The cells of tags: each slice of bytes as told. -/
inductive TgV (P : Value → List Int → Prop) : List Value → List Tg → Prop
  | nil : TgV P [] []
  | cons {n t c : Int} {v : Value} {d : List Int} {xs : List Value} {L : List Tg} : P v d → TgV P xs L → TgV P (.int .i64 n :: .int .i64 t :: .int .i64 c :: v :: xs) (⟨n, t, c, d⟩ :: L)
theorem TgV.len {P : Value → List Int → Prop} {xs : List Value} {L : List Tg} (h : TgV P xs L) : xs.length = L.length * 4 := by
  induction h with
  | nil => rfl
  | cons _ _ ih => simp only [List.length_cons, ih]; omega
theorem TgV.mono {P Q : Value → List Int → Prop} (hpq : ∀ v l, P v l → Q v l) {xs : List Value} {L : List Tg} (h : TgV P xs L) : TgV Q xs L := by
  induction h with
  | nil => exact .nil
  | cons h1 _ ih => exact .cons (hpq _ _ h1) ih
theorem TgV.app {P : Value → List Int → Prop} {xs ys : List Value} {L M : List Tg} (h : TgV P xs L) (h' : TgV P ys M) : TgV P (xs ++ ys) (L ++ M) := by
  induction h with
  | nil => exact h'
  | cons h1 _ ih => exact .cons h1 ih
theorem TgV.drop {P : Value → List Int → Prop} {xs : List Value} {L : List Tg} (h : TgV P xs L) : ∀ i, TgV P (xs.drop (i * 4)) (L.drop i) := by
  induction h with
  | nil => intro i; simp; exact .nil
  | cons h1 h3 ih =>
    intro i
    cases i with
    | zero => exact .cons h1 h3
    | succ i =>
      have := ih i
      rw [show (i + 1) * 4 = i * 4 + 4 by omega]
      exact this
theorem TgV.at_ {P : Value → List Int → Prop} {xs : List Value} {L : List Tg} (h : TgV P xs L) (i : Nat) (hi : i < L.length) : ∃ v, (xs.drop (i * 4)).take 4 = [.int .i64 L[i].n, .int .i64 L[i].t, .int .i64 L[i].c, v] ∧ P v L[i].d := by
  have hd := h.drop i
  rw [List.drop_eq_getElem_cons hi] at hd
  generalize hx : xs.drop (i * 4) = ys at hd
  generalize hL : L[i] = z at hd ⊢
  cases hd with
  | cons h1 _ => exact ⟨_, rfl, h1⟩
/-- A slice of bytes. -/
def BtP (w : World) (p : Nat → Prop) (v : Value) (d : List Int) : Prop := ∃ A c, v = .slice A d.length c ∧ SlP .u8 w p A d ∧ Byts d ∧ d.length ≤ maxLen
theorem BtP.keep {w w' : World} {p : Nat → Prop} {v : Value} {d : List Int} (h : BtP w p v d) (hk : Kp p w w') : BtP w' p v d := by
  obtain ⟨A, c, h1, h2, h3⟩ := h
  exact ⟨A, c, h1, h2.keep hk, h3⟩
theorem BtP.mono {w : World} {p q : Nat → Prop} {v : Value} {d : List Int} (h : BtP w p v d) (hq : ∀ b, b < w.heap.size → p b → q b) : BtP w q v d := by
  obtain ⟨A, c, h1, h2, h3⟩ := h
  exact ⟨A, c, h1, h2.mono hq, h3⟩
/-- A slice of tags. -/
def TgS (w : World) (p : Nat → Prop) (A : Option Addr) (ts : List Tg) : Prop := ∃ xs, SvP w p A xs ∧ TgV (BtP w p) xs ts
theorem TgS.keep {w w' : World} {p : Nat → Prop} {A : Option Addr} {ts : List Tg} (h : TgS w p A ts) (hk : Kp p w w') : TgS w' p A ts := by
  obtain ⟨xs, h1, h2⟩ := h
  exact ⟨xs, h1.keep hk, h2.mono fun _ _ h => h.keep hk⟩
theorem TgS.mono {w : World} {p q : Nat → Prop} {A : Option Addr} {ts : List Tg} (h : TgS w p A ts) (hq : ∀ b, b < w.heap.size → p b → q b) : TgS w q A ts := by
  obtain ⟨xs, h1, h2⟩ := h
  exact ⟨xs, h1.mono hq, h2.mono fun _ _ h => h.mono hq⟩
/-- How many cells an element has: with a number ahead, or without. -/
def wid (k : Bool) : Nat := if k then 4 else 3
def hdc (k : Bool) (tag : Int) : List Value := if k then [.int .i64 tag] else []
theorem hdc_len (k : Bool) (tag : Int) : (hdc k tag).length + 3 = wid k := by cases k <;> rfl
/-- The cells of a row of directories. -/
def FoV (w : World) (p : Nat → Prop) (k : Bool) : Fo → List Value → Prop
  | .nil, xs => xs = []
  | .cons tag ts bl sub rest, xs => ∃ (At : Option Addr) (ct : Nat) (As : Option Addr) (cs : Nat) (Ab : Option Addr) (cb : Nat) (zs : List Value),
      xs = hdc k tag ++ (.slice At ts.length ct :: .slice As sub.len cs :: .slice Ab bl.length cb :: zs) ∧ TgS w p At ts ∧ SlP .u8 w p Ab bl ∧ Byts bl ∧
      (ts.length ≤ maxLen ∧ sub.len ≤ maxLen ∧ bl.length ≤ maxLen) ∧ (∃ ys, SvP w p As ys ∧ FoV w p true sub ys) ∧ FoV w p k rest zs
def FoS (w : World) (p : Nat → Prop) (k : Bool) (A : Option Addr) (f : Fo) : Prop := ∃ xs, SvP w p A xs ∧ FoV w p k f xs
theorem FoV.keep {w w' : World} {p : Nat → Prop} (hk : Kp p w w') : ∀ {k : Bool} (f : Fo) {xs : List Value}, FoV w p k f xs → FoV w' p k f xs
  | _, .nil, _, h => h
  | _, .cons _ _ _ sub rest, _, h => by
    obtain ⟨At, ct, As, cs, Ab, cb, zs, h1, h2, h3, h4, h5, ⟨ys, h6, h7⟩, h8⟩ := h
    exact ⟨At, ct, As, cs, Ab, cb, zs, h1, h2.keep hk, h3.keep hk, h4, h5, ⟨ys, h6.keep hk, FoV.keep hk sub h7⟩, FoV.keep hk rest h8⟩
theorem FoV.mono {w : World} {p q : Nat → Prop} (hq : ∀ b, b < w.heap.size → p b → q b) : ∀ {k : Bool} (f : Fo) {xs : List Value}, FoV w p k f xs → FoV w q k f xs
  | _, .nil, _, h => h
  | _, .cons _ _ _ sub rest, _, h => by
    obtain ⟨At, ct, As, cs, Ab, cb, zs, h1, h2, h3, h4, h5, ⟨ys, h6, h7⟩, h8⟩ := h
    exact ⟨At, ct, As, cs, Ab, cb, zs, h1, h2.mono hq, h3.mono hq, h4, h5, ⟨ys, h6.mono hq, FoV.mono hq sub h7⟩, FoV.mono hq rest h8⟩
theorem FoS.keep {w w' : World} {p : Nat → Prop} {k : Bool} {A : Option Addr} {f : Fo} (h : FoS w p k A f) (hk : Kp p w w') : FoS w' p k A f := by
  obtain ⟨xs, h1, h2⟩ := h
  exact ⟨xs, h1.keep hk, FoV.keep hk f h2⟩
theorem FoS.mono {w : World} {p q : Nat → Prop} {k : Bool} {A : Option Addr} {f : Fo} (h : FoS w p k A f) (hq : ∀ b, b < w.heap.size → p b → q b) : FoS w q k A f := by
  obtain ⟨xs, h1, h2⟩ := h
  exact ⟨xs, h1.mono hq, FoV.mono hq f h2⟩
theorem FoV.len {w : World} {p : Nat → Prop} : ∀ {k : Bool} (f : Fo) {xs : List Value}, FoV w p k f xs → xs.length = f.len * wid k
  | _, .nil, _, h => by rw [show _ = ([] : List Value) from h]; simp [Fo.len]
  | k, .cons tag _ _ sub rest, _, h => by
    obtain ⟨At, ct, As, cs, Ab, cb, zs, rfl, _, _, _, _, _, h8⟩ := h
    have := FoV.len rest h8
    have h3 := hdc_len k tag
    rw [Fo.len, Nat.succ_mul, ← this]
    simp only [List.length_append, List.length_cons]
    omega
/-- What a directory's slices hold. -/
structure DiP (w : World) (p : Nat → Prop) (At As Ab : Option Addr) (d : Di) : Prop where
  tg : TgS w p At d.ts
  su : FoS w p true As d.sub
  bl : SlP .u8 w p Ab d.bl
  by_ : Byts d.bl
  nt : d.ts.length ≤ maxLen
  ns : d.sub.len ≤ maxLen
  nb : d.bl.length ≤ maxLen
theorem DiP.keep {w w' : World} {p : Nat → Prop} {At As Ab : Option Addr} {d : Di} (h : DiP w p At As Ab d) (hk : Kp p w w') : DiP w' p At As Ab d :=
  ⟨h.tg.keep hk, h.su.keep hk, h.bl.keep hk, h.by_, h.nt, h.ns, h.nb⟩
theorem DiP.mono {w : World} {p q : Nat → Prop} {At As Ab : Option Addr} {d : Di} (h : DiP w p At As Ab d) (hq : ∀ b, b < w.heap.size → p b → q b) : DiP w q At As Ab d :=
  ⟨h.tg.mono hq, h.su.mono hq, h.bl.mono hq, h.by_, h.nt, h.ns, h.nb⟩
def Fo.drop : Nat → Fo → Fo
  | 0, f => f
  | _ + 1, .nil => .nil
  | n + 1, .cons _ _ _ _ r => r.drop n
def Fo.app : Fo → Fo → Fo
  | .nil, g => g
  | .cons a b c d r, g => .cons a b c d (r.app g)
def Fo.take : Nat → Fo → Fo
  | 0, _ => .nil
  | _ + 1, .nil => .nil
  | n + 1, .cons a b c d r => .cons a b c d (r.take n)
/-- The element at a place: its number, tags, blob, and what is within. -/
structure El where
  tag : Int
  d : Di
def Fo.elem : Nat → Fo → El
  | _, .nil => ⟨0, [], [], .nil⟩
  | 0, .cons a b c d _ => ⟨a, b, c, d⟩
  | n + 1, .cons _ _ _ _ r => r.elem n
def one (e : El) (r : Fo) : Fo := .cons e.tag e.d.ts e.d.bl e.d.sub r
theorem Fo.drop_at : ∀ (i : Nat) (f : Fo), i < f.len → f.drop i = one (f.elem i) (f.drop (i + 1))
  | _, .nil, h => by simp [len] at h
  | 0, .cons _ _ _ _ r, _ => by cases r <;> rfl
  | i + 1, .cons _ _ _ _ r, h => drop_at i r (by simpa [len] using h)
theorem Fo.drop_len : ∀ (i : Nat) (f : Fo), (f.drop i).len = f.len - i
  | 0, f => rfl
  | i + 1, .nil => by simp [drop, len]
  | i + 1, .cons _ _ _ _ r => by rw [drop, drop_len i r, len]; omega
theorem Fo.drop_all {i : Nat} {f : Fo} (h : f.len ≤ i) : f.drop i = .nil := by
  have := f.drop_len i
  cases hd : f.drop i with
  | nil => rfl
  | cons => rw [hd, len] at this; omega
theorem Fo.take_all : ∀ (f : Fo), f.take f.len = f
  | .nil => rfl
  | .cons _ _ _ _ r => by rw [len, take, take_all r]
theorem Fo.take_snoc : ∀ (i : Nat) (f : Fo), i < f.len → f.take (i + 1) = (f.take i).app (one (f.elem i) .nil)
  | _, .nil, h => by simp [len] at h
  | 0, .cons _ _ _ _ r, _ => by rw [take, take, take]; rfl
  | i + 1, .cons _ _ _ _ r, h => by rw [take, take_snoc i r (by simpa [len] using h)]; rfl
theorem Fo.take_len : ∀ (i : Nat) (f : Fo), i ≤ f.len → (f.take i).len = i
  | 0, _, _ => rfl
  | i + 1, .nil, h => by simp [len] at h
  | i + 1, .cons _ _ _ _ r, h => by rw [take, len, take_len i r (by simpa [len] using h)]
theorem Fo.app_len : ∀ f g : Fo, (f.app g).len = f.len + g.len
  | .nil, g => by simp [app, len]
  | .cons _ _ _ _ r, g => by rw [app, len, len, app_len r g]; omega
theorem Fo.app_cnt : ∀ f g : Fo, (f.app g).cnt = f.cnt + g.cnt
  | .nil, g => by simp [app, cnt]
  | .cons _ _ _ _ r, g => by rw [app, cnt, cnt, app_cnt r g]; omega
theorem FoV.drop {w : World} {p : Nat → Prop} {k : Bool} : ∀ (i : Nat) (f : Fo) {xs : List Value}, FoV w p k f xs → FoV w p k (f.drop i) (xs.drop (i * wid k))
  | 0, f, xs, h => by rw [Nat.zero_mul, List.drop_zero]; exact h
  | i + 1, .nil, xs, h => by rw [show xs = ([] : List Value) from h, List.drop_nil]; rfl
  | i + 1, .cons tag _ _ sub rest, _, h => by
    obtain ⟨At, ct, As, cs, Ab, cb, zs, rfl, _, _, _, _, _, h8⟩ := h
    have := FoV.drop i rest h8
    have h3 := hdc_len k tag
    rw [Fo.drop, Nat.succ_mul, Nat.add_comm, ← List.drop_drop]
    rw [show List.drop (wid k) (hdc k tag ++ (_ :: _ :: _ :: zs)) = zs by
      rw [← h3, ← List.drop_drop, List.drop_left]; rfl]
    exact this
theorem FoV.app {w : World} {p : Nat → Prop} {k : Bool} : ∀ (f g : Fo) {xs ys : List Value}, FoV w p k f xs → FoV w p k g ys → FoV w p k (f.app g) (xs ++ ys)
  | .nil, g, xs, ys, h, h' => by rw [show xs = ([] : List Value) from h]; exact h'
  | .cons tag _ _ sub rest, g, _, ys, h, h' => by
    obtain ⟨At, ct, As, cs, Ab, cb, zs, rfl, h1, h2, h3, h4, h5, h8⟩ := h
    exact ⟨At, ct, As, cs, Ab, cb, zs ++ ys, by simp, h1, h2, h3, h4, h5, FoV.app rest g h8 h'⟩
theorem FoV.one {w : World} {p : Nat → Prop} {k : Bool} {e : El} {At As Ab : Option Addr} {ct cs cb : Nat} (h : DiP w p At As Ab e.d) :
    FoV w p k (one e .nil) (hdc k e.tag ++ [.slice At e.d.ts.length ct, .slice As e.d.sub.len cs, .slice Ab e.d.bl.length cb]) :=
  ⟨At, ct, As, cs, Ab, cb, [], rfl, h.tg, h.bl, h.by_, ⟨h.nt, h.ns, h.nb⟩, h.su, rfl⟩
theorem FoV.at_ {w : World} {p : Nat → Prop} {k : Bool} {f : Fo} {xs : List Value} (h : FoV w p k f xs) (i : Nat) (hi : i < f.len) :
    ∃ At ct As cs Ab cb, (xs.drop (i * wid k)).take (wid k) = hdc k (f.elem i).tag ++ [.slice At (f.elem i).d.ts.length ct, .slice As (f.elem i).d.sub.len cs, .slice Ab (f.elem i).d.bl.length cb] ∧ DiP w p At As Ab (f.elem i).d := by
  have hd := FoV.drop i f h
  rw [Fo.drop_at i f hi] at hd
  obtain ⟨At, ct, As, cs, Ab, cb, zs, hx, h1, h2, h3, h4, h5, _⟩ := hd
  refine ⟨At, ct, As, cs, Ab, cb, ?_, h1, h5, h2, h3, h4.1, h4.2.1, h4.2.2⟩
  rw [hx, ← hdc_len k (f.elem i).tag]
  have : ∀ (a : List Value) (x y z : Value) (b : List Value), (a ++ (x :: y :: z :: b)).take (a.length + 3) = a ++ [x, y, z] := fun a x y z b => by
    rw [List.take_append, List.take_of_length_le (by omega), Nat.add_sub_cancel_left]; rfl
  exact this _ _ _ _ _
/-- The cells of directories. -/
inductive DiV (w : World) (p : Nat → Prop) : List Di → List Value → Prop
  | nil : DiV w p [] []
  | cons {d : Di} {L : List Di} {At As Ab : Option Addr} {ct cs cb : Nat} {xs : List Value} : DiP w p At As Ab d → DiV w p L xs →
      DiV w p (d :: L) (.slice At d.ts.length ct :: .slice As d.sub.len cs :: .slice Ab d.bl.length cb :: xs)
theorem DiV.keep {w w' : World} {p : Nat → Prop} (hk : Kp p w w') {L : List Di} {xs : List Value} (h : DiV w p L xs) : DiV w' p L xs := by
  induction h with
  | nil => exact .nil
  | cons h1 _ ih => exact .cons (h1.keep hk) ih
theorem DiV.mono {w : World} {p q : Nat → Prop} (hq : ∀ b, b < w.heap.size → p b → q b) {L : List Di} {xs : List Value} (h : DiV w p L xs) : DiV w q L xs := by
  induction h with
  | nil => exact .nil
  | cons h1 _ ih => exact .cons (h1.mono hq) ih
theorem DiV.app {w : World} {p : Nat → Prop} {L M : List Di} {xs ys : List Value} (h : DiV w p L xs) (h' : DiV w p M ys) : DiV w p (L ++ M) (xs ++ ys) := by
  induction h with
  | nil => exact h'
  | cons h1 _ ih => exact .cons h1 ih
theorem DiV.len {w : World} {p : Nat → Prop} {L : List Di} {xs : List Value} (h : DiV w p L xs) : xs.length = L.length * 3 := by
  induction h with
  | nil => rfl
  | cons _ _ ih => simp only [List.length_cons, ih]; omega
theorem DiV.drop {w : World} {p : Nat → Prop} {L : List Di} {xs : List Value} (h : DiV w p L xs) : ∀ i, DiV w p (L.drop i) (xs.drop (i * 3)) := by
  induction h with
  | nil => intro i; simp; exact .nil
  | cons h1 h3 ih =>
    intro i
    cases i with
    | zero => exact .cons h1 h3
    | succ i =>
      have := ih i
      rw [show (i + 1) * 3 = i * 3 + 3 by omega]
      exact this
theorem DiV.at_ {w : World} {p : Nat → Prop} {L : List Di} {xs : List Value} (h : DiV w p L xs) (i : Nat) (hi : i < L.length) :
    ∃ At ct As cs Ab cb, (xs.drop (i * 3)).take 3 = [.slice At L[i].ts.length ct, .slice As L[i].sub.len cs, .slice Ab L[i].bl.length cb] ∧ DiP w p At As Ab L[i] := by
  have hd := h.drop i
  rw [List.drop_eq_getElem_cons hi] at hd
  generalize hx : xs.drop (i * 3) = ys at hd
  generalize hL : L[i] = z at hd ⊢
  cases hd with
  | cons h1 _ => exact ⟨_, _, _, _, _, _, rfl, h1⟩
def DiS (w : World) (p : Nat → Prop) (A : Option Addr) (L : List Di) : Prop := ∃ xs, SvP w p A xs ∧ DiV w p L xs
theorem DiS.keep {w w' : World} {p : Nat → Prop} {A : Option Addr} {L : List Di} (h : DiS w p A L) (hk : Kp p w w') : DiS w' p A L := by
  obtain ⟨xs, h1, h2⟩ := h
  exact ⟨xs, h1.keep hk, h2.keep hk⟩
/-- The cells of a spot; of spots. -/
def spC (s : Sp) : List Value := [.int .i64 s.w, .int .i64 s.i, .int .i64 s.t, .int .i64 s.a, .int .i64 s.l]
def spsC : List Sp → List Value
  | [] => []
  | s :: l => spC s ++ spsC l
theorem spsC_app (l m : List Sp) : spsC (l ++ m) = spsC l ++ spsC m := by
  induction l with
  | nil => rfl
  | cons s l ih => simp only [List.cons_append, spsC, ih, List.append_assoc]
theorem spsC_len (l : List Sp) : (spsC l).length = l.length * 5 := by
  induction l with
  | nil => rfl
  | cons s l ih => simp only [spsC, spC, List.length_append, List.length_cons, List.length_nil, ih]; omega
theorem spsC_drop : ∀ (i : Nat) (l : List Sp), (spsC l).drop (i * 5) = spsC (l.drop i)
  | 0, l => by simp
  | i + 1, [] => by simp [spsC]
  | i + 1, s :: l => by
    rw [show (i + 1) * 5 = i * 5 + 5 by omega]
    exact spsC_drop i l
theorem spsC_at (l : List Sp) (i : Nat) (hi : i < l.length) : ((spsC l).drop (i * 5)).take 5 = spC l[i] := by
  rw [spsC_drop, List.drop_eq_getElem_cons hi]; rfl
end Go.Proofs.Ytkepbobnjplpoaa
