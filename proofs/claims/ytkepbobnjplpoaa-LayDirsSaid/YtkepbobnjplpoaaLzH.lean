/- Awake: the chapter's examples. -/
import Derived.Test.YtkepbobnjplpoaaLzI
import Derived.Test.YtkepbobnjplpoaaTz
namespace Go.Proofs.Ytkepbobnjplpoaa
open Go.RowKit
open Go.Tin
set_option linter.unusedVariables false
set_option linter.unusedSimpArgs false


def FoK (w : World) (A : Option Addr) (f : Fo) : Prop := FoS w (· < w.heap.size) false A f
theorem FoK.keep {w w' : World} {A : Option Addr} {f : Fo} (h : FoK w A f) (hb : Below w.heap.size w w') : FoK w' A f := (FoS.bel h hb).mono fun b _ h => Nat.lt_of_lt_of_le h hb.size
theorem SvP.row {w : World} {g : Nat} {cs : Array Value} {T : TypeId} (hg : w.heap[g]? = some (.cells cs T (0, 0))) : SvP w (· < w.heap.size) (some ⟨g, 0, none⟩) cs.toList :=
  .inr ⟨g, 0, rfl, row_lt hg, row_lt hg, fun i hi => by rw [Nat.zero_add, cell_of_row w g i _ _ _ hg, Array.getElem?_toList]⟩
theorem BtP.of {w : World} {A : Option Addr} {d : List Int} {m c : Nat} (h : Sl .u8 w A d) (hm : m = d.length) (hb : Byts d) (hl : d.length ≤ maxLen) : BtP w (· < w.heap.size) (.slice A m c) d := ⟨A, c, by rw [hm], .ofSl h, hb, hl⟩
theorem tgk1 {w : World} {g m cp : Nat} {T : TypeId} {n t c : Int} {A : Option Addr} {d : List Int} (hg : w.heap[g]? = some (.cells #[.int .i64 n, .int .i64 t, .int .i64 c, .slice A m cp] T (0, 0))) (hd : Sl .u8 w A d) (hm : m = d.length) (hb : Byts d) (hl : d.length ≤ maxLen) :
    TgS w (· < w.heap.size) (some ⟨g, 0, none⟩) [⟨n, t, c, d⟩] := ⟨_, .row hg, .cons (.of hd hm hb hl) .nil⟩
theorem tgk2 {w : World} {g m cp m' cp' : Nat} {T : TypeId} {n t c n' t' c' : Int} {A A' : Option Addr} {d d' : List Int} (hg : w.heap[g]? = some (.cells #[.int .i64 n, .int .i64 t, .int .i64 c, .slice A m cp, .int .i64 n', .int .i64 t', .int .i64 c', .slice A' m' cp'] T (0, 0))) (hd : Sl .u8 w A d) (hm : m = d.length) (hb : Byts d) (hl : d.length ≤ maxLen) (hd' : Sl .u8 w A' d') (hm' : m' = d'.length) (hb' : Byts d') (hl' : d'.length ≤ maxLen) :
    TgS w (· < w.heap.size) (some ⟨g, 0, none⟩) [⟨n, t, c, d⟩, ⟨n', t', c', d'⟩] := ⟨_, .row hg, .cons (.of hd hm hb hl) (.cons (.of hd' hm' hb' hl') .nil)⟩
theorem fov1 {w : World} {p : Nat → Prop} {At Ab : Option Addr} {ts : List Tg} {bl : List Int} {rest : Fo} {zs : List Value} {nt ct nb cb : Nat} (ht : TgS w p At ts) (hb : SlP .u8 w p Ab bl) (hy : Byts bl) (hn : nt = ts.length) (hm : nb = bl.length) (l1 : ts.length ≤ maxLen) (l2 : bl.length ≤ maxLen) (hr : FoV w p false rest zs) :
    FoV w p false (.cons 0 ts bl .nil rest) (.slice At nt ct :: .slice none 0 0 :: .slice Ab nb cb :: zs) :=
  ⟨At, ct, none, 0, Ab, cb, zs, by rw [hn, hm]; rfl, ht, hb, hy, ⟨l1, Nat.zero_le _, l2⟩, ⟨[], .inl rfl, rfl⟩, hr⟩
theorem fok_row {w : World} {g : Nat} {cs : Array Value} {T : TypeId} {f : Fo} (hg : w.heap[g]? = some (.cells cs T (0, 0))) (hf : FoV w (· < w.heap.size) false f cs.toList) : FoK w (some ⟨g, 0, none⟩) f := ⟨_, .row hg, hf⟩
theorem SlV.row_sl {w : World} {g : Nat} {T : TypeId} (hg : w.heap[g]? = some (.cells #[.int .u8 1, .int .u8 2, .int .u8 3] T (0, 0))) : Sl .u8 w (some ⟨g, 0, none⟩) [1, 2, 3] := by
  refine .inr ⟨g, 0, rfl, row_lt hg, fun i hi => ?_⟩
  rw [Nat.zero_add, cell_of_row w g i _ _ _ hg]
  have h3 : i < 3 := hi
  rcases (by omega : i = 0 ∨ i = 1 ∨ i = 2) with rfl | rfl | rfl <;> rfl
theorem fok_nil (w : World) (A : Option Addr) : FoK w A .nil := ⟨[], .inl rfl, rfl⟩
theorem set_same {W : World} {g j : Nat} {v : Value} {cs : Array Value} {T : TypeId} (hg : W.heap[g]? = some (.cells cs T (0, 0))) (hj : cs[j]? = some v) : W.setCell ⟨g, j, none⟩ v = W := by
  have h : (W.setCell ⟨g, j, none⟩ v).heap = W.heap := by
    apply Array.ext_getElem?
    intro k
    by_cases hk : k = g
    · subst hk
      rw [row_set hg j v, hg]
      congr 2
      apply Array.ext_getElem?
      intro i
      rw [Array.getElem?_setIfInBounds]
      split
      · rename_i e
        subst e
        split
        · exact hj.symm
        · rename_i h2
          rw [Array.getElem?_eq_none (by omega)]
      · rfl
    · exact heap_setCell_other _ _ _ _ hk
  have e : W.setCell ⟨g, j, none⟩ v = { W with heap := (W.setCell ⟨g, j, none⟩ v).heap } := rfl
  rw [e, h]
theorem mk_dir1 (W : World) : Sem.run Try.prog (Instr.makeSlice 22 (.int .i64 1) (.int .i64 1)) W = .ok (.slice (some ⟨W.heap.size, 0, none⟩) 1 1) (W.alloc (.cells #[.slice none 0 0, .slice none 0 0, .slice none 0 0] 42)) := by
  obtain ⟨i, hi, hz, hs, hb⟩ := info_parts (show (Try.prog.info? 42).map (fun i => (i.zero, i.size, i.bytes)) = some (some (.agg #[.slice none 0 0, .slice none 0 0, .slice none 0 0]), 3, 72) by kernel_rfl)
  have := run_makeSlice (P := Try.prog) (w := W) 22 42 i _ Try.underlying22 hi hz .i64 .i64 1 1 (by decide) (by decide) (by rw [hs]; decide) (by rw [hb]; decide) (by decide)
  rw [hs, show Int.toNat 1 = 1 from rfl, show madeCells (Value.agg #[Value.slice none 0 0, Value.slice none 0 0, Value.slice none 0 0]).cells (1 * 3) = #[Value.slice none 0 0, Value.slice none 0 0, Value.slice none 0 0] by kernel_rfl] at this
  exact this
theorem tail3 {W : World} {g : Nat} {T : TypeId} {a b c d e f : Value} (hg : W.heap[g]? = some (.cells #[a, b, c, d, e, f] T (0, 0))) : W.rangeAt g 3 [d, e, f] := rng_tail (rng_tail (rng_tail (row_rng hg)))
def f1 : Fo := .cons 0 [⟨256, 3, 1, [0, 1]⟩] [] .nil .nil
def f2 : Fo := .cons 0 [⟨256, 5, 1, [0, 0, 0, 1, 0, 0, 0, 2]⟩, ⟨270, 2, 6, [97, 98, 99, 100, 101, 0]⟩] [] .nil (.cons 0 [] [1, 2, 3] .nil .nil)
def fz : Fo := .cons 0 [] [] .nil .nil
def l1 : List Sp := [⟨1, -1, 0, 0, 8⟩, ⟨2, 0, 0, 8, 18⟩]
def l2 : List Sp := [⟨1, -1, 0, 0, 8⟩, ⟨2, 0, 0, 8, 30⟩, ⟨3, 0, 256, 38, 8⟩, ⟨3, 0, 270, 46, 6⟩, ⟨2, 1, 0, 52, 30⟩, ⟨4, 1, 0, 82, 3⟩]
def l0 : List Sp := [⟨1, -1, 0, 0, 8⟩]
theorem byts_al {l : List Int} (h : l.all (fun x => decide (0 ≤ x) && decide (x < 256)) = true) : Byts l := by
  intro x hx
  have := List.all_eq_true.1 h x hx
  simp at this
  exact this
theorem laid1 (Ad : Option Addr) (cd : Nat) (A : Option Addr) (c : Nat) (w : World) (hf : FoK w Ad f1) (hs : SpS w A l1) : Calls Try.prog 26 #[.agg #[.int .i64 0, .slice Ad 1 cd], .int .i64 26, .slice A 2 c] w fun e w' => e = .returned (.bool true) ∧ Below w.heap.size w w' :=
  laid_any 0 26 Ad cd f1 A c l1 w hf ⟨by decide, by decide, by decide, by decide, trivial, trivial⟩ (by decide) hs (by kernel_rfl) (by kernel_rfl) (by kernel_rfl)
theorem laid2 (Ad : Option Addr) (cd : Nat) (A : Option Addr) (c : Nat) (w : World) (hf : FoK w Ad f2) (hs : SpS w A l2) : Calls Try.prog 26 #[.agg #[.int .i64 0, .slice Ad 2 cd], .int .i64 85, .slice A 6 c] w fun e w' => e = .returned (.bool true) ∧ Below w.heap.size w w' :=
  laid_any 0 85 Ad cd f2 A c l2 w hf ⟨by decide, by decide, by decide, by decide, trivial, ⟨by decide, by decide, by decide, by decide, trivial, trivial⟩⟩ (by decide) hs (by kernel_rfl) (by kernel_rfl) (by kernel_rfl)
theorem laid0 (A : Option Addr) (c : Nat) (w : World) (hs : SpS w A l0) : Calls Try.prog 26 #[.agg #[.int .i64 0, .slice none 0 0], .int .i64 8, .slice A 1 c] w fun e w' => e = .returned (.bool true) ∧ Below w.heap.size w w' :=
  laid_any 0 8 none 0 .nil A c l0 w (fok_nil w none) trivial (by decide) hs (by kernel_rfl) (by kernel_rfl) (by kernel_rfl)
theorem lofz (Ad : Option Addr) (cd : Nat) (w : World) (hf : FoK w Ad fz) : Calls Try.prog 10 #[.agg #[.int .i64 0, .slice Ad 1 cd]] w fun e w' => ∃ A c, e = .returned (.tuple #[.slice A 0 c, .bool false]) ∧ Below w.heap.size w w' :=
  (lof_any 0 Ad cd fz w hf ⟨by decide, by decide, by decide, by decide, trivial, trivial⟩ (by decide)).mono fun e w' ⟨A, c, h1, _, h3⟩ => ⟨A, c, h1.trans (by rw [show okF fz = false by kernel_rfl, show (ofF fz).length = 0 by kernel_rfl]), h3⟩
theorem sps_row {w : World} {g : Nat} {cs : Array Value} {T : TypeId} {l : List Sp} (hg : w.heap[g]? = some (.cells cs T (0, 0))) (h : cs.toList = spsC l) : SpS w (some ⟨g, 0, none⟩) l := by
  have := (SvP.row hg).sl
  rw [h] at this
  exact this
theorem reg_cut {P : Program} {md : Region.Mode} {ops : Array Oper} {Q : Exit → Act → World → Prop} {S : World → Prop} {n : Nat} {listed : Array Bool} {a : Act} {w : World} (T : Array Oper → (Exit → Act → World → Prop) → Prop) (h1 : T ops Q) (h2 : T ops Q → wpAnyH P md ops Q S n listed a w) : wpAnyH P md ops Q S n listed a w := h2 h1
theorem on_tr (n : Int) : on true n = n := rfl
set_option maxRecDepth 100000 in
set_option maxHeartbeats 16000000 in
theorem awake_any (w : World) : Calls Try.prog 8 #[] w fun e w' => e = .returned (.bool true) ∧ Below w.heap.size w w' := by
  have HB := Lib.hid (brefl w)
  have HV2 := Lib.hid (fun (W : World) (A : Option Addr) (c : Nat) (h : SlV W A (iv [1, 2])) => rorat_any 5 A 1 c [1, 2] W h rfl (by decide))
  rw [show raB 5 1 [1, 2] = true by kernel_rfl, show raL 5 1 [1, 2] = [0, 0, 0, 1, 0, 0, 0, 2] by kernel_rfl, on_tr, on_tr, show (([0, 0, 0, 1, 0, 0, 0, 2] : List Int)).length = 8 from rfl, show ((1 : Nat) : Int) = 1 from rfl] at HV2
  have HV4 := Lib.hid (fun (W : World) => rotext_any { data := #[97, 98, 99, 100, 101] } W (by decide))
  rw [show otB { data := #[97, 98, 99, 100, 101] } = true by kernel_rfl, show otL { data := #[97, 98, 99, 100, 101] } = [97, 98, 99, 100, 101, 0] by kernel_rfl, on_tr, on_tr, show (([97, 98, 99, 100, 101, 0] : List Int)).length = 6 from rfl, show ((({ data := #[97, 98, 99, 100, 101] } : ByteArray).size : Int) + 1) = 6 by kernel_rfl] at HV4
  go_enter Try.func8, Try.ntmps8
  go_wp2_with fail
  have hb := (ba (brefl w) (.cells #[.int .i64 1, .int .i64 2] 58))
  have HS2 : SlV (w.alloc (.cells #[.int .i64 1, .int .i64 2] 58)) (some ⟨w.heap.size, 0, none⟩) (iv [1, 2]) := SlV.new_ w _ _
  replace HB := Lib.hid (HB.out.trans (hb.mono HB.out.size))
  clear hb
  replace HS2 := Lib.hid HS2
  generalize (w.alloc (.cells #[.int .i64 1, .int .i64 2] 58)) = v1 at *
  refine (HV2.out _ _ _ HS2.out).mono ?_
  rintro e v2 ⟨A2, c2, rfl, hv2_0, hb⟩
  replace HS2 := Lib.hid (HS2.out.keep hb)
  replace HB := Lib.hid (HB.out.trans (hb.mono HB.out.size))
  have HO2 := Lib.hid hv2_0
  clear hv2_0 hb
  clear HS2
  simp only [vrow]
  go_wp2_with fail
  have hb := (ba (brefl v2) (.cells #[.int .i64 5, .int .i64 1, .slice A2 8 c2] 48))
  have R1 := (alloc1 v2 (.cells #[.int .i64 5, .int .i64 1, .slice A2 8 c2] 48)).1
  replace HO2 := Lib.hid (HO2.out.keep hb)
  replace HB := Lib.hid (HB.out.trans (hb.mono HB.out.size))
  clear hb
  replace R1 := Lib.hid R1
  generalize (v2.alloc (.cells #[.int .i64 5, .int .i64 1, .slice A2 8 c2] 48)) = v3 at *
  refine (HV4.out _).mono ?_
  rintro e v4 ⟨A4, c4, rfl, hv4_0, hb⟩
  replace HO2 := Lib.hid (HO2.out.keep hb)
  replace R1 := Lib.hid ((hb.block _ (row_lt R1.out)).trans R1.out)
  replace HB := Lib.hid (HB.out.trans (hb.mono HB.out.size))
  have HO4 := Lib.hid hv4_0
  clear hv4_0 hb
  simp only [vrow]
  obtain ⟨x, hx⟩ : ∃ x, x = (((((v4.alloc (.cells #[.int .i64 2, .int .i64 6, .slice A4 6 c4] 48)).alloc (.cells #[.int .i64 256, .int .i64 5, .int .i64 1, .slice A2 8 c2, .int .i64 270, .int .i64 2, .int .i64 6, .slice A4 6 c4] 50)).alloc (.cells #[.int .u8 1, .int .u8 2, .int .u8 3] 5)).alloc (.cells #[.slice (some ⟨v4.heap.size + 1, 0, none⟩) 2 2, .slice none 0 0, .slice none 0 0, .slice none 0 0, .slice none 0 0, .slice (some ⟨v4.heap.size + 1 + 1, 0, none⟩) 3 3] 42)).alloc (.cells #[.int .i64 0, .slice (some ⟨v4.heap.size + 1 + 1 + 1, 0, none⟩) 2 2] 24)) := ⟨_, rfl⟩
  obtain ⟨y, hy⟩ : ∃ y, y = ((((((v4.alloc (.cells #[.int .i64 2, .int .i64 6, .slice A4 6 c4] 48)).alloc (.cells #[.int .i64 256, .int .i64 5, .int .i64 1, .slice A2 8 c2, .int .i64 270, .int .i64 2, .int .i64 6, .slice A4 6 c4] 50)).alloc (.cells #[.int .u8 1, .int .u8 2, .int .u8 3] 5)).alloc (.cells #[.slice (some ⟨v4.heap.size + 1, 0, none⟩) 2 2, .slice none 0 0, .slice none 0 0, .slice none 0 0, .slice none 0 0, .slice (some ⟨v4.heap.size + 1 + 1, 0, none⟩) 3 3] 42)).alloc (.cells #[.int .i64 0, .slice (some ⟨v4.heap.size + 1 + 1 + 1, 0, none⟩) 2 2] 24)).alloc (.cells #[.slice none 0 0, .slice none 0 0, .slice none 0 0] 42)) := ⟨_, rfl⟩
  have xRD6 : x.heap[v4.heap.size + 1 + 1 + 1]? = some (.cells #[.slice (some ⟨v4.heap.size + 1, 0, none⟩) 2 2, .slice none 0 0, .slice none 0 0, .slice none 0 0, .slice none 0 0, .slice (some ⟨v4.heap.size + 1 + 1, 0, none⟩) 3 3] 42 (0, 0)) := by
    have hn := heap_alloc_new (((v4.alloc (.cells #[.int .i64 2, .int .i64 6, .slice A4 6 c4] 48)).alloc (.cells #[.int .i64 256, .int .i64 5, .int .i64 1, .slice A2 8 c2, .int .i64 270, .int .i64 2, .int .i64 6, .slice A4 6 c4] 50)).alloc (.cells #[.int .u8 1, .int .u8 2, .int .u8 3] 5)) (.cells #[.slice (some ⟨v4.heap.size + 1, 0, none⟩) 2 2, .slice none 0 0, .slice none 0 0, .slice none 0 0, .slice none 0 0, .slice (some ⟨v4.heap.size + 1 + 1, 0, none⟩) 3 3] 42)
    simp only [World.size_alloc] at hn
    rw [hx]
    rw [heap_alloc_old _ _ (by simp only [World.size_alloc]; omega)]
    exact hn
  have xR5 : x.heap[v4.heap.size + 1 + 1 + 1 + 1]? = some (.cells #[.int .i64 0, .slice (some ⟨v4.heap.size + 1 + 1 + 1, 0, none⟩) 2 2] 24 (0, 0)) := by
    have hn := heap_alloc_new ((((v4.alloc (.cells #[.int .i64 2, .int .i64 6, .slice A4 6 c4] 48)).alloc (.cells #[.int .i64 256, .int .i64 5, .int .i64 1, .slice A2 8 c2, .int .i64 270, .int .i64 2, .int .i64 6, .slice A4 6 c4] 50)).alloc (.cells #[.int .u8 1, .int .u8 2, .int .u8 3] 5)).alloc (.cells #[.slice (some ⟨v4.heap.size + 1, 0, none⟩) 2 2, .slice none 0 0, .slice none 0 0, .slice none 0 0, .slice none 0 0, .slice (some ⟨v4.heap.size + 1 + 1, 0, none⟩) 3 3] 42)) (.cells #[.int .i64 0, .slice (some ⟨v4.heap.size + 1 + 1 + 1, 0, none⟩) 2 2] 24)
    simp only [World.size_alloc] at hn
    rw [hx]
    exact hn
  have RT8 : y.heap[v4.heap.size + 1]? = some (.cells #[.int .i64 256, .int .i64 5, .int .i64 1, .slice A2 8 c2, .int .i64 270, .int .i64 2, .int .i64 6, .slice A4 6 c4] 50 (0, 0)) := by
    have hn := heap_alloc_new (v4.alloc (.cells #[.int .i64 2, .int .i64 6, .slice A4 6 c4] 48)) (.cells #[.int .i64 256, .int .i64 5, .int .i64 1, .slice A2 8 c2, .int .i64 270, .int .i64 2, .int .i64 6, .slice A4 6 c4] 50)
    simp only [World.size_alloc] at hn
    rw [hy]
    rw [heap_alloc_old _ _ (by simp only [World.size_alloc]; omega)]
    rw [heap_alloc_old _ _ (by simp only [World.size_alloc]; omega)]
    rw [heap_alloc_old _ _ (by simp only [World.size_alloc]; omega)]
    rw [heap_alloc_old _ _ (by simp only [World.size_alloc]; omega)]
    exact hn
  have RB3 : y.heap[v4.heap.size + 1 + 1]? = some (.cells #[.int .u8 1, .int .u8 2, .int .u8 3] 5 (0, 0)) := by
    have hn := heap_alloc_new ((v4.alloc (.cells #[.int .i64 2, .int .i64 6, .slice A4 6 c4] 48)).alloc (.cells #[.int .i64 256, .int .i64 5, .int .i64 1, .slice A2 8 c2, .int .i64 270, .int .i64 2, .int .i64 6, .slice A4 6 c4] 50)) (.cells #[.int .u8 1, .int .u8 2, .int .u8 3] 5)
    simp only [World.size_alloc] at hn
    rw [hy]
    rw [heap_alloc_old _ _ (by simp only [World.size_alloc]; omega)]
    rw [heap_alloc_old _ _ (by simp only [World.size_alloc]; omega)]
    rw [heap_alloc_old _ _ (by simp only [World.size_alloc]; omega)]
    exact hn
  have RD6 : y.heap[v4.heap.size + 1 + 1 + 1]? = some (.cells #[.slice (some ⟨v4.heap.size + 1, 0, none⟩) 2 2, .slice none 0 0, .slice none 0 0, .slice none 0 0, .slice none 0 0, .slice (some ⟨v4.heap.size + 1 + 1, 0, none⟩) 3 3] 42 (0, 0)) := by
    have hn := heap_alloc_new (((v4.alloc (.cells #[.int .i64 2, .int .i64 6, .slice A4 6 c4] 48)).alloc (.cells #[.int .i64 256, .int .i64 5, .int .i64 1, .slice A2 8 c2, .int .i64 270, .int .i64 2, .int .i64 6, .slice A4 6 c4] 50)).alloc (.cells #[.int .u8 1, .int .u8 2, .int .u8 3] 5)) (.cells #[.slice (some ⟨v4.heap.size + 1, 0, none⟩) 2 2, .slice none 0 0, .slice none 0 0, .slice none 0 0, .slice none 0 0, .slice (some ⟨v4.heap.size + 1 + 1, 0, none⟩) 3 3] 42)
    simp only [World.size_alloc] at hn
    rw [hy]
    rw [heap_alloc_old _ _ (by simp only [World.size_alloc]; omega)]
    rw [heap_alloc_old _ _ (by simp only [World.size_alloc]; omega)]
    exact hn
  have R5 : y.heap[v4.heap.size + 1 + 1 + 1 + 1]? = some (.cells #[.int .i64 0, .slice (some ⟨v4.heap.size + 1 + 1 + 1, 0, none⟩) 2 2] 24 (0, 0)) := by
    have hn := heap_alloc_new ((((v4.alloc (.cells #[.int .i64 2, .int .i64 6, .slice A4 6 c4] 48)).alloc (.cells #[.int .i64 256, .int .i64 5, .int .i64 1, .slice A2 8 c2, .int .i64 270, .int .i64 2, .int .i64 6, .slice A4 6 c4] 50)).alloc (.cells #[.int .u8 1, .int .u8 2, .int .u8 3] 5)).alloc (.cells #[.slice (some ⟨v4.heap.size + 1, 0, none⟩) 2 2, .slice none 0 0, .slice none 0 0, .slice none 0 0, .slice none 0 0, .slice (some ⟨v4.heap.size + 1 + 1, 0, none⟩) 3 3] 42)) (.cells #[.int .i64 0, .slice (some ⟨v4.heap.size + 1 + 1 + 1, 0, none⟩) 2 2] 24)
    simp only [World.size_alloc] at hn
    rw [hy]
    rw [heap_alloc_old _ _ (by simp only [World.size_alloc]; omega)]
    exact hn
  have RZ : y.heap[v4.heap.size + 1 + 1 + 1 + 1 + 1]? = some (.cells #[.slice none 0 0, .slice none 0 0, .slice none 0 0] 42 (0, 0)) := by
    have hn := heap_alloc_new (((((v4.alloc (.cells #[.int .i64 2, .int .i64 6, .slice A4 6 c4] 48)).alloc (.cells #[.int .i64 256, .int .i64 5, .int .i64 1, .slice A2 8 c2, .int .i64 270, .int .i64 2, .int .i64 6, .slice A4 6 c4] 50)).alloc (.cells #[.int .u8 1, .int .u8 2, .int .u8 3] 5)).alloc (.cells #[.slice (some ⟨v4.heap.size + 1, 0, none⟩) 2 2, .slice none 0 0, .slice none 0 0, .slice none 0 0, .slice none 0 0, .slice (some ⟨v4.heap.size + 1 + 1, 0, none⟩) 3 3] 42)).alloc (.cells #[.int .i64 0, .slice (some ⟨v4.heap.size + 1 + 1 + 1, 0, none⟩) 2 2] 24)) (.cells #[.slice none 0 0, .slice none 0 0, .slice none 0 0] 42)
    simp only [World.size_alloc] at hn
    rw [hy]
    exact hn
  have hby : Below v4.heap.size v4 y := by rw [hy]; exact ba (ba (ba (ba (ba (ba (brefl _) _) _) _) _) _) _
  have hys : y.heap.size = v4.heap.size + 6 := by rw [hy]; simp only [World.size_alloc]
  have yh2 := HO2.out.keep hby
  have yh4 := HO4.out.keep hby
  have YB := Lib.hid (HB.out.trans (hby.mono HB.out.size))
  have HF2 := Lib.hid (show FoK y (some ⟨v4.heap.size + 1 + 1 + 1, 0, none⟩) f2 from fok_row RD6 (fov1 (tgk2 RT8 yh2 rfl (byts_al rfl) (by decide) yh4 rfl (byts_al rfl) (by decide)) (.inl rfl) (byts_al rfl) rfl rfl (by decide) (by decide) (fov1 (tgs_nil _ _ _) (.ofSl (SlV.row_sl RB3)) (byts_al rfl) rfl rfl (by decide) (by decide) rfl)))
  have HFZ := Lib.hid (show FoK y (some ⟨v4.heap.size + 1 + 1 + 1 + 1 + 1, 0, none⟩) fz from fok_row RZ (fov1 (tgs_nil _ _ _) (.inl rfl) (byts_al rfl) rfl rfl (by decide) (by decide) rfl))
  have YD := Lib.hid RD6
  have Y5 := Lib.hid R5
  clear RT8 RB3 RD6 R5 RZ yh2 yh4
  have r1 := R1.out
  have r3 : (v4.alloc (.cells #[.int .i64 2, .int .i64 6, .slice A4 6 c4] 48)).heap[v4.heap.size]? = some (.cells #[.int .i64 2, .int .i64 6, .slice A4 6 c4] 48 (0, 0)) := heap_alloc_new v4 (.cells #[.int .i64 2, .int .i64 6, .slice A4 6 c4] 48)
  have r1b := (heap_alloc_old v4 (.cells #[.int .i64 2, .int .i64 6, .slice A4 6 c4] 48) (row_lt r1)).trans r1
  have RR1 := Lib.hid r1b
  have RR3 := Lib.hid r3
  clear r1 r3 r1b hby
  have c5 := row_cell (v := .slice (some ⟨v4.heap.size + 1 + 1 + 1, 0, none⟩) 2 2) xR5 1 rfl
  have c6 := row_cell (v := .slice none 0 0) xRD6 3 rfl
  have y6 := frozen_of_row _ _ 3 _ _ xRD6
  have hss := set_same (j := 3) (v := .slice none 0 0) xRD6 rfl
  clear xR5 xRD6
  subst hx
  have kmk := mk_dir1
  go_wp2_with (first | ((with_reducible refine wpl_load_row rtVl ?_ (.tmp 1) ?_ (v2.heap.size) ?_ 48 (#[.int .i64 5, .int .i64 1, .slice A2 8 c2]) ?_ RR1.out ?_); rfl; rfl; rfl; rfl; simp only [Act.put, List.setIfInBounds_toArray, List.set_cons_succ, List.set_cons_zero]) | ((with_reducible refine wpl_load_row rtVl ?_ (.tmp 3) ?_ (v4.heap.size) ?_ 48 (#[.int .i64 2, .int .i64 6, .slice A4 6 c4]) ?_ RR3.out ?_); rfl; rfl; rfl; rfl; simp only [Act.put, List.setIfInBounds_toArray, List.set_cons_succ, List.set_cons_zero]))
  rw [← hy]
  clear hy kmk c5 c6 y6 hss RR1 RR3 R1 HO2 HO4 HB HV2 HV4 hys
  generalize v4.heap.size + 1 + 1 + 1 + 1 + 1 = gz at *
  generalize v4.heap.size + 1 + 1 + 1 + 1 = g5 at *
  generalize v4.heap.size + 1 + 1 + 1 = gd at *
  generalize v4.heap.size + 1 + 1 = gb at *
  refine (lofz _ _ _ HFZ.out).mono ?_
  rintro e v21 ⟨A9, c9, rfl, hb⟩
  replace HF2 := Lib.hid (HF2.out.keep hb)
  replace YD := Lib.hid ((hb.block _ (row_lt YD.out)).trans YD.out)
  replace Y5 := Lib.hid ((hb.block _ (row_lt Y5.out)).trans Y5.out)
  replace YB := Lib.hid (YB.out.trans (hb.mono YB.out.size))
  clear hb
  clear HFZ
  go_wp2_with fail
  have LT_YD : _ < v21.heap.size := row_lt YD.out
  have LT_Y5 : _ < v21.heap.size := row_lt Y5.out
  have SZ : v21.heap.size ≤ v21.drew.heap.size := Nat.le_refl _
  have hb := ud' (brefl v21)
  replace HF2 := Lib.hid (HF2.out.keep hb)
  replace YD := Lib.hid ((hb.block _ (row_lt YD.out)).trans YD.out)
  replace Y5 := Lib.hid ((hb.block _ (row_lt Y5.out)).trans Y5.out)
  replace YB := Lib.hid (YB.out.trans (hb.mono YB.out.size))
  clear hb
  refine Tin.reg_begin (v21.heap.size) 40 (by rfl) (by kernel_rfl) ?_
  generalize v21.drew = u0 at *
  refine reg_cut (fun ops Q => ∀ (X : World) (u38 u39 u40 u41 u42 u43 u44 u45 u46 : Value), v21.heap.size ≤ X.heap.size → Below w.heap.size w X → FoK X (some ⟨gd, 0, none⟩) f2 → X.heap[gd]? = some (.cells #[.slice (some ⟨v4.heap.size + 1, 0, none⟩) 2 2, .slice none 0 0, .slice none 0 0, .slice none 0 0, .slice none 0 0, .slice (some ⟨gb, 0, none⟩) 3 3] 42 (0, 0)) → X.heap[g5]? = some (.cells #[.int .i64 0, .slice (some ⟨gd, 0, none⟩) 2 2] 24 (0, 0)) → wpAnyH Try.prog .any ops Q (InBel (v21.heap.size) X) 30 #[true, true, true, true, true, true, true, true, true, true, false, false, false, false, false, false, false, false, false, false, false, false, false, false, false, false, false, false, false, false, false, false, false, false, false, false, false, false, false, false] { tmps := #[Value.bool false, Value.pointer (some { block := v2.heap.size, off := 0 }), Value.bool true, Value.pointer (some { block := v4.heap.size, off := 0 }), Value.bool true, Value.pointer (some { block := g5, off := 0 }), Value.slice A9 0 c9, Value.bool false, Value.tuple #[Value.agg #[Value.int IntKind.i64 5, Value.int IntKind.i64 1, Value.slice A2 8 c2], Value.bool true], Value.agg #[Value.int IntKind.i64 1, Value.int IntKind.i64 2], Value.slice (some { block := w.heap.size, off := 0 }) 1 1, Value.tuple #[Value.agg #[Value.int IntKind.i64 5, Value.int IntKind.i64 1, Value.slice A2 8 c2], Value.bool true], Value.agg #[Value.int IntKind.i64 5, Value.int IntKind.i64 1, Value.slice A2 8 c2], Value.bool true, Value.tuple #[Value.agg #[Value.int IntKind.i64 2, Value.int IntKind.i64 6, Value.slice A4 6 c4], Value.bool true], Value.tuple #[Value.agg #[Value.int IntKind.i64 2, Value.int IntKind.i64 6, Value.slice A4 6 c4], Value.bool true], Value.agg #[Value.int IntKind.i64 2, Value.int IntKind.i64 6, Value.slice A4 6 c4], Value.bool true, Value.agg #[Value.int IntKind.i64 5, Value.int IntKind.i64 1, Value.slice A2 8 c2], Value.agg #[Value.int IntKind.i64 256, Value.int IntKind.i64 5, Value.int IntKind.i64 1, Value.slice A2 8 c2], Value.agg #[Value.int IntKind.i64 2, Value.int IntKind.i64 6, Value.slice A4 6 c4], Value.agg #[Value.int IntKind.i64 270, Value.int IntKind.i64 2, Value.int IntKind.i64 6, Value.slice A4 6 c4], Value.slice (some { block := v4.heap.size + 1, off := 0 }) 2 2, Value.agg #[Value.slice (some { block := v4.heap.size + 1, off := 0 }) 2 2, Value.slice none 0 0, Value.slice none 0 0], Value.slice (some { block := gb, off := 0 }) 3 3, Value.agg #[Value.slice none 0 0, Value.slice none 0 0, Value.slice (some { block := gb, off := 0 }) 3 3], Value.slice (some { block := gd, off := 0 }) 2 2, Value.agg #[Value.int IntKind.i64 0, Value.slice (some { block := gd, off := 0 }) 2 2], Value.pointer (some { block := g5, off := 1 }), Value.slice (some { block := gd, off := 0 }) 2 2, Value.pointer (some { block := gd, off := 3 }), Value.pointer (some { block := gd, off := 3 }), Value.tuple #[Value.slice A9 0 c9, Value.bool false], Value.slice (some { block := gz, off := 0 }) 1 1, Value.agg #[Value.int IntKind.i64 0, Value.slice (some { block := gz, off := 0 }) 1 1], Value.tuple #[Value.slice A9 0 c9, Value.bool false], Value.slice A9 0 c9, Value.bool false, u38, u39, u40, u41, u42, u43, u44, u45, u46, .bool true, undef, undef, undef, undef, undef, undef, undef, undef, undef, undef, undef, undef, undef, undef, undef, undef, undef, undef, undef, undef, undef, undef, undef, undef, undef, undef, undef, undef, undef], defers := [] } X) ?tail ?_
  case tail =>
    intro X u38 u39 u40 u41 u42 u43 u44 u45 u46 hsz hb h2 hd h5
    dsimp only
    have SZ := hsz
    have YB := Lib.hid hb
    have HF2 := Lib.hid h2
    have YD := Lib.hid hd
    have Y5 := Lib.hid h5
    clear hsz hb h2 hd h5
    refine Tin.reg_quiets [10, 11] _ 28 rfl (by simp only [Tin.pick, List.map_cons, List.map_nil, Array.getD_eq_getD_getElem?, List.getElem?_toArray, List.getElem?_cons_zero, List.getElem?_cons_succ, Option.getD_some]; rfl) (by kernel_rfl) (by kernel_rfl) ?_
    repeat (first | ((with_reducible refine wpq_load_row rtTf ?_ (.tmp 5) ?_ (g5) ?_ 24 (#[.int .i64 0, .slice (some ⟨gd, 0, none⟩) 2 2]) ?_ (fun W h => by obtain ⟨p, rfl⟩ := h; exact (p.h.block _ LT_Y5).trans Y5.out) ?_); rfl; rfl; rfl; rfl; simp only [Act.put, List.setIfInBounds_toArray, List.set_cons_succ, List.set_cons_zero]) | go_big_quiet_step (fail))
    refine wpQuiet_nil ?_
    refine Tin.reg_one 12 _ rfl (by kernel_rfl) ?_
    try simp only [List.getElem_toArray, List.getElem_cons_succ, List.getElem_cons_zero]
    go_wp2_with fail
    refine (spot_any 1 (-1) 0 0 8 _).mono ?_
    rintro e t22 ⟨rfl, hv⟩
    go_wp2_with fail
    refine ⟨v21.heap.size, hv.mono SZ, Nat.le_refl _, ?_⟩
    replace HF2 := Lib.hid (HF2.out.keep hv)
    replace YD := Lib.hid ((hv.block _ (row_lt YD.out)).trans YD.out)
    replace Y5 := Lib.hid ((hv.block _ (row_lt Y5.out)).trans Y5.out)
    replace YB := Lib.hid (YB.out.trans (hv.mono YB.out.size))
    replace SZ := Nat.le_trans SZ hv.size
    clear hv
    refine Tin.reg_one 13 _ rfl (by kernel_rfl) ?_
    try simp only [List.getElem_toArray, List.getElem_cons_succ, List.getElem_cons_zero]
    go_wp2_with fail
    refine (spot_any 2 0 0 8 30 _).mono ?_
    rintro e t23 ⟨rfl, hv⟩
    go_wp2_with fail
    refine ⟨v21.heap.size, hv.mono SZ, Nat.le_refl _, ?_⟩
    replace HF2 := Lib.hid (HF2.out.keep hv)
    replace YD := Lib.hid ((hv.block _ (row_lt YD.out)).trans YD.out)
    replace Y5 := Lib.hid ((hv.block _ (row_lt Y5.out)).trans Y5.out)
    replace YB := Lib.hid (YB.out.trans (hv.mono YB.out.size))
    replace SZ := Nat.le_trans SZ hv.size
    clear hv
    refine Tin.reg_one 14 _ rfl (by kernel_rfl) ?_
    try simp only [List.getElem_toArray, List.getElem_cons_succ, List.getElem_cons_zero]
    go_wp2_with fail
    refine (spot_any 3 0 256 38 8 _).mono ?_
    rintro e t24 ⟨rfl, hv⟩
    go_wp2_with fail
    refine ⟨v21.heap.size, hv.mono SZ, Nat.le_refl _, ?_⟩
    replace HF2 := Lib.hid (HF2.out.keep hv)
    replace YD := Lib.hid ((hv.block _ (row_lt YD.out)).trans YD.out)
    replace Y5 := Lib.hid ((hv.block _ (row_lt Y5.out)).trans Y5.out)
    replace YB := Lib.hid (YB.out.trans (hv.mono YB.out.size))
    replace SZ := Nat.le_trans SZ hv.size
    clear hv
    refine Tin.reg_one 15 _ rfl (by kernel_rfl) ?_
    try simp only [List.getElem_toArray, List.getElem_cons_succ, List.getElem_cons_zero]
    go_wp2_with fail
    refine (spot_any 3 0 270 46 6 _).mono ?_
    rintro e t25 ⟨rfl, hv⟩
    go_wp2_with fail
    refine ⟨v21.heap.size, hv.mono SZ, Nat.le_refl _, ?_⟩
    replace HF2 := Lib.hid (HF2.out.keep hv)
    replace YD := Lib.hid ((hv.block _ (row_lt YD.out)).trans YD.out)
    replace Y5 := Lib.hid ((hv.block _ (row_lt Y5.out)).trans Y5.out)
    replace YB := Lib.hid (YB.out.trans (hv.mono YB.out.size))
    replace SZ := Nat.le_trans SZ hv.size
    clear hv
    refine Tin.reg_one 16 _ rfl (by kernel_rfl) ?_
    try simp only [List.getElem_toArray, List.getElem_cons_succ, List.getElem_cons_zero]
    go_wp2_with fail
    refine (spot_any 2 1 0 52 30 _).mono ?_
    rintro e t26 ⟨rfl, hv⟩
    go_wp2_with fail
    refine ⟨v21.heap.size, hv.mono SZ, Nat.le_refl _, ?_⟩
    replace HF2 := Lib.hid (HF2.out.keep hv)
    replace YD := Lib.hid ((hv.block _ (row_lt YD.out)).trans YD.out)
    replace Y5 := Lib.hid ((hv.block _ (row_lt Y5.out)).trans Y5.out)
    replace YB := Lib.hid (YB.out.trans (hv.mono YB.out.size))
    replace SZ := Nat.le_trans SZ hv.size
    clear hv
    refine Tin.reg_one 17 _ rfl (by kernel_rfl) ?_
    try simp only [List.getElem_toArray, List.getElem_cons_succ, List.getElem_cons_zero]
    go_wp2_with fail
    refine (spot_any 4 1 0 82 3 _).mono ?_
    rintro e t27 ⟨rfl, hv⟩
    go_wp2_with fail
    refine ⟨v21.heap.size, hv.mono SZ, Nat.le_refl _, ?_⟩
    replace HF2 := Lib.hid (HF2.out.keep hv)
    replace YD := Lib.hid ((hv.block _ (row_lt YD.out)).trans YD.out)
    replace Y5 := Lib.hid ((hv.block _ (row_lt Y5.out)).trans Y5.out)
    replace YB := Lib.hid (YB.out.trans (hv.mono YB.out.size))
    replace SZ := Nat.le_trans SZ hv.size
    clear hv
    refine Tin.reg_one 18 _ rfl (by kernel_rfl) ?_
    try simp only [List.getElem_toArray, List.getElem_cons_succ, List.getElem_cons_zero]
    go_wp2_with fail
    have hv := ba (brefl t27) (.cells #[.int .i64 1, .int .i64 (-1), .int .i64 0, .int .i64 0, .int .i64 8, .int .i64 2, .int .i64 0, .int .i64 0, .int .i64 8, .int .i64 30, .int .i64 3, .int .i64 0, .int .i64 256, .int .i64 38, .int .i64 8, .int .i64 3, .int .i64 0, .int .i64 270, .int .i64 46, .int .i64 6, .int .i64 2, .int .i64 1, .int .i64 0, .int .i64 52, .int .i64 30, .int .i64 4, .int .i64 1, .int .i64 0, .int .i64 82, .int .i64 3] 53)
    have hr := heap_alloc_new t27 (.cells #[.int .i64 1, .int .i64 (-1), .int .i64 0, .int .i64 0, .int .i64 8, .int .i64 2, .int .i64 0, .int .i64 0, .int .i64 8, .int .i64 30, .int .i64 3, .int .i64 0, .int .i64 256, .int .i64 38, .int .i64 8, .int .i64 3, .int .i64 0, .int .i64 270, .int .i64 46, .int .i64 6, .int .i64 2, .int .i64 1, .int .i64 0, .int .i64 52, .int .i64 30, .int .i64 4, .int .i64 1, .int .i64 0, .int .i64 82, .int .i64 3] 53)
    refine ⟨v21.heap.size, hv.mono SZ, Nat.le_refl _, ?_⟩
    replace HF2 := Lib.hid (HF2.out.keep hv)
    replace YD := Lib.hid ((hv.block _ (row_lt YD.out)).trans YD.out)
    replace Y5 := Lib.hid ((hv.block _ (row_lt Y5.out)).trans Y5.out)
    replace YB := Lib.hid (YB.out.trans (hv.mono YB.out.size))
    replace SZ := Nat.le_trans SZ hv.size
    have RSl2 := Lib.hid hr
    clear hr hv
    generalize t27.alloc (.cells #[.int .i64 1, .int .i64 (-1), .int .i64 0, .int .i64 0, .int .i64 8, .int .i64 2, .int .i64 0, .int .i64 0, .int .i64 8, .int .i64 30, .int .i64 3, .int .i64 0, .int .i64 256, .int .i64 38, .int .i64 8, .int .i64 3, .int .i64 0, .int .i64 270, .int .i64 46, .int .i64 6, .int .i64 2, .int .i64 1, .int .i64 0, .int .i64 52, .int .i64 30, .int .i64 4, .int .i64 1, .int .i64 0, .int .i64 82, .int .i64 3] 53) = t28 at *
    have HSl2 : SpS t28 (some ⟨t27.heap.size, 0, none⟩) l2 := sps_row RSl2.out rfl
    replace HSl2 := Lib.hid HSl2
    clear RSl2
    refine Tin.reg_one 19 _ rfl (by kernel_rfl) ?_
    try simp only [List.getElem_toArray, List.getElem_cons_succ, List.getElem_cons_zero]
    go_wp2_with fail
    refine (laid2 _ _ _ _ _ HF2.out HSl2.out).mono ?_
    rintro e t29 ⟨rfl, hv⟩
    go_wp2_with fail
    refine ⟨v21.heap.size, hv.mono SZ, Nat.le_refl _, ?_⟩
    replace HF2 := Lib.hid (HF2.out.keep hv)
    replace YD := Lib.hid ((hv.block _ (row_lt YD.out)).trans YD.out)
    replace Y5 := Lib.hid ((hv.block _ (row_lt Y5.out)).trans Y5.out)
    replace HSl2 := Lib.hid (HSl2.out.keep hv)
    replace YB := Lib.hid (YB.out.trans (hv.mono YB.out.size))
    replace SZ := Nat.le_trans SZ hv.size
    clear hv
    clear HF2 HSl2
    refine Tin.reg_quiets [20, 21, 22] _ 17 rfl (by simp only [Tin.pick, List.map_cons, List.map_nil, Array.getD_eq_getD_getElem?, List.getElem?_toArray, List.getElem?_cons_zero, List.getElem?_cons_succ, Option.getD_some]; rfl) (by kernel_rfl) (by kernel_rfl) ?_
    repeat (first | go_big_quiet_step (fail))
    refine wpQuiet_nil ?_
    refine Tin.reg_one 23 _ rfl (by kernel_rfl) ?_
    try simp only [List.getElem_toArray, List.getElem_cons_succ, List.getElem_cons_zero]
    go_wp2_with fail
    refine (spot_any 1 (-1) 0 0 8 _).mono ?_
    rintro e t30 ⟨rfl, hv⟩
    go_wp2_with fail
    refine ⟨v21.heap.size, hv.mono SZ, Nat.le_refl _, ?_⟩
    replace YD := Lib.hid ((hv.block _ (row_lt YD.out)).trans YD.out)
    replace Y5 := Lib.hid ((hv.block _ (row_lt Y5.out)).trans Y5.out)
    replace YB := Lib.hid (YB.out.trans (hv.mono YB.out.size))
    replace SZ := Nat.le_trans SZ hv.size
    clear hv
    refine Tin.reg_one 24 _ rfl (by kernel_rfl) ?_
    try simp only [List.getElem_toArray, List.getElem_cons_succ, List.getElem_cons_zero]
    go_wp2_with fail
    have hv := ba (brefl t30) (.cells #[.int .i64 1, .int .i64 (-1), .int .i64 0, .int .i64 0, .int .i64 8] 53)
    have hr := heap_alloc_new t30 (.cells #[.int .i64 1, .int .i64 (-1), .int .i64 0, .int .i64 0, .int .i64 8] 53)
    refine ⟨v21.heap.size, hv.mono SZ, Nat.le_refl _, ?_⟩
    replace YD := Lib.hid ((hv.block _ (row_lt YD.out)).trans YD.out)
    replace Y5 := Lib.hid ((hv.block _ (row_lt Y5.out)).trans Y5.out)
    replace YB := Lib.hid (YB.out.trans (hv.mono YB.out.size))
    replace SZ := Nat.le_trans SZ hv.size
    have RSl0 := Lib.hid hr
    clear hr hv
    generalize t30.alloc (.cells #[.int .i64 1, .int .i64 (-1), .int .i64 0, .int .i64 0, .int .i64 8] 53) = t31 at *
    have HSl0 : SpS t31 (some ⟨t30.heap.size, 0, none⟩) l0 := sps_row RSl0.out rfl
    replace HSl0 := Lib.hid HSl0
    clear RSl0
    refine Tin.reg_one 25 _ rfl (by kernel_rfl) ?_
    try simp only [List.getElem_toArray, List.getElem_cons_succ, List.getElem_cons_zero]
    go_wp2_with fail
    refine (laid0 _ _ _ HSl0.out).mono ?_
    rintro e t32 ⟨rfl, hv⟩
    go_wp2_with fail
    refine ⟨v21.heap.size, hv.mono SZ, Nat.le_refl _, ?_⟩
    replace YD := Lib.hid ((hv.block _ (row_lt YD.out)).trans YD.out)
    replace Y5 := Lib.hid ((hv.block _ (row_lt Y5.out)).trans Y5.out)
    replace HSl0 := Lib.hid (HSl0.out.keep hv)
    replace YB := Lib.hid (YB.out.trans (hv.mono YB.out.size))
    replace SZ := Nat.le_trans SZ hv.size
    clear hv
    clear HSl0
    have q5 : ∀ p : Bel (v21.heap.size) t32, p.w'.cell? ⟨g5, 1, none⟩ = some (.slice (some ⟨gd, 0, none⟩) 2 2) := fun p => row_cell ((p.h.block _ LT_Y5).trans Y5.out) 1 rfl
    refine Tin.reg_quiets [26, 27, 28, 29, 30, 31, 32, 33, 34, 35] _ 4 rfl (by simp only [Tin.pick, List.map_cons, List.map_nil, Array.getD_eq_getD_getElem?, List.getElem?_toArray, List.getElem?_cons_zero, List.getElem?_cons_succ, Option.getD_some]; rfl) (by kernel_rfl) (by kernel_rfl) ?_
    repeat (first | ((with_reducible refine wpq_loadv rtDi ?_ (.tmp 72) ?_ gd 3 ?_ [.slice none 0 0, .slice none 0 0, .slice (some ⟨gb, 0, none⟩) 3 3] ?_ (fun W h => by obtain ⟨p, rfl⟩ := h; exact tail3 ((p.h.block _ LT_YD).trans YD.out)) ?_); rfl; rfl; rfl; rfl; simp only [Act.put, List.setIfInBounds_toArray, List.set_cons_succ, List.set_cons_zero]) | go_big_quiet_step (fail))
    refine wpQuiet_nil ?_
    clear q5
    have HEN := Lib.hid (fun W => lent_any none none (some ⟨gb, 0, none⟩) 0 0 0 0 3 3 W (by decide) (by decide))
    rw [show entV 0 0 3 = 2 from rfl] at HEN
    refine Tin.reg_one 36 _ rfl (by kernel_rfl) ?_
    try simp only [List.getElem_toArray, List.getElem_cons_succ, List.getElem_cons_zero]
    go_wp2_with fail
    refine (HEN.out _).mono ?_
    rintro e t33 ⟨rfl, hv⟩
    go_wp2_with fail
    refine ⟨v21.heap.size, hv.mono SZ, Nat.le_refl _, ?_⟩
    replace YD := Lib.hid ((hv.block _ (row_lt YD.out)).trans YD.out)
    replace Y5 := Lib.hid ((hv.block _ (row_lt Y5.out)).trans Y5.out)
    replace YB := Lib.hid (YB.out.trans (hv.mono YB.out.size))
    replace SZ := Nat.le_trans SZ hv.size
    clear hv
    refine Tin.reg_quiets [37, 38, 39] _ 0 rfl (by simp only [Tin.pick, List.map_cons, List.map_nil, Array.getD_eq_getD_getElem?, List.getElem?_toArray, List.getElem?_cons_zero, List.getElem?_cons_succ, Option.getD_some]; rfl) (by kernel_rfl) (by kernel_rfl) ?_
    repeat (first | go_big_quiet_step (fail))
    refine wpQuiet_nil ?_
    refine Tin.reg_done (by kernel_rfl) ?_
    go_wp2_with fail
    go_ret
    exact ⟨rfl, YB.out⟩
  intro tail
  refine Tin.reg_one 0 _ rfl (by kernel_rfl) ?_
  try simp only [List.getElem_toArray, List.getElem_cons_succ, List.getElem_cons_zero]
  go_wp2_with fail
  have hv := ba (brefl u0) (.cells #[.int .i64 1] 3)
  have hs0 := Sl.new_ (k := .i64) u0 3 #[.int .i64 1] [1] rfl
  refine ⟨v21.heap.size, hv.mono SZ, Nat.le_refl _, ?_⟩
  replace HF2 := Lib.hid (HF2.out.keep hv)
  replace YD := Lib.hid ((hv.block _ (row_lt YD.out)).trans YD.out)
  replace Y5 := Lib.hid ((hv.block _ (row_lt Y5.out)).trans Y5.out)
  replace YB := Lib.hid (YB.out.trans (hv.mono YB.out.size))
  replace SZ := Nat.le_trans SZ hv.size
  have HS0 := Lib.hid hs0
  clear hs0 hv
  generalize u0.alloc (.cells #[.int .i64 1] 3) = u1 at *
  refine Tin.reg_one 1 _ rfl (by kernel_rfl) ?_
  try simp only [List.getElem_toArray, List.getElem_cons_succ, List.getElem_cons_zero]
  go_wp2_with fail
  refine (tag_any _ _ _ HS0.out).mono ?_
  rintro e v22 ⟨A6, c6, rfl, hv22_0, hv⟩
  go_wp2_with fail
  refine ⟨v21.heap.size, hv.mono SZ, Nat.le_refl _, ?_⟩
  replace HF2 := Lib.hid (HF2.out.keep hv)
  replace YD := Lib.hid ((hv.block _ (row_lt YD.out)).trans YD.out)
  replace Y5 := Lib.hid ((hv.block _ (row_lt Y5.out)).trans Y5.out)
  replace HS0 := Lib.hid (HS0.out.keep hv)
  replace YB := Lib.hid (YB.out.trans (hv.mono YB.out.size))
  have HT6 := Lib.hid hv22_0
  replace SZ := Nat.le_trans SZ hv.size
  clear hv22_0 hv
  clear HS0
  refine Tin.reg_two 2 6 _ _ rfl rfl (by kernel_rfl) ?_ ?_
  · try simp only [List.getElem_toArray, List.getElem_cons_succ, List.getElem_cons_zero]
    go_wp2_with fail
    have hv := ba (brefl v22) (.cells #[.int .i64 256, .int .i64 3, .int .i64 1, .slice A6 2 c6] 50)
    have hr := heap_alloc_new v22 (.cells #[.int .i64 256, .int .i64 3, .int .i64 1, .slice A6 2 c6] 50)
    refine ⟨v21.heap.size, hv.mono SZ, Nat.le_refl _, ?_⟩
    replace HF2 := Lib.hid (HF2.out.keep hv)
    replace YD := Lib.hid ((hv.block _ (row_lt YD.out)).trans YD.out)
    replace Y5 := Lib.hid ((hv.block _ (row_lt Y5.out)).trans Y5.out)
    replace HT6 := Lib.hid (HT6.out.keep hv)
    replace YB := Lib.hid (YB.out.trans (hv.mono YB.out.size))
    replace SZ := Nat.le_trans SZ hv.size
    have RA := Lib.hid hr
    clear hr hv
    generalize v22.alloc (.cells #[.int .i64 256, .int .i64 3, .int .i64 1, .slice A6 2 c6] 50) = v23 at *
    refine Tin.reg_quiets [3] _ 36 rfl (by simp only [Tin.pick, List.map_cons, List.map_nil, Array.getD_eq_getD_getElem?, List.getElem?_toArray, List.getElem?_cons_zero, List.getElem?_cons_succ, Option.getD_some]; rfl) (by kernel_rfl) (by kernel_rfl) ?_
    repeat (first | go_big_quiet_step (fail))
    refine wpQuiet_nil ?_
    refine Tin.reg_two 4 6 _ _ rfl rfl (by kernel_rfl) ?_ ?_
    · try simp only [List.getElem_toArray, List.getElem_cons_succ, List.getElem_cons_zero]
      go_wp2_with fail
      have hv := ba (brefl v23) (.cells #[.slice (some ⟨v22.heap.size, 0, none⟩) 1 1, .slice none 0 0, .slice none 0 0] 42)
      have hr := heap_alloc_new v23 (.cells #[.slice (some ⟨v22.heap.size, 0, none⟩) 1 1, .slice none 0 0, .slice none 0 0] 42)
      refine ⟨v21.heap.size, hv.mono SZ, Nat.le_refl _, ?_⟩
      replace HF2 := Lib.hid (HF2.out.keep hv)
      replace YD := Lib.hid ((hv.block _ (row_lt YD.out)).trans YD.out)
      replace Y5 := Lib.hid ((hv.block _ (row_lt Y5.out)).trans Y5.out)
      replace HT6 := Lib.hid (HT6.out.keep hv)
      replace RA := Lib.hid ((hv.block _ (row_lt RA.out)).trans RA.out)
      replace YB := Lib.hid (YB.out.trans (hv.mono YB.out.size))
      replace SZ := Nat.le_trans SZ hv.size
      have RD := Lib.hid hr
      clear hr hv
      generalize v23.alloc (.cells #[.slice (some ⟨v22.heap.size, 0, none⟩) 1 1, .slice none 0 0, .slice none 0 0] 42) = v24 at *
      have HF1 : FoK v24 (some ⟨v23.heap.size, 0, none⟩) f1 := fok_row RD.out (fov1 (tgk1 RA.out HT6.out rfl (byts_al rfl) (by decide)) (.inl rfl) (byts_al rfl) rfl rfl (by decide) (by decide) rfl)
      replace HF1 := Lib.hid HF1
      clear RA RD HT6
      refine Tin.reg_quiets [5] _ 34 rfl (by simp only [Tin.pick, List.map_cons, List.map_nil, Array.getD_eq_getD_getElem?, List.getElem?_toArray, List.getElem?_cons_zero, List.getElem?_cons_succ, Option.getD_some]; rfl) (by kernel_rfl) (by kernel_rfl) ?_
      repeat (first | go_big_quiet_step (fail))
      refine wpQuiet_nil ?_
      refine Tin.reg_one 6 _ rfl (by kernel_rfl) ?_
      try simp only [List.getElem_toArray, List.getElem_cons_succ, List.getElem_cons_zero]
      go_wp2_with fail
      refine (spot_any 1 (-1) 0 0 8 _).mono ?_
      rintro e v25 ⟨rfl, hv⟩
      go_wp2_with fail
      refine ⟨v21.heap.size, hv.mono SZ, Nat.le_refl _, ?_⟩
      replace HF2 := Lib.hid (HF2.out.keep hv)
      replace YD := Lib.hid ((hv.block _ (row_lt YD.out)).trans YD.out)
      replace Y5 := Lib.hid ((hv.block _ (row_lt Y5.out)).trans Y5.out)
      replace HF1 := Lib.hid (HF1.out.keep hv)
      replace YB := Lib.hid (YB.out.trans (hv.mono YB.out.size))
      replace SZ := Nat.le_trans SZ hv.size
      clear hv
      refine Tin.reg_one 7 _ rfl (by kernel_rfl) ?_
      try simp only [List.getElem_toArray, List.getElem_cons_succ, List.getElem_cons_zero]
      go_wp2_with fail
      refine (spot_any 2 0 0 8 18 _).mono ?_
      rintro e v26 ⟨rfl, hv⟩
      go_wp2_with fail
      refine ⟨v21.heap.size, hv.mono SZ, Nat.le_refl _, ?_⟩
      replace HF2 := Lib.hid (HF2.out.keep hv)
      replace YD := Lib.hid ((hv.block _ (row_lt YD.out)).trans YD.out)
      replace Y5 := Lib.hid ((hv.block _ (row_lt Y5.out)).trans Y5.out)
      replace HF1 := Lib.hid (HF1.out.keep hv)
      replace YB := Lib.hid (YB.out.trans (hv.mono YB.out.size))
      replace SZ := Nat.le_trans SZ hv.size
      clear hv
      refine Tin.reg_one 8 _ rfl (by kernel_rfl) ?_
      try simp only [List.getElem_toArray, List.getElem_cons_succ, List.getElem_cons_zero]
      go_wp2_with fail
      have hv := ba (brefl v26) (.cells #[.int .i64 1, .int .i64 (-1), .int .i64 0, .int .i64 0, .int .i64 8, .int .i64 2, .int .i64 0, .int .i64 0, .int .i64 8, .int .i64 18] 53)
      have hr := heap_alloc_new v26 (.cells #[.int .i64 1, .int .i64 (-1), .int .i64 0, .int .i64 0, .int .i64 8, .int .i64 2, .int .i64 0, .int .i64 0, .int .i64 8, .int .i64 18] 53)
      refine ⟨v21.heap.size, hv.mono SZ, Nat.le_refl _, ?_⟩
      replace HF2 := Lib.hid (HF2.out.keep hv)
      replace YD := Lib.hid ((hv.block _ (row_lt YD.out)).trans YD.out)
      replace Y5 := Lib.hid ((hv.block _ (row_lt Y5.out)).trans Y5.out)
      replace HF1 := Lib.hid (HF1.out.keep hv)
      replace YB := Lib.hid (YB.out.trans (hv.mono YB.out.size))
      replace SZ := Nat.le_trans SZ hv.size
      have RSl1 := Lib.hid hr
      clear hr hv
      generalize v26.alloc (.cells #[.int .i64 1, .int .i64 (-1), .int .i64 0, .int .i64 0, .int .i64 8, .int .i64 2, .int .i64 0, .int .i64 0, .int .i64 8, .int .i64 18] 53) = v27 at *
      have HSl1 : SpS v27 (some ⟨v26.heap.size, 0, none⟩) l1 := sps_row RSl1.out rfl
      replace HSl1 := Lib.hid HSl1
      clear RSl1
      refine Tin.reg_one 9 _ rfl (by kernel_rfl) ?_
      try simp only [List.getElem_toArray, List.getElem_cons_succ, List.getElem_cons_zero]
      go_wp2_with fail
      refine (laid1 _ _ _ _ _ HF1.out HSl1.out).mono ?_
      rintro e v28 ⟨rfl, hv⟩
      go_wp2_with fail
      refine ⟨v21.heap.size, hv.mono SZ, Nat.le_refl _, ?_⟩
      replace HF2 := Lib.hid (HF2.out.keep hv)
      replace YD := Lib.hid ((hv.block _ (row_lt YD.out)).trans YD.out)
      replace Y5 := Lib.hid ((hv.block _ (row_lt Y5.out)).trans Y5.out)
      replace HF1 := Lib.hid (HF1.out.keep hv)
      replace HSl1 := Lib.hid (HSl1.out.keep hv)
      replace YB := Lib.hid (YB.out.trans (hv.mono YB.out.size))
      replace SZ := Nat.le_trans SZ hv.size
      clear hv
      exact tail v28 _ _ _ _ _ _ _ _ _ SZ YB.out HF2.out YD.out Y5.out
    · try simp only [List.getElem_toArray, List.getElem_cons_succ, List.getElem_cons_zero]
      go_wp2_with fail
      refine (spot_any 1 (-1) 0 0 8 _).mono ?_
      rintro e v24 ⟨rfl, hv⟩
      go_wp2_with fail
      refine ⟨v21.heap.size, hv.mono SZ, Nat.le_refl _, ?_⟩
      replace HF2 := Lib.hid (HF2.out.keep hv)
      replace YD := Lib.hid ((hv.block _ (row_lt YD.out)).trans YD.out)
      replace Y5 := Lib.hid ((hv.block _ (row_lt Y5.out)).trans Y5.out)
      replace HT6 := Lib.hid (HT6.out.keep hv)
      replace RA := Lib.hid ((hv.block _ (row_lt RA.out)).trans RA.out)
      replace YB := Lib.hid (YB.out.trans (hv.mono YB.out.size))
      replace SZ := Nat.le_trans SZ hv.size
      clear hv
      refine Tin.reg_two 4 7 _ _ rfl rfl (by kernel_rfl) ?_ ?_
      · try simp only [List.getElem_toArray, List.getElem_cons_succ, List.getElem_cons_zero]
        go_wp2_with fail
        have hv := ba (brefl v24) (.cells #[.slice (some ⟨v22.heap.size, 0, none⟩) 1 1, .slice none 0 0, .slice none 0 0] 42)
        have hr := heap_alloc_new v24 (.cells #[.slice (some ⟨v22.heap.size, 0, none⟩) 1 1, .slice none 0 0, .slice none 0 0] 42)
        refine ⟨v21.heap.size, hv.mono SZ, Nat.le_refl _, ?_⟩
        replace HF2 := Lib.hid (HF2.out.keep hv)
        replace YD := Lib.hid ((hv.block _ (row_lt YD.out)).trans YD.out)
        replace Y5 := Lib.hid ((hv.block _ (row_lt Y5.out)).trans Y5.out)
        replace HT6 := Lib.hid (HT6.out.keep hv)
        replace RA := Lib.hid ((hv.block _ (row_lt RA.out)).trans RA.out)
        replace YB := Lib.hid (YB.out.trans (hv.mono YB.out.size))
        replace SZ := Nat.le_trans SZ hv.size
        have RD := Lib.hid hr
        clear hr hv
        generalize v24.alloc (.cells #[.slice (some ⟨v22.heap.size, 0, none⟩) 1 1, .slice none 0 0, .slice none 0 0] 42) = v25 at *
        have HF1 : FoK v25 (some ⟨v24.heap.size, 0, none⟩) f1 := fok_row RD.out (fov1 (tgk1 RA.out HT6.out rfl (byts_al rfl) (by decide)) (.inl rfl) (byts_al rfl) rfl rfl (by decide) (by decide) rfl)
        replace HF1 := Lib.hid HF1
        clear RA RD HT6
        refine Tin.reg_quiets [5] _ 33 rfl (by simp only [Tin.pick, List.map_cons, List.map_nil, Array.getD_eq_getD_getElem?, List.getElem?_toArray, List.getElem?_cons_zero, List.getElem?_cons_succ, Option.getD_some]; rfl) (by kernel_rfl) (by kernel_rfl) ?_
        repeat (first | go_big_quiet_step (fail))
        refine wpQuiet_nil ?_
        refine Tin.reg_one 7 _ rfl (by kernel_rfl) ?_
        try simp only [List.getElem_toArray, List.getElem_cons_succ, List.getElem_cons_zero]
        go_wp2_with fail
        refine (spot_any 2 0 0 8 18 _).mono ?_
        rintro e v26 ⟨rfl, hv⟩
        go_wp2_with fail
        refine ⟨v21.heap.size, hv.mono SZ, Nat.le_refl _, ?_⟩
        replace HF2 := Lib.hid (HF2.out.keep hv)
        replace YD := Lib.hid ((hv.block _ (row_lt YD.out)).trans YD.out)
        replace Y5 := Lib.hid ((hv.block _ (row_lt Y5.out)).trans Y5.out)
        replace HF1 := Lib.hid (HF1.out.keep hv)
        replace YB := Lib.hid (YB.out.trans (hv.mono YB.out.size))
        replace SZ := Nat.le_trans SZ hv.size
        clear hv
        refine Tin.reg_one 8 _ rfl (by kernel_rfl) ?_
        try simp only [List.getElem_toArray, List.getElem_cons_succ, List.getElem_cons_zero]
        go_wp2_with fail
        have hv := ba (brefl v26) (.cells #[.int .i64 1, .int .i64 (-1), .int .i64 0, .int .i64 0, .int .i64 8, .int .i64 2, .int .i64 0, .int .i64 0, .int .i64 8, .int .i64 18] 53)
        have hr := heap_alloc_new v26 (.cells #[.int .i64 1, .int .i64 (-1), .int .i64 0, .int .i64 0, .int .i64 8, .int .i64 2, .int .i64 0, .int .i64 0, .int .i64 8, .int .i64 18] 53)
        refine ⟨v21.heap.size, hv.mono SZ, Nat.le_refl _, ?_⟩
        replace HF2 := Lib.hid (HF2.out.keep hv)
        replace YD := Lib.hid ((hv.block _ (row_lt YD.out)).trans YD.out)
        replace Y5 := Lib.hid ((hv.block _ (row_lt Y5.out)).trans Y5.out)
        replace HF1 := Lib.hid (HF1.out.keep hv)
        replace YB := Lib.hid (YB.out.trans (hv.mono YB.out.size))
        replace SZ := Nat.le_trans SZ hv.size
        have RSl1 := Lib.hid hr
        clear hr hv
        generalize v26.alloc (.cells #[.int .i64 1, .int .i64 (-1), .int .i64 0, .int .i64 0, .int .i64 8, .int .i64 2, .int .i64 0, .int .i64 0, .int .i64 8, .int .i64 18] 53) = v27 at *
        have HSl1 : SpS v27 (some ⟨v26.heap.size, 0, none⟩) l1 := sps_row RSl1.out rfl
        replace HSl1 := Lib.hid HSl1
        clear RSl1
        refine Tin.reg_one 9 _ rfl (by kernel_rfl) ?_
        try simp only [List.getElem_toArray, List.getElem_cons_succ, List.getElem_cons_zero]
        go_wp2_with fail
        refine (laid1 _ _ _ _ _ HF1.out HSl1.out).mono ?_
        rintro e v28 ⟨rfl, hv⟩
        go_wp2_with fail
        refine ⟨v21.heap.size, hv.mono SZ, Nat.le_refl _, ?_⟩
        replace HF2 := Lib.hid (HF2.out.keep hv)
        replace YD := Lib.hid ((hv.block _ (row_lt YD.out)).trans YD.out)
        replace Y5 := Lib.hid ((hv.block _ (row_lt Y5.out)).trans Y5.out)
        replace HF1 := Lib.hid (HF1.out.keep hv)
        replace HSl1 := Lib.hid (HSl1.out.keep hv)
        replace YB := Lib.hid (YB.out.trans (hv.mono YB.out.size))
        replace SZ := Nat.le_trans SZ hv.size
        clear hv
        exact tail v28 _ _ _ _ _ _ _ _ _ SZ YB.out HF2.out YD.out Y5.out
      · try simp only [List.getElem_toArray, List.getElem_cons_succ, List.getElem_cons_zero]
        go_wp2_with fail
        refine (spot_any 2 0 0 8 18 _).mono ?_
        rintro e v25 ⟨rfl, hv⟩
        go_wp2_with fail
        refine ⟨v21.heap.size, hv.mono SZ, Nat.le_refl _, ?_⟩
        replace HF2 := Lib.hid (HF2.out.keep hv)
        replace YD := Lib.hid ((hv.block _ (row_lt YD.out)).trans YD.out)
        replace Y5 := Lib.hid ((hv.block _ (row_lt Y5.out)).trans Y5.out)
        replace HT6 := Lib.hid (HT6.out.keep hv)
        replace RA := Lib.hid ((hv.block _ (row_lt RA.out)).trans RA.out)
        replace YB := Lib.hid (YB.out.trans (hv.mono YB.out.size))
        replace SZ := Nat.le_trans SZ hv.size
        clear hv
        refine Tin.reg_two 4 8 _ _ rfl rfl (by kernel_rfl) ?_ ?_
        · try simp only [List.getElem_toArray, List.getElem_cons_succ, List.getElem_cons_zero]
          go_wp2_with fail
          have hv := ba (brefl v25) (.cells #[.slice (some ⟨v22.heap.size, 0, none⟩) 1 1, .slice none 0 0, .slice none 0 0] 42)
          have hr := heap_alloc_new v25 (.cells #[.slice (some ⟨v22.heap.size, 0, none⟩) 1 1, .slice none 0 0, .slice none 0 0] 42)
          refine ⟨v21.heap.size, hv.mono SZ, Nat.le_refl _, ?_⟩
          replace HF2 := Lib.hid (HF2.out.keep hv)
          replace YD := Lib.hid ((hv.block _ (row_lt YD.out)).trans YD.out)
          replace Y5 := Lib.hid ((hv.block _ (row_lt Y5.out)).trans Y5.out)
          replace HT6 := Lib.hid (HT6.out.keep hv)
          replace RA := Lib.hid ((hv.block _ (row_lt RA.out)).trans RA.out)
          replace YB := Lib.hid (YB.out.trans (hv.mono YB.out.size))
          replace SZ := Nat.le_trans SZ hv.size
          have RD := Lib.hid hr
          clear hr hv
          generalize v25.alloc (.cells #[.slice (some ⟨v22.heap.size, 0, none⟩) 1 1, .slice none 0 0, .slice none 0 0] 42) = v26 at *
          have HF1 : FoK v26 (some ⟨v25.heap.size, 0, none⟩) f1 := fok_row RD.out (fov1 (tgk1 RA.out HT6.out rfl (byts_al rfl) (by decide)) (.inl rfl) (byts_al rfl) rfl rfl (by decide) (by decide) rfl)
          replace HF1 := Lib.hid HF1
          clear RA RD HT6
          refine Tin.reg_quiets [5] _ 32 rfl (by simp only [Tin.pick, List.map_cons, List.map_nil, Array.getD_eq_getD_getElem?, List.getElem?_toArray, List.getElem?_cons_zero, List.getElem?_cons_succ, Option.getD_some]; rfl) (by kernel_rfl) (by kernel_rfl) ?_
          repeat (first | go_big_quiet_step (fail))
          refine wpQuiet_nil ?_
          refine Tin.reg_one 8 _ rfl (by kernel_rfl) ?_
          try simp only [List.getElem_toArray, List.getElem_cons_succ, List.getElem_cons_zero]
          go_wp2_with fail
          have hv := ba (brefl v26) (.cells #[.int .i64 1, .int .i64 (-1), .int .i64 0, .int .i64 0, .int .i64 8, .int .i64 2, .int .i64 0, .int .i64 0, .int .i64 8, .int .i64 18] 53)
          have hr := heap_alloc_new v26 (.cells #[.int .i64 1, .int .i64 (-1), .int .i64 0, .int .i64 0, .int .i64 8, .int .i64 2, .int .i64 0, .int .i64 0, .int .i64 8, .int .i64 18] 53)
          refine ⟨v21.heap.size, hv.mono SZ, Nat.le_refl _, ?_⟩
          replace HF2 := Lib.hid (HF2.out.keep hv)
          replace YD := Lib.hid ((hv.block _ (row_lt YD.out)).trans YD.out)
          replace Y5 := Lib.hid ((hv.block _ (row_lt Y5.out)).trans Y5.out)
          replace HF1 := Lib.hid (HF1.out.keep hv)
          replace YB := Lib.hid (YB.out.trans (hv.mono YB.out.size))
          replace SZ := Nat.le_trans SZ hv.size
          have RSl1 := Lib.hid hr
          clear hr hv
          generalize v26.alloc (.cells #[.int .i64 1, .int .i64 (-1), .int .i64 0, .int .i64 0, .int .i64 8, .int .i64 2, .int .i64 0, .int .i64 0, .int .i64 8, .int .i64 18] 53) = v27 at *
          have HSl1 : SpS v27 (some ⟨v26.heap.size, 0, none⟩) l1 := sps_row RSl1.out rfl
          replace HSl1 := Lib.hid HSl1
          clear RSl1
          refine Tin.reg_one 9 _ rfl (by kernel_rfl) ?_
          try simp only [List.getElem_toArray, List.getElem_cons_succ, List.getElem_cons_zero]
          go_wp2_with fail
          refine (laid1 _ _ _ _ _ HF1.out HSl1.out).mono ?_
          rintro e v28 ⟨rfl, hv⟩
          go_wp2_with fail
          refine ⟨v21.heap.size, hv.mono SZ, Nat.le_refl _, ?_⟩
          replace HF2 := Lib.hid (HF2.out.keep hv)
          replace YD := Lib.hid ((hv.block _ (row_lt YD.out)).trans YD.out)
          replace Y5 := Lib.hid ((hv.block _ (row_lt Y5.out)).trans Y5.out)
          replace HF1 := Lib.hid (HF1.out.keep hv)
          replace HSl1 := Lib.hid (HSl1.out.keep hv)
          replace YB := Lib.hid (YB.out.trans (hv.mono YB.out.size))
          replace SZ := Nat.le_trans SZ hv.size
          clear hv
          exact tail v28 _ _ _ _ _ _ _ _ _ SZ YB.out HF2.out YD.out Y5.out
        · try simp only [List.getElem_toArray, List.getElem_cons_succ, List.getElem_cons_zero]
          go_wp2_with fail
          have hv := ba (brefl v25) (.cells #[.int .i64 1, .int .i64 (-1), .int .i64 0, .int .i64 0, .int .i64 8, .int .i64 2, .int .i64 0, .int .i64 0, .int .i64 8, .int .i64 18] 53)
          have hr := heap_alloc_new v25 (.cells #[.int .i64 1, .int .i64 (-1), .int .i64 0, .int .i64 0, .int .i64 8, .int .i64 2, .int .i64 0, .int .i64 0, .int .i64 8, .int .i64 18] 53)
          refine ⟨v21.heap.size, hv.mono SZ, Nat.le_refl _, ?_⟩
          replace HF2 := Lib.hid (HF2.out.keep hv)
          replace YD := Lib.hid ((hv.block _ (row_lt YD.out)).trans YD.out)
          replace Y5 := Lib.hid ((hv.block _ (row_lt Y5.out)).trans Y5.out)
          replace HT6 := Lib.hid (HT6.out.keep hv)
          replace RA := Lib.hid ((hv.block _ (row_lt RA.out)).trans RA.out)
          replace YB := Lib.hid (YB.out.trans (hv.mono YB.out.size))
          replace SZ := Nat.le_trans SZ hv.size
          have RSl1 := Lib.hid hr
          clear hr hv
          generalize v25.alloc (.cells #[.int .i64 1, .int .i64 (-1), .int .i64 0, .int .i64 0, .int .i64 8, .int .i64 2, .int .i64 0, .int .i64 0, .int .i64 8, .int .i64 18] 53) = v26 at *
          have HSl1 : SpS v26 (some ⟨v25.heap.size, 0, none⟩) l1 := sps_row RSl1.out rfl
          replace HSl1 := Lib.hid HSl1
          clear RSl1
          refine Tin.reg_one 4 _ rfl (by kernel_rfl) ?_
          try simp only [List.getElem_toArray, List.getElem_cons_succ, List.getElem_cons_zero]
          go_wp2_with fail
          have hv := ba (brefl v26) (.cells #[.slice (some ⟨v22.heap.size, 0, none⟩) 1 1, .slice none 0 0, .slice none 0 0] 42)
          have hr := heap_alloc_new v26 (.cells #[.slice (some ⟨v22.heap.size, 0, none⟩) 1 1, .slice none 0 0, .slice none 0 0] 42)
          refine ⟨v21.heap.size, hv.mono SZ, Nat.le_refl _, ?_⟩
          replace HF2 := Lib.hid (HF2.out.keep hv)
          replace YD := Lib.hid ((hv.block _ (row_lt YD.out)).trans YD.out)
          replace Y5 := Lib.hid ((hv.block _ (row_lt Y5.out)).trans Y5.out)
          replace HT6 := Lib.hid (HT6.out.keep hv)
          replace RA := Lib.hid ((hv.block _ (row_lt RA.out)).trans RA.out)
          replace HSl1 := Lib.hid (HSl1.out.keep hv)
          replace YB := Lib.hid (YB.out.trans (hv.mono YB.out.size))
          replace SZ := Nat.le_trans SZ hv.size
          have RD := Lib.hid hr
          clear hr hv
          generalize v26.alloc (.cells #[.slice (some ⟨v22.heap.size, 0, none⟩) 1 1, .slice none 0 0, .slice none 0 0] 42) = v27 at *
          have HF1 : FoK v27 (some ⟨v26.heap.size, 0, none⟩) f1 := fok_row RD.out (fov1 (tgk1 RA.out HT6.out rfl (byts_al rfl) (by decide)) (.inl rfl) (byts_al rfl) rfl rfl (by decide) (by decide) rfl)
          replace HF1 := Lib.hid HF1
          clear RA RD HT6
          refine Tin.reg_quiets [5] _ 31 rfl (by simp only [Tin.pick, List.map_cons, List.map_nil, Array.getD_eq_getD_getElem?, List.getElem?_toArray, List.getElem?_cons_zero, List.getElem?_cons_succ, Option.getD_some]; rfl) (by kernel_rfl) (by kernel_rfl) ?_
          repeat (first | go_big_quiet_step (fail))
          refine wpQuiet_nil ?_
          refine Tin.reg_one 9 _ rfl (by kernel_rfl) ?_
          try simp only [List.getElem_toArray, List.getElem_cons_succ, List.getElem_cons_zero]
          go_wp2_with fail
          refine (laid1 _ _ _ _ _ HF1.out HSl1.out).mono ?_
          rintro e v28 ⟨rfl, hv⟩
          go_wp2_with fail
          refine ⟨v21.heap.size, hv.mono SZ, Nat.le_refl _, ?_⟩
          replace HF2 := Lib.hid (HF2.out.keep hv)
          replace YD := Lib.hid ((hv.block _ (row_lt YD.out)).trans YD.out)
          replace Y5 := Lib.hid ((hv.block _ (row_lt Y5.out)).trans Y5.out)
          replace HSl1 := Lib.hid (HSl1.out.keep hv)
          replace HF1 := Lib.hid (HF1.out.keep hv)
          replace YB := Lib.hid (YB.out.trans (hv.mono YB.out.size))
          replace SZ := Nat.le_trans SZ hv.size
          clear hv
          exact tail v28 _ _ _ _ _ _ _ _ _ SZ YB.out HF2.out YD.out Y5.out
  · try simp only [List.getElem_toArray, List.getElem_cons_succ, List.getElem_cons_zero]
    go_wp2_with fail
    refine (spot_any 1 (-1) 0 0 8 _).mono ?_
    rintro e v23 ⟨rfl, hv⟩
    go_wp2_with fail
    refine ⟨v21.heap.size, hv.mono SZ, Nat.le_refl _, ?_⟩
    replace HF2 := Lib.hid (HF2.out.keep hv)
    replace YD := Lib.hid ((hv.block _ (row_lt YD.out)).trans YD.out)
    replace Y5 := Lib.hid ((hv.block _ (row_lt Y5.out)).trans Y5.out)
    replace HT6 := Lib.hid (HT6.out.keep hv)
    replace YB := Lib.hid (YB.out.trans (hv.mono YB.out.size))
    replace SZ := Nat.le_trans SZ hv.size
    clear hv
    refine Tin.reg_two 2 7 _ _ rfl rfl (by kernel_rfl) ?_ ?_
    · try simp only [List.getElem_toArray, List.getElem_cons_succ, List.getElem_cons_zero]
      go_wp2_with fail
      have hv := ba (brefl v23) (.cells #[.int .i64 256, .int .i64 3, .int .i64 1, .slice A6 2 c6] 50)
      have hr := heap_alloc_new v23 (.cells #[.int .i64 256, .int .i64 3, .int .i64 1, .slice A6 2 c6] 50)
      refine ⟨v21.heap.size, hv.mono SZ, Nat.le_refl _, ?_⟩
      replace HF2 := Lib.hid (HF2.out.keep hv)
      replace YD := Lib.hid ((hv.block _ (row_lt YD.out)).trans YD.out)
      replace Y5 := Lib.hid ((hv.block _ (row_lt Y5.out)).trans Y5.out)
      replace HT6 := Lib.hid (HT6.out.keep hv)
      replace YB := Lib.hid (YB.out.trans (hv.mono YB.out.size))
      replace SZ := Nat.le_trans SZ hv.size
      have RA := Lib.hid hr
      clear hr hv
      generalize v23.alloc (.cells #[.int .i64 256, .int .i64 3, .int .i64 1, .slice A6 2 c6] 50) = v24 at *
      refine Tin.reg_quiets [3] _ 35 rfl (by simp only [Tin.pick, List.map_cons, List.map_nil, Array.getD_eq_getD_getElem?, List.getElem?_toArray, List.getElem?_cons_zero, List.getElem?_cons_succ, Option.getD_some]; rfl) (by kernel_rfl) (by kernel_rfl) ?_
      repeat (first | go_big_quiet_step (fail))
      refine wpQuiet_nil ?_
      refine Tin.reg_two 4 7 _ _ rfl rfl (by kernel_rfl) ?_ ?_
      · try simp only [List.getElem_toArray, List.getElem_cons_succ, List.getElem_cons_zero]
        go_wp2_with fail
        have hv := ba (brefl v24) (.cells #[.slice (some ⟨v23.heap.size, 0, none⟩) 1 1, .slice none 0 0, .slice none 0 0] 42)
        have hr := heap_alloc_new v24 (.cells #[.slice (some ⟨v23.heap.size, 0, none⟩) 1 1, .slice none 0 0, .slice none 0 0] 42)
        refine ⟨v21.heap.size, hv.mono SZ, Nat.le_refl _, ?_⟩
        replace HF2 := Lib.hid (HF2.out.keep hv)
        replace YD := Lib.hid ((hv.block _ (row_lt YD.out)).trans YD.out)
        replace Y5 := Lib.hid ((hv.block _ (row_lt Y5.out)).trans Y5.out)
        replace HT6 := Lib.hid (HT6.out.keep hv)
        replace RA := Lib.hid ((hv.block _ (row_lt RA.out)).trans RA.out)
        replace YB := Lib.hid (YB.out.trans (hv.mono YB.out.size))
        replace SZ := Nat.le_trans SZ hv.size
        have RD := Lib.hid hr
        clear hr hv
        generalize v24.alloc (.cells #[.slice (some ⟨v23.heap.size, 0, none⟩) 1 1, .slice none 0 0, .slice none 0 0] 42) = v25 at *
        have HF1 : FoK v25 (some ⟨v24.heap.size, 0, none⟩) f1 := fok_row RD.out (fov1 (tgk1 RA.out HT6.out rfl (byts_al rfl) (by decide)) (.inl rfl) (byts_al rfl) rfl rfl (by decide) (by decide) rfl)
        replace HF1 := Lib.hid HF1
        clear RA RD HT6
        refine Tin.reg_quiets [5] _ 33 rfl (by simp only [Tin.pick, List.map_cons, List.map_nil, Array.getD_eq_getD_getElem?, List.getElem?_toArray, List.getElem?_cons_zero, List.getElem?_cons_succ, Option.getD_some]; rfl) (by kernel_rfl) (by kernel_rfl) ?_
        repeat (first | go_big_quiet_step (fail))
        refine wpQuiet_nil ?_
        refine Tin.reg_one 7 _ rfl (by kernel_rfl) ?_
        try simp only [List.getElem_toArray, List.getElem_cons_succ, List.getElem_cons_zero]
        go_wp2_with fail
        refine (spot_any 2 0 0 8 18 _).mono ?_
        rintro e v26 ⟨rfl, hv⟩
        go_wp2_with fail
        refine ⟨v21.heap.size, hv.mono SZ, Nat.le_refl _, ?_⟩
        replace HF2 := Lib.hid (HF2.out.keep hv)
        replace YD := Lib.hid ((hv.block _ (row_lt YD.out)).trans YD.out)
        replace Y5 := Lib.hid ((hv.block _ (row_lt Y5.out)).trans Y5.out)
        replace HF1 := Lib.hid (HF1.out.keep hv)
        replace YB := Lib.hid (YB.out.trans (hv.mono YB.out.size))
        replace SZ := Nat.le_trans SZ hv.size
        clear hv
        refine Tin.reg_one 8 _ rfl (by kernel_rfl) ?_
        try simp only [List.getElem_toArray, List.getElem_cons_succ, List.getElem_cons_zero]
        go_wp2_with fail
        have hv := ba (brefl v26) (.cells #[.int .i64 1, .int .i64 (-1), .int .i64 0, .int .i64 0, .int .i64 8, .int .i64 2, .int .i64 0, .int .i64 0, .int .i64 8, .int .i64 18] 53)
        have hr := heap_alloc_new v26 (.cells #[.int .i64 1, .int .i64 (-1), .int .i64 0, .int .i64 0, .int .i64 8, .int .i64 2, .int .i64 0, .int .i64 0, .int .i64 8, .int .i64 18] 53)
        refine ⟨v21.heap.size, hv.mono SZ, Nat.le_refl _, ?_⟩
        replace HF2 := Lib.hid (HF2.out.keep hv)
        replace YD := Lib.hid ((hv.block _ (row_lt YD.out)).trans YD.out)
        replace Y5 := Lib.hid ((hv.block _ (row_lt Y5.out)).trans Y5.out)
        replace HF1 := Lib.hid (HF1.out.keep hv)
        replace YB := Lib.hid (YB.out.trans (hv.mono YB.out.size))
        replace SZ := Nat.le_trans SZ hv.size
        have RSl1 := Lib.hid hr
        clear hr hv
        generalize v26.alloc (.cells #[.int .i64 1, .int .i64 (-1), .int .i64 0, .int .i64 0, .int .i64 8, .int .i64 2, .int .i64 0, .int .i64 0, .int .i64 8, .int .i64 18] 53) = v27 at *
        have HSl1 : SpS v27 (some ⟨v26.heap.size, 0, none⟩) l1 := sps_row RSl1.out rfl
        replace HSl1 := Lib.hid HSl1
        clear RSl1
        refine Tin.reg_one 9 _ rfl (by kernel_rfl) ?_
        try simp only [List.getElem_toArray, List.getElem_cons_succ, List.getElem_cons_zero]
        go_wp2_with fail
        refine (laid1 _ _ _ _ _ HF1.out HSl1.out).mono ?_
        rintro e v28 ⟨rfl, hv⟩
        go_wp2_with fail
        refine ⟨v21.heap.size, hv.mono SZ, Nat.le_refl _, ?_⟩
        replace HF2 := Lib.hid (HF2.out.keep hv)
        replace YD := Lib.hid ((hv.block _ (row_lt YD.out)).trans YD.out)
        replace Y5 := Lib.hid ((hv.block _ (row_lt Y5.out)).trans Y5.out)
        replace HF1 := Lib.hid (HF1.out.keep hv)
        replace HSl1 := Lib.hid (HSl1.out.keep hv)
        replace YB := Lib.hid (YB.out.trans (hv.mono YB.out.size))
        replace SZ := Nat.le_trans SZ hv.size
        clear hv
        exact tail v28 _ _ _ _ _ _ _ _ _ SZ YB.out HF2.out YD.out Y5.out
      · try simp only [List.getElem_toArray, List.getElem_cons_succ, List.getElem_cons_zero]
        go_wp2_with fail
        refine (spot_any 2 0 0 8 18 _).mono ?_
        rintro e v25 ⟨rfl, hv⟩
        go_wp2_with fail
        refine ⟨v21.heap.size, hv.mono SZ, Nat.le_refl _, ?_⟩
        replace HF2 := Lib.hid (HF2.out.keep hv)
        replace YD := Lib.hid ((hv.block _ (row_lt YD.out)).trans YD.out)
        replace Y5 := Lib.hid ((hv.block _ (row_lt Y5.out)).trans Y5.out)
        replace HT6 := Lib.hid (HT6.out.keep hv)
        replace RA := Lib.hid ((hv.block _ (row_lt RA.out)).trans RA.out)
        replace YB := Lib.hid (YB.out.trans (hv.mono YB.out.size))
        replace SZ := Nat.le_trans SZ hv.size
        clear hv
        refine Tin.reg_two 4 8 _ _ rfl rfl (by kernel_rfl) ?_ ?_
        · try simp only [List.getElem_toArray, List.getElem_cons_succ, List.getElem_cons_zero]
          go_wp2_with fail
          have hv := ba (brefl v25) (.cells #[.slice (some ⟨v23.heap.size, 0, none⟩) 1 1, .slice none 0 0, .slice none 0 0] 42)
          have hr := heap_alloc_new v25 (.cells #[.slice (some ⟨v23.heap.size, 0, none⟩) 1 1, .slice none 0 0, .slice none 0 0] 42)
          refine ⟨v21.heap.size, hv.mono SZ, Nat.le_refl _, ?_⟩
          replace HF2 := Lib.hid (HF2.out.keep hv)
          replace YD := Lib.hid ((hv.block _ (row_lt YD.out)).trans YD.out)
          replace Y5 := Lib.hid ((hv.block _ (row_lt Y5.out)).trans Y5.out)
          replace HT6 := Lib.hid (HT6.out.keep hv)
          replace RA := Lib.hid ((hv.block _ (row_lt RA.out)).trans RA.out)
          replace YB := Lib.hid (YB.out.trans (hv.mono YB.out.size))
          replace SZ := Nat.le_trans SZ hv.size
          have RD := Lib.hid hr
          clear hr hv
          generalize v25.alloc (.cells #[.slice (some ⟨v23.heap.size, 0, none⟩) 1 1, .slice none 0 0, .slice none 0 0] 42) = v26 at *
          have HF1 : FoK v26 (some ⟨v25.heap.size, 0, none⟩) f1 := fok_row RD.out (fov1 (tgk1 RA.out HT6.out rfl (byts_al rfl) (by decide)) (.inl rfl) (byts_al rfl) rfl rfl (by decide) (by decide) rfl)
          replace HF1 := Lib.hid HF1
          clear RA RD HT6
          refine Tin.reg_quiets [5] _ 32 rfl (by simp only [Tin.pick, List.map_cons, List.map_nil, Array.getD_eq_getD_getElem?, List.getElem?_toArray, List.getElem?_cons_zero, List.getElem?_cons_succ, Option.getD_some]; rfl) (by kernel_rfl) (by kernel_rfl) ?_
          repeat (first | go_big_quiet_step (fail))
          refine wpQuiet_nil ?_
          refine Tin.reg_one 8 _ rfl (by kernel_rfl) ?_
          try simp only [List.getElem_toArray, List.getElem_cons_succ, List.getElem_cons_zero]
          go_wp2_with fail
          have hv := ba (brefl v26) (.cells #[.int .i64 1, .int .i64 (-1), .int .i64 0, .int .i64 0, .int .i64 8, .int .i64 2, .int .i64 0, .int .i64 0, .int .i64 8, .int .i64 18] 53)
          have hr := heap_alloc_new v26 (.cells #[.int .i64 1, .int .i64 (-1), .int .i64 0, .int .i64 0, .int .i64 8, .int .i64 2, .int .i64 0, .int .i64 0, .int .i64 8, .int .i64 18] 53)
          refine ⟨v21.heap.size, hv.mono SZ, Nat.le_refl _, ?_⟩
          replace HF2 := Lib.hid (HF2.out.keep hv)
          replace YD := Lib.hid ((hv.block _ (row_lt YD.out)).trans YD.out)
          replace Y5 := Lib.hid ((hv.block _ (row_lt Y5.out)).trans Y5.out)
          replace HF1 := Lib.hid (HF1.out.keep hv)
          replace YB := Lib.hid (YB.out.trans (hv.mono YB.out.size))
          replace SZ := Nat.le_trans SZ hv.size
          have RSl1 := Lib.hid hr
          clear hr hv
          generalize v26.alloc (.cells #[.int .i64 1, .int .i64 (-1), .int .i64 0, .int .i64 0, .int .i64 8, .int .i64 2, .int .i64 0, .int .i64 0, .int .i64 8, .int .i64 18] 53) = v27 at *
          have HSl1 : SpS v27 (some ⟨v26.heap.size, 0, none⟩) l1 := sps_row RSl1.out rfl
          replace HSl1 := Lib.hid HSl1
          clear RSl1
          refine Tin.reg_one 9 _ rfl (by kernel_rfl) ?_
          try simp only [List.getElem_toArray, List.getElem_cons_succ, List.getElem_cons_zero]
          go_wp2_with fail
          refine (laid1 _ _ _ _ _ HF1.out HSl1.out).mono ?_
          rintro e v28 ⟨rfl, hv⟩
          go_wp2_with fail
          refine ⟨v21.heap.size, hv.mono SZ, Nat.le_refl _, ?_⟩
          replace HF2 := Lib.hid (HF2.out.keep hv)
          replace YD := Lib.hid ((hv.block _ (row_lt YD.out)).trans YD.out)
          replace Y5 := Lib.hid ((hv.block _ (row_lt Y5.out)).trans Y5.out)
          replace HF1 := Lib.hid (HF1.out.keep hv)
          replace HSl1 := Lib.hid (HSl1.out.keep hv)
          replace YB := Lib.hid (YB.out.trans (hv.mono YB.out.size))
          replace SZ := Nat.le_trans SZ hv.size
          clear hv
          exact tail v28 _ _ _ _ _ _ _ _ _ SZ YB.out HF2.out YD.out Y5.out
        · try simp only [List.getElem_toArray, List.getElem_cons_succ, List.getElem_cons_zero]
          go_wp2_with fail
          have hv := ba (brefl v25) (.cells #[.int .i64 1, .int .i64 (-1), .int .i64 0, .int .i64 0, .int .i64 8, .int .i64 2, .int .i64 0, .int .i64 0, .int .i64 8, .int .i64 18] 53)
          have hr := heap_alloc_new v25 (.cells #[.int .i64 1, .int .i64 (-1), .int .i64 0, .int .i64 0, .int .i64 8, .int .i64 2, .int .i64 0, .int .i64 0, .int .i64 8, .int .i64 18] 53)
          refine ⟨v21.heap.size, hv.mono SZ, Nat.le_refl _, ?_⟩
          replace HF2 := Lib.hid (HF2.out.keep hv)
          replace YD := Lib.hid ((hv.block _ (row_lt YD.out)).trans YD.out)
          replace Y5 := Lib.hid ((hv.block _ (row_lt Y5.out)).trans Y5.out)
          replace HT6 := Lib.hid (HT6.out.keep hv)
          replace RA := Lib.hid ((hv.block _ (row_lt RA.out)).trans RA.out)
          replace YB := Lib.hid (YB.out.trans (hv.mono YB.out.size))
          replace SZ := Nat.le_trans SZ hv.size
          have RSl1 := Lib.hid hr
          clear hr hv
          generalize v25.alloc (.cells #[.int .i64 1, .int .i64 (-1), .int .i64 0, .int .i64 0, .int .i64 8, .int .i64 2, .int .i64 0, .int .i64 0, .int .i64 8, .int .i64 18] 53) = v26 at *
          have HSl1 : SpS v26 (some ⟨v25.heap.size, 0, none⟩) l1 := sps_row RSl1.out rfl
          replace HSl1 := Lib.hid HSl1
          clear RSl1
          refine Tin.reg_one 4 _ rfl (by kernel_rfl) ?_
          try simp only [List.getElem_toArray, List.getElem_cons_succ, List.getElem_cons_zero]
          go_wp2_with fail
          have hv := ba (brefl v26) (.cells #[.slice (some ⟨v23.heap.size, 0, none⟩) 1 1, .slice none 0 0, .slice none 0 0] 42)
          have hr := heap_alloc_new v26 (.cells #[.slice (some ⟨v23.heap.size, 0, none⟩) 1 1, .slice none 0 0, .slice none 0 0] 42)
          refine ⟨v21.heap.size, hv.mono SZ, Nat.le_refl _, ?_⟩
          replace HF2 := Lib.hid (HF2.out.keep hv)
          replace YD := Lib.hid ((hv.block _ (row_lt YD.out)).trans YD.out)
          replace Y5 := Lib.hid ((hv.block _ (row_lt Y5.out)).trans Y5.out)
          replace HT6 := Lib.hid (HT6.out.keep hv)
          replace RA := Lib.hid ((hv.block _ (row_lt RA.out)).trans RA.out)
          replace HSl1 := Lib.hid (HSl1.out.keep hv)
          replace YB := Lib.hid (YB.out.trans (hv.mono YB.out.size))
          replace SZ := Nat.le_trans SZ hv.size
          have RD := Lib.hid hr
          clear hr hv
          generalize v26.alloc (.cells #[.slice (some ⟨v23.heap.size, 0, none⟩) 1 1, .slice none 0 0, .slice none 0 0] 42) = v27 at *
          have HF1 : FoK v27 (some ⟨v26.heap.size, 0, none⟩) f1 := fok_row RD.out (fov1 (tgk1 RA.out HT6.out rfl (byts_al rfl) (by decide)) (.inl rfl) (byts_al rfl) rfl rfl (by decide) (by decide) rfl)
          replace HF1 := Lib.hid HF1
          clear RA RD HT6
          refine Tin.reg_quiets [5] _ 31 rfl (by simp only [Tin.pick, List.map_cons, List.map_nil, Array.getD_eq_getD_getElem?, List.getElem?_toArray, List.getElem?_cons_zero, List.getElem?_cons_succ, Option.getD_some]; rfl) (by kernel_rfl) (by kernel_rfl) ?_
          repeat (first | go_big_quiet_step (fail))
          refine wpQuiet_nil ?_
          refine Tin.reg_one 9 _ rfl (by kernel_rfl) ?_
          try simp only [List.getElem_toArray, List.getElem_cons_succ, List.getElem_cons_zero]
          go_wp2_with fail
          refine (laid1 _ _ _ _ _ HF1.out HSl1.out).mono ?_
          rintro e v28 ⟨rfl, hv⟩
          go_wp2_with fail
          refine ⟨v21.heap.size, hv.mono SZ, Nat.le_refl _, ?_⟩
          replace HF2 := Lib.hid (HF2.out.keep hv)
          replace YD := Lib.hid ((hv.block _ (row_lt YD.out)).trans YD.out)
          replace Y5 := Lib.hid ((hv.block _ (row_lt Y5.out)).trans Y5.out)
          replace HSl1 := Lib.hid (HSl1.out.keep hv)
          replace HF1 := Lib.hid (HF1.out.keep hv)
          replace YB := Lib.hid (YB.out.trans (hv.mono YB.out.size))
          replace SZ := Nat.le_trans SZ hv.size
          clear hv
          exact tail v28 _ _ _ _ _ _ _ _ _ SZ YB.out HF2.out YD.out Y5.out
    · try simp only [List.getElem_toArray, List.getElem_cons_succ, List.getElem_cons_zero]
      go_wp2_with fail
      refine (spot_any 2 0 0 8 18 _).mono ?_
      rintro e v24 ⟨rfl, hv⟩
      go_wp2_with fail
      refine ⟨v21.heap.size, hv.mono SZ, Nat.le_refl _, ?_⟩
      replace HF2 := Lib.hid (HF2.out.keep hv)
      replace YD := Lib.hid ((hv.block _ (row_lt YD.out)).trans YD.out)
      replace Y5 := Lib.hid ((hv.block _ (row_lt Y5.out)).trans Y5.out)
      replace HT6 := Lib.hid (HT6.out.keep hv)
      replace YB := Lib.hid (YB.out.trans (hv.mono YB.out.size))
      replace SZ := Nat.le_trans SZ hv.size
      clear hv
      refine Tin.reg_two 2 8 _ _ rfl rfl (by kernel_rfl) ?_ ?_
      · try simp only [List.getElem_toArray, List.getElem_cons_succ, List.getElem_cons_zero]
        go_wp2_with fail
        have hv := ba (brefl v24) (.cells #[.int .i64 256, .int .i64 3, .int .i64 1, .slice A6 2 c6] 50)
        have hr := heap_alloc_new v24 (.cells #[.int .i64 256, .int .i64 3, .int .i64 1, .slice A6 2 c6] 50)
        refine ⟨v21.heap.size, hv.mono SZ, Nat.le_refl _, ?_⟩
        replace HF2 := Lib.hid (HF2.out.keep hv)
        replace YD := Lib.hid ((hv.block _ (row_lt YD.out)).trans YD.out)
        replace Y5 := Lib.hid ((hv.block _ (row_lt Y5.out)).trans Y5.out)
        replace HT6 := Lib.hid (HT6.out.keep hv)
        replace YB := Lib.hid (YB.out.trans (hv.mono YB.out.size))
        replace SZ := Nat.le_trans SZ hv.size
        have RA := Lib.hid hr
        clear hr hv
        generalize v24.alloc (.cells #[.int .i64 256, .int .i64 3, .int .i64 1, .slice A6 2 c6] 50) = v25 at *
        refine Tin.reg_quiets [3] _ 34 rfl (by simp only [Tin.pick, List.map_cons, List.map_nil, Array.getD_eq_getD_getElem?, List.getElem?_toArray, List.getElem?_cons_zero, List.getElem?_cons_succ, Option.getD_some]; rfl) (by kernel_rfl) (by kernel_rfl) ?_
        repeat (first | go_big_quiet_step (fail))
        refine wpQuiet_nil ?_
        refine Tin.reg_two 4 8 _ _ rfl rfl (by kernel_rfl) ?_ ?_
        · try simp only [List.getElem_toArray, List.getElem_cons_succ, List.getElem_cons_zero]
          go_wp2_with fail
          have hv := ba (brefl v25) (.cells #[.slice (some ⟨v24.heap.size, 0, none⟩) 1 1, .slice none 0 0, .slice none 0 0] 42)
          have hr := heap_alloc_new v25 (.cells #[.slice (some ⟨v24.heap.size, 0, none⟩) 1 1, .slice none 0 0, .slice none 0 0] 42)
          refine ⟨v21.heap.size, hv.mono SZ, Nat.le_refl _, ?_⟩
          replace HF2 := Lib.hid (HF2.out.keep hv)
          replace YD := Lib.hid ((hv.block _ (row_lt YD.out)).trans YD.out)
          replace Y5 := Lib.hid ((hv.block _ (row_lt Y5.out)).trans Y5.out)
          replace HT6 := Lib.hid (HT6.out.keep hv)
          replace RA := Lib.hid ((hv.block _ (row_lt RA.out)).trans RA.out)
          replace YB := Lib.hid (YB.out.trans (hv.mono YB.out.size))
          replace SZ := Nat.le_trans SZ hv.size
          have RD := Lib.hid hr
          clear hr hv
          generalize v25.alloc (.cells #[.slice (some ⟨v24.heap.size, 0, none⟩) 1 1, .slice none 0 0, .slice none 0 0] 42) = v26 at *
          have HF1 : FoK v26 (some ⟨v25.heap.size, 0, none⟩) f1 := fok_row RD.out (fov1 (tgk1 RA.out HT6.out rfl (byts_al rfl) (by decide)) (.inl rfl) (byts_al rfl) rfl rfl (by decide) (by decide) rfl)
          replace HF1 := Lib.hid HF1
          clear RA RD HT6
          refine Tin.reg_quiets [5] _ 32 rfl (by simp only [Tin.pick, List.map_cons, List.map_nil, Array.getD_eq_getD_getElem?, List.getElem?_toArray, List.getElem?_cons_zero, List.getElem?_cons_succ, Option.getD_some]; rfl) (by kernel_rfl) (by kernel_rfl) ?_
          repeat (first | go_big_quiet_step (fail))
          refine wpQuiet_nil ?_
          refine Tin.reg_one 8 _ rfl (by kernel_rfl) ?_
          try simp only [List.getElem_toArray, List.getElem_cons_succ, List.getElem_cons_zero]
          go_wp2_with fail
          have hv := ba (brefl v26) (.cells #[.int .i64 1, .int .i64 (-1), .int .i64 0, .int .i64 0, .int .i64 8, .int .i64 2, .int .i64 0, .int .i64 0, .int .i64 8, .int .i64 18] 53)
          have hr := heap_alloc_new v26 (.cells #[.int .i64 1, .int .i64 (-1), .int .i64 0, .int .i64 0, .int .i64 8, .int .i64 2, .int .i64 0, .int .i64 0, .int .i64 8, .int .i64 18] 53)
          refine ⟨v21.heap.size, hv.mono SZ, Nat.le_refl _, ?_⟩
          replace HF2 := Lib.hid (HF2.out.keep hv)
          replace YD := Lib.hid ((hv.block _ (row_lt YD.out)).trans YD.out)
          replace Y5 := Lib.hid ((hv.block _ (row_lt Y5.out)).trans Y5.out)
          replace HF1 := Lib.hid (HF1.out.keep hv)
          replace YB := Lib.hid (YB.out.trans (hv.mono YB.out.size))
          replace SZ := Nat.le_trans SZ hv.size
          have RSl1 := Lib.hid hr
          clear hr hv
          generalize v26.alloc (.cells #[.int .i64 1, .int .i64 (-1), .int .i64 0, .int .i64 0, .int .i64 8, .int .i64 2, .int .i64 0, .int .i64 0, .int .i64 8, .int .i64 18] 53) = v27 at *
          have HSl1 : SpS v27 (some ⟨v26.heap.size, 0, none⟩) l1 := sps_row RSl1.out rfl
          replace HSl1 := Lib.hid HSl1
          clear RSl1
          refine Tin.reg_one 9 _ rfl (by kernel_rfl) ?_
          try simp only [List.getElem_toArray, List.getElem_cons_succ, List.getElem_cons_zero]
          go_wp2_with fail
          refine (laid1 _ _ _ _ _ HF1.out HSl1.out).mono ?_
          rintro e v28 ⟨rfl, hv⟩
          go_wp2_with fail
          refine ⟨v21.heap.size, hv.mono SZ, Nat.le_refl _, ?_⟩
          replace HF2 := Lib.hid (HF2.out.keep hv)
          replace YD := Lib.hid ((hv.block _ (row_lt YD.out)).trans YD.out)
          replace Y5 := Lib.hid ((hv.block _ (row_lt Y5.out)).trans Y5.out)
          replace HF1 := Lib.hid (HF1.out.keep hv)
          replace HSl1 := Lib.hid (HSl1.out.keep hv)
          replace YB := Lib.hid (YB.out.trans (hv.mono YB.out.size))
          replace SZ := Nat.le_trans SZ hv.size
          clear hv
          exact tail v28 _ _ _ _ _ _ _ _ _ SZ YB.out HF2.out YD.out Y5.out
        · try simp only [List.getElem_toArray, List.getElem_cons_succ, List.getElem_cons_zero]
          go_wp2_with fail
          have hv := ba (brefl v25) (.cells #[.int .i64 1, .int .i64 (-1), .int .i64 0, .int .i64 0, .int .i64 8, .int .i64 2, .int .i64 0, .int .i64 0, .int .i64 8, .int .i64 18] 53)
          have hr := heap_alloc_new v25 (.cells #[.int .i64 1, .int .i64 (-1), .int .i64 0, .int .i64 0, .int .i64 8, .int .i64 2, .int .i64 0, .int .i64 0, .int .i64 8, .int .i64 18] 53)
          refine ⟨v21.heap.size, hv.mono SZ, Nat.le_refl _, ?_⟩
          replace HF2 := Lib.hid (HF2.out.keep hv)
          replace YD := Lib.hid ((hv.block _ (row_lt YD.out)).trans YD.out)
          replace Y5 := Lib.hid ((hv.block _ (row_lt Y5.out)).trans Y5.out)
          replace HT6 := Lib.hid (HT6.out.keep hv)
          replace RA := Lib.hid ((hv.block _ (row_lt RA.out)).trans RA.out)
          replace YB := Lib.hid (YB.out.trans (hv.mono YB.out.size))
          replace SZ := Nat.le_trans SZ hv.size
          have RSl1 := Lib.hid hr
          clear hr hv
          generalize v25.alloc (.cells #[.int .i64 1, .int .i64 (-1), .int .i64 0, .int .i64 0, .int .i64 8, .int .i64 2, .int .i64 0, .int .i64 0, .int .i64 8, .int .i64 18] 53) = v26 at *
          have HSl1 : SpS v26 (some ⟨v25.heap.size, 0, none⟩) l1 := sps_row RSl1.out rfl
          replace HSl1 := Lib.hid HSl1
          clear RSl1
          refine Tin.reg_one 4 _ rfl (by kernel_rfl) ?_
          try simp only [List.getElem_toArray, List.getElem_cons_succ, List.getElem_cons_zero]
          go_wp2_with fail
          have hv := ba (brefl v26) (.cells #[.slice (some ⟨v24.heap.size, 0, none⟩) 1 1, .slice none 0 0, .slice none 0 0] 42)
          have hr := heap_alloc_new v26 (.cells #[.slice (some ⟨v24.heap.size, 0, none⟩) 1 1, .slice none 0 0, .slice none 0 0] 42)
          refine ⟨v21.heap.size, hv.mono SZ, Nat.le_refl _, ?_⟩
          replace HF2 := Lib.hid (HF2.out.keep hv)
          replace YD := Lib.hid ((hv.block _ (row_lt YD.out)).trans YD.out)
          replace Y5 := Lib.hid ((hv.block _ (row_lt Y5.out)).trans Y5.out)
          replace HT6 := Lib.hid (HT6.out.keep hv)
          replace RA := Lib.hid ((hv.block _ (row_lt RA.out)).trans RA.out)
          replace HSl1 := Lib.hid (HSl1.out.keep hv)
          replace YB := Lib.hid (YB.out.trans (hv.mono YB.out.size))
          replace SZ := Nat.le_trans SZ hv.size
          have RD := Lib.hid hr
          clear hr hv
          generalize v26.alloc (.cells #[.slice (some ⟨v24.heap.size, 0, none⟩) 1 1, .slice none 0 0, .slice none 0 0] 42) = v27 at *
          have HF1 : FoK v27 (some ⟨v26.heap.size, 0, none⟩) f1 := fok_row RD.out (fov1 (tgk1 RA.out HT6.out rfl (byts_al rfl) (by decide)) (.inl rfl) (byts_al rfl) rfl rfl (by decide) (by decide) rfl)
          replace HF1 := Lib.hid HF1
          clear RA RD HT6
          refine Tin.reg_quiets [5] _ 31 rfl (by simp only [Tin.pick, List.map_cons, List.map_nil, Array.getD_eq_getD_getElem?, List.getElem?_toArray, List.getElem?_cons_zero, List.getElem?_cons_succ, Option.getD_some]; rfl) (by kernel_rfl) (by kernel_rfl) ?_
          repeat (first | go_big_quiet_step (fail))
          refine wpQuiet_nil ?_
          refine Tin.reg_one 9 _ rfl (by kernel_rfl) ?_
          try simp only [List.getElem_toArray, List.getElem_cons_succ, List.getElem_cons_zero]
          go_wp2_with fail
          refine (laid1 _ _ _ _ _ HF1.out HSl1.out).mono ?_
          rintro e v28 ⟨rfl, hv⟩
          go_wp2_with fail
          refine ⟨v21.heap.size, hv.mono SZ, Nat.le_refl _, ?_⟩
          replace HF2 := Lib.hid (HF2.out.keep hv)
          replace YD := Lib.hid ((hv.block _ (row_lt YD.out)).trans YD.out)
          replace Y5 := Lib.hid ((hv.block _ (row_lt Y5.out)).trans Y5.out)
          replace HSl1 := Lib.hid (HSl1.out.keep hv)
          replace HF1 := Lib.hid (HF1.out.keep hv)
          replace YB := Lib.hid (YB.out.trans (hv.mono YB.out.size))
          replace SZ := Nat.le_trans SZ hv.size
          clear hv
          exact tail v28 _ _ _ _ _ _ _ _ _ SZ YB.out HF2.out YD.out Y5.out
      · try simp only [List.getElem_toArray, List.getElem_cons_succ, List.getElem_cons_zero]
        go_wp2_with fail
        have hv := ba (brefl v24) (.cells #[.int .i64 1, .int .i64 (-1), .int .i64 0, .int .i64 0, .int .i64 8, .int .i64 2, .int .i64 0, .int .i64 0, .int .i64 8, .int .i64 18] 53)
        have hr := heap_alloc_new v24 (.cells #[.int .i64 1, .int .i64 (-1), .int .i64 0, .int .i64 0, .int .i64 8, .int .i64 2, .int .i64 0, .int .i64 0, .int .i64 8, .int .i64 18] 53)
        refine ⟨v21.heap.size, hv.mono SZ, Nat.le_refl _, ?_⟩
        replace HF2 := Lib.hid (HF2.out.keep hv)
        replace YD := Lib.hid ((hv.block _ (row_lt YD.out)).trans YD.out)
        replace Y5 := Lib.hid ((hv.block _ (row_lt Y5.out)).trans Y5.out)
        replace HT6 := Lib.hid (HT6.out.keep hv)
        replace YB := Lib.hid (YB.out.trans (hv.mono YB.out.size))
        replace SZ := Nat.le_trans SZ hv.size
        have RSl1 := Lib.hid hr
        clear hr hv
        generalize v24.alloc (.cells #[.int .i64 1, .int .i64 (-1), .int .i64 0, .int .i64 0, .int .i64 8, .int .i64 2, .int .i64 0, .int .i64 0, .int .i64 8, .int .i64 18] 53) = v25 at *
        have HSl1 : SpS v25 (some ⟨v24.heap.size, 0, none⟩) l1 := sps_row RSl1.out rfl
        replace HSl1 := Lib.hid HSl1
        clear RSl1
        refine Tin.reg_one 2 _ rfl (by kernel_rfl) ?_
        try simp only [List.getElem_toArray, List.getElem_cons_succ, List.getElem_cons_zero]
        go_wp2_with fail
        have hv := ba (brefl v25) (.cells #[.int .i64 256, .int .i64 3, .int .i64 1, .slice A6 2 c6] 50)
        have hr := heap_alloc_new v25 (.cells #[.int .i64 256, .int .i64 3, .int .i64 1, .slice A6 2 c6] 50)
        refine ⟨v21.heap.size, hv.mono SZ, Nat.le_refl _, ?_⟩
        replace HF2 := Lib.hid (HF2.out.keep hv)
        replace YD := Lib.hid ((hv.block _ (row_lt YD.out)).trans YD.out)
        replace Y5 := Lib.hid ((hv.block _ (row_lt Y5.out)).trans Y5.out)
        replace HT6 := Lib.hid (HT6.out.keep hv)
        replace HSl1 := Lib.hid (HSl1.out.keep hv)
        replace YB := Lib.hid (YB.out.trans (hv.mono YB.out.size))
        replace SZ := Nat.le_trans SZ hv.size
        have RA := Lib.hid hr
        clear hr hv
        generalize v25.alloc (.cells #[.int .i64 256, .int .i64 3, .int .i64 1, .slice A6 2 c6] 50) = v26 at *
        refine Tin.reg_quiets [3] _ 33 rfl (by simp only [Tin.pick, List.map_cons, List.map_nil, Array.getD_eq_getD_getElem?, List.getElem?_toArray, List.getElem?_cons_zero, List.getElem?_cons_succ, Option.getD_some]; rfl) (by kernel_rfl) (by kernel_rfl) ?_
        repeat (first | go_big_quiet_step (fail))
        refine wpQuiet_nil ?_
        refine Tin.reg_one 4 _ rfl (by kernel_rfl) ?_
        try simp only [List.getElem_toArray, List.getElem_cons_succ, List.getElem_cons_zero]
        go_wp2_with fail
        have hv := ba (brefl v26) (.cells #[.slice (some ⟨v25.heap.size, 0, none⟩) 1 1, .slice none 0 0, .slice none 0 0] 42)
        have hr := heap_alloc_new v26 (.cells #[.slice (some ⟨v25.heap.size, 0, none⟩) 1 1, .slice none 0 0, .slice none 0 0] 42)
        refine ⟨v21.heap.size, hv.mono SZ, Nat.le_refl _, ?_⟩
        replace HF2 := Lib.hid (HF2.out.keep hv)
        replace YD := Lib.hid ((hv.block _ (row_lt YD.out)).trans YD.out)
        replace Y5 := Lib.hid ((hv.block _ (row_lt Y5.out)).trans Y5.out)
        replace HT6 := Lib.hid (HT6.out.keep hv)
        replace HSl1 := Lib.hid (HSl1.out.keep hv)
        replace RA := Lib.hid ((hv.block _ (row_lt RA.out)).trans RA.out)
        replace YB := Lib.hid (YB.out.trans (hv.mono YB.out.size))
        replace SZ := Nat.le_trans SZ hv.size
        have RD := Lib.hid hr
        clear hr hv
        generalize v26.alloc (.cells #[.slice (some ⟨v25.heap.size, 0, none⟩) 1 1, .slice none 0 0, .slice none 0 0] 42) = v27 at *
        have HF1 : FoK v27 (some ⟨v26.heap.size, 0, none⟩) f1 := fok_row RD.out (fov1 (tgk1 RA.out HT6.out rfl (byts_al rfl) (by decide)) (.inl rfl) (byts_al rfl) rfl rfl (by decide) (by decide) rfl)
        replace HF1 := Lib.hid HF1
        clear RA RD HT6
        refine Tin.reg_quiets [5] _ 31 rfl (by simp only [Tin.pick, List.map_cons, List.map_nil, Array.getD_eq_getD_getElem?, List.getElem?_toArray, List.getElem?_cons_zero, List.getElem?_cons_succ, Option.getD_some]; rfl) (by kernel_rfl) (by kernel_rfl) ?_
        repeat (first | go_big_quiet_step (fail))
        refine wpQuiet_nil ?_
        refine Tin.reg_one 9 _ rfl (by kernel_rfl) ?_
        try simp only [List.getElem_toArray, List.getElem_cons_succ, List.getElem_cons_zero]
        go_wp2_with fail
        refine (laid1 _ _ _ _ _ HF1.out HSl1.out).mono ?_
        rintro e v28 ⟨rfl, hv⟩
        go_wp2_with fail
        refine ⟨v21.heap.size, hv.mono SZ, Nat.le_refl _, ?_⟩
        replace HF2 := Lib.hid (HF2.out.keep hv)
        replace YD := Lib.hid ((hv.block _ (row_lt YD.out)).trans YD.out)
        replace Y5 := Lib.hid ((hv.block _ (row_lt Y5.out)).trans Y5.out)
        replace HSl1 := Lib.hid (HSl1.out.keep hv)
        replace HF1 := Lib.hid (HF1.out.keep hv)
        replace YB := Lib.hid (YB.out.trans (hv.mono YB.out.size))
        replace SZ := Nat.le_trans SZ hv.size
        clear hv
        exact tail v28 _ _ _ _ _ _ _ _ _ SZ YB.out HF2.out YD.out Y5.out
end Go.Proofs.Ytkepbobnjplpoaa
