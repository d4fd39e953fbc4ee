/- The contract of the reference's OfNumbers. -/
import Derived.Test.YtmdcdmgbillehaaTyN
namespace Go.Proofs.Ytmdcdmgbillehaa
open Go.RowKit
open Go.Tin
set_option linter.unusedVariables false
set_option linter.unusedSimpArgs false


def nuT (k : Int) : Bool := decide (szT k ≠ 0) && (decide (k ≠ 5) && decide (k < 10))
def ronB (k : Int) (l : List Int) : Bool := nuT k && rofB k (l.length : Int) l
def ronL (k : Int) (l : List Int) : List Int := if ronB k l then rofL k (l.length : Int) l else []
set_option maxRecDepth 100000 in
set_option maxHeartbeats 8000000 in
theorem ron_any (k : Int) (A : Option Addr) (l : List Int) (cap : Nat) (w : World) (hs : Sl .i64 w A l) (hl : l.length ≤ 1000000) :
    Calls Try.prog 9 #[.int .i64 k, .slice A l.length cap] w fun e w' => ∃ A' c', e = .returned (.tuple #[.agg (vrow (on (ronB k l) k) (on (ronB k l) (l.length : Int)) A' (ronL k l).length c'), .bool (ronB k l)]) ∧ Own .u8 5 w' w.heap.size (.slice A' (ronL k l).length c') (ronL k l) ∧ Below w.heap.size w w' := by
  obtain ⟨W, hW⟩ : ∃ W, W = w.alloc (.cells (vrow 0 0 none 0 0) 27) := ⟨_, rfl⟩
  have HB := Lib.hid (show Below w.heap.size w W by rw [hW]; exact ba (brefl w) _)
  have HR := Lib.hid (show W.heap[w.heap.size]? = some (.cells (vrow 0 0 none 0 0) 27 (0, 0)) by rw [hW]; exact heap_alloc_new w _)
  have HS := Lib.hid (hs.keep HB.out)
  have HED := Lib.hid (show ronB k l = (nuT k && rofB k (l.length : Int) l) ∧ ronL k l = (if ronB k l then rofL k (l.length : Int) l else []) from ⟨rfl, rfl⟩)
  have HE0 := Lib.hid (show ronB k l = false → ronL k l = [] ∧ on (ronB k l) k = 0 ∧ on (ronB k l) (l.length : Int) = 0 from fun h => ⟨by unfold ronL; rw [h]; rfl, by rw [h]; rfl, by rw [h]; rfl⟩)
  have HN := Lib.hid (show nuT k = (decide (szT k ≠ 0) && (decide (k ≠ 5) && decide (k < 10))) from rfl)
  clear hs
  go_enter Try.func9, Try.ntmps9
  go_wp2_with fail
  rw [← hW]
  clear hW
  refine (rsize_any k W).mono ?_
  rintro e w1 ⟨rfl, rfl⟩
  by_cases h1 : szT k = 0
  · have d1 : (szT k == 0) = true := by simpa using h1
    have HE := Lib.hid (show ronB k l = false by rw [HED.out.1, HN.out, h1]; rfl)
    have HEz := Lib.hid (HE0.out HE.out)
    clear h1
    go_wp2_with ((with_reducible refine wpl_store_row rtV ?_ (.tmp 4) (.tmp 17) ?_ (w.heap.size) ?_ (vrow 0 0 none 0 0) ?_ (vrow_one _ _ _ _ _) 27 ?_ _ ?_ HR.out ?_); rfl; rfl; rfl; rfl; rfl; rfl; intro w7 hr7 hg7 hs7; (try simp only [Act.put]))
    rw [HEz.out.2.1, HEz.out.2.2, HEz.out.1, HE.out]
    exact bodyPost_ret (res_row_tmp rtV rfl _ _ w.heap.size 27 (vrow 0 0 none 0 0) rfl (.bool false) rfl rfl hr7) rfl ⟨none, 0, rfl, Own.nil_ _ _ _ _, HB.out.grown hg7 HB.out.size (fun k hk => by cases hk; exact Nat.le_refl _)⟩

  have d1 : (szT k == 0) = false := by simpa using h1
  by_cases h2 : k = 5
  · have d2 : (k == 5) = true := by simpa using h2
    have HE := Lib.hid (show ronB k l = false by rw [HED.out.1, HN.out, h2]; simp)
    have HEz := Lib.hid (HE0.out HE.out)
    clear h1 h2
    go_wp2_with ((with_reducible refine wpl_store_row rtV ?_ (.tmp 4) (.tmp 17) ?_ (w.heap.size) ?_ (vrow 0 0 none 0 0) ?_ (vrow_one _ _ _ _ _) 27 ?_ _ ?_ HR.out ?_); rfl; rfl; rfl; rfl; rfl; rfl; intro w7 hr7 hg7 hs7; (try simp only [Act.put]))
    rw [HEz.out.2.1, HEz.out.2.2, HEz.out.1, HE.out]
    exact bodyPost_ret (res_row_tmp rtV rfl _ _ w.heap.size 27 (vrow 0 0 none 0 0) rfl (.bool false) rfl rfl hr7) rfl ⟨none, 0, rfl, Own.nil_ _ _ _ _, HB.out.grown hg7 HB.out.size (fun k hk => by cases hk; exact Nat.le_refl _)⟩

  have d2 : (k == 5) = false := by simpa using h2
  by_cases h3 : 10 ≤ k
  · have d3 : decide (10 ≤ k) = true := by simpa using h3
    have HE := Lib.hid (show ronB k l = false by rw [HED.out.1, HN.out, decide_eq_false (show ¬ k < 10 by omega)]; simp)
    have HEz := Lib.hid (HE0.out HE.out)
    clear h1 h2 h3
    go_wp2_with ((with_reducible refine wpl_store_row rtV ?_ (.tmp 4) (.tmp 17) ?_ (w.heap.size) ?_ (vrow 0 0 none 0 0) ?_ (vrow_one _ _ _ _ _) 27 ?_ _ ?_ HR.out ?_); rfl; rfl; rfl; rfl; rfl; rfl; intro w7 hr7 hg7 hs7; (try simp only [Act.put]))
    rw [HEz.out.2.1, HEz.out.2.2, HEz.out.1, HE.out]
    exact bodyPost_ret (res_row_tmp rtV rfl _ _ w.heap.size 27 (vrow 0 0 none 0 0) rfl (.bool false) rfl rfl hr7) rfl ⟨none, 0, rfl, Own.nil_ _ _ _ _, HB.out.grown hg7 HB.out.size (fun k hk => by cases hk; exact Nat.le_refl _)⟩

  have d3 : decide (10 ≤ k) = false := by simpa using h3
  have HE := Lib.hid (show ronB k l = rofB k (l.length : Int) l by rw [HED.out.1, HN.out, decide_eq_true (show szT k ≠ 0 from h1), decide_eq_true (show k ≠ 5 from h2), decide_eq_true (show k < 10 by omega)]; rfl)
  have HEL := Lib.hid (show ronL k l = rofL k (l.length : Int) l by
    rw [HED.out.2, HE.out]
    unfold rofL
    cases rofB k (l.length : Int) l <;> rfl)
  clear h1 h2 h3
  go_wp2_with fail
  refine (rof__any k 1 (l.length : Int) A l cap W HS.out hl (by decide) (by simp) (by omega) (by omega)).mono ?_
  rintro e w2 ⟨A2, c2, rfl, ho2, hb2⟩
  have HO2 := Lib.hid ho2
  have HR2 := Lib.hid ((hb2.block _ (row_lt HR.out)).trans HR.out)
  have HB2 := Lib.hid (HB.out.trans (hb2.mono HB.out.size))
  have hW1 : w.heap.size < W.heap.size := row_lt HR.out
  clear ho2 hb2
  rw [← HEL.out] at HO2
  rw [← HEL.out, ← HE.out]
  generalize hx : on (ronB k l) k = x1 at *
  generalize hy : on (ronB k l) (l.length : Int) = x2 at *
  generalize hz : ronL k l = R at *
  have HX := Lib.hid (show on (ronB k l) k = x1 ∧ on (ronB k l) (l.length : Int) = x2 ∧ ronL k l = R from ⟨hx, hy, hz⟩)
  clear hx hy hz
  go_wp2_with ((with_reducible refine wpl_store_row rtV ?_ (.tmp 4) (.tmp 21) ?_ (w.heap.size) ?_ (vrow x1 x2 A2 R.length c2) ?_ (vrow_one _ _ _ _ _) 27 ?_ _ ?_ HR2.out ?_); rfl; rfl; rfl; rfl; rfl; rfl; intro w7 hr7 hg7 hs7; (try simp only [Act.put]))
  rw [HX.out.1, HX.out.2.1, HX.out.2.2]
  exact bodyPost_ret (res_row_tmp rtV rfl _ _ w.heap.size 27 (vrow x1 x2 A2 R.length c2) rfl _ rfl rfl hr7) rfl ⟨A2, c2, rfl, (HO2.out.mono (Nat.le_of_lt hW1)).kept hg7 (by
    cases hq : (Value.slice A2 R.length c2).ownBlock with
    | none => exact .inl rfl
    | some q => exact .inr (fun e => by have h1 := (World.ownsRow.lt HO2.out q hq).1; have e' : q = w.heap.size := Option.some.inj e; omega)), HB2.out.grown hg7 HB2.out.size (fun k hk => by cases hk; exact Nat.le_refl _)⟩
end Go.Proofs.Ytmdcdmgbillehaa
