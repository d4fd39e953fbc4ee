/-
  The statement 'Rows.CoeffSignsSaid' of the law 'CoeffSigns' is proved: for whatever input the call returns true, and each argument reads behind it as before. Its walk is 'signs_any' of YtckkncblbagfmaaCfNc. No condition.
-/
import Derived.Test.YtckkncblbagfmaaRows
import Derived.WalkKit
import Derived.ProofKit
import Derived.OpenShut
import Derived.ShutString
import Derived.ChangeOld
import Derived.Below
import Derived.Test.YtckkncblbagfmaaCfNc
import Derived.Test.YtckkncblbagfmaaOst
namespace Go.Proofs.Ytckkncblbagfmaa.coeffSigns
open Go.ChangeShapes Go.WideShapes Go.ChangeAt Go.RowKit
open Go.ChangeMaps (open_string shut_string)
set_option linter.unusedVariables false

theorem own : ownKnob Try.prog.godebug = none := by kernel_rfl
theorem laidOut : laidOutB Try.prog = true := by kernel_rfl

set_option maxRecDepth 100000 in
theorem lifted (os : Os) (started : os.Started) (H : Type) (enc : TypeId × Value → H) :
    ReturnsInHanded {} Try.checked os 4 .any (Rows.coeffSignsSpec.pre6 enc Try.prog Try.f4 Rows.coeffSignsRow.domain false) (Rows.coeffSignsSpec.post enc Try.prog Try.f4 false true false false) := by
  refine returnsInHanded_of_change (C := Try.checked) own started (by kernel_rfl) Try.func4
    (ChangeSpec.witness6 (enc := enc) (C := Try.checked) false ⟨#[], #[.int .i64 0, .agg #[.int .i64 0, .int .i64 0]], []⟩ 8 (by kernel_rfl) (by kernel_rfl) (by kernel_rfl) (by kernel_rfl)) ?_
  intro W base args ds gs before hval0 hW hcnd _
  have hval : ∀ (j : Nat) t v, Try.f4.params[j]? = some t → args[j]? = some v → Value.okWide Try.prog W .any base t v := hval0
  have hW' := hW
  obtain ⟨p, q, hA0, hV, rfl, hfz, hnd⟩ := hW
  have hA : DataW.TrodAll enc Try.prog W 0 (fun _ => true) true Try.f4.params.toList args.toList ds p := hA0
  rw [Try.params4] at hA hval
  obtain ⟨v0, vs0, d0, ds0, p0, q0, hargs, rfl, rfl, h0, r0⟩ := trodAll_cons hA
  obtain ⟨v1, vs1, d1, ds1, p1, q1, rfl, rfl, rfl, h1, r1⟩ := trodAll_cons r0
  obtain ⟨rfl, rfl, rfl⟩ := trodAll_nil r1
  obtain rfl : args = #[v0, v1] := by cases args; simp_all
  obtain ⟨rfl, rfl⟩ := trodVars_none hV
  have k0 := h0
  have lt0 : ∀ x ∈ p0, x.block < W.heap.size := by obtain ⟨m, hm⟩ := k0; exact DataW.trod_lt m _ _ _ hm
  have k1 := h1
  have lt1 : ∀ x ∈ p1, x.block < W.heap.size := by obtain ⟨m, hm⟩ := k1; exact DataW.trod_lt m _ _ _ hm
  obtain ⟨a0, rfl, rfl, rfl, w0⟩ := open_int Try.underlying3 (hval 0 3 v0 rfl rfl) h0
  obtain ⟨cs1, rfl, sz1, fl1⟩ := Tin.open_struct Try.underlying23 (show _ = 2 by kernel_rfl) (hval 1 23 v1 rfl rfl) h1
  obtain ⟨x1_0, x1_1, rfl⟩ : ∃ x1_0 x1_1, cs1 = #[x1_0, x1_1] := by
    refine ⟨cs1[0], cs1[1], ?_⟩
    apply Array.ext
    · simp [sz1]
    · intro i h1 h2
      simp only [List.size_toArray, List.length_cons, List.length_nil] at h2
      rcases (by omega : i = 0 ∨ i = 1) with rfl | rfl <;> rfl
  obtain ⟨n1_0, y1_0, t1_0⟩ := fl1 0 _ rfl
  obtain ⟨a1_0, rfl, w1_0⟩ := Tin.field_int (o := 0) Try.underlying3 (by kernel_rfl) rfl t1_0
  obtain ⟨n1_1, y1_1, t1_1⟩ := fl1 1 _ rfl
  obtain ⟨a1_1, rfl, w1_1⟩ := Tin.field_int (o := 1) Try.underlying3 (by kernel_rfl) rfl t1_1
  clear hA0 hval0
  refine (signs_any a0 a1_0 a1_1 W w0 w1_0 w1_1).mono fun e W' ⟨he, bel⟩ => ?_
  subst he
  exact ⟨_, rfl, _, _, _, [], _, [], hW', trodAll_mk1 (shut_bool Try.underlying4 _), (trodAll_cons_mk (Below.trod laidOut (by kernel_rfl) (of_decide_eq_true (by kernel_rfl)) k0 bel lt0) (trodAll_cons_mk (Below.trod laidOut (by kernel_rfl) (of_decide_eq_true (by kernel_rfl)) k1 bel lt1) trodAll_mk0)), rfl, bel.frame _, fun h => by cases h⟩

theorem over : Rows.coeffSignsRow.holds Try.pinned (OpenSpec.ofChange Rows.coeffSignsSpec) :=
  OpenClaim.holds_of_wide 4 Try.f4 rfl rfl rfl rfl rfl rfl rfl ⟨rfl, rfl, rfl, rfl, rfl⟩ rfl rfl rfl rfl rfl (by kernel_rfl) Try.func4 (by kernel_rfl)
    (of_decide_eq_true (by kernel_rfl)) (by unfold Func.isWrapper; first | (rw [if_pos (by decide +kernel)]; kernel_rfl) | (rw [if_neg (by decide +kernel)]; exact ⟨rfl, rfl⟩))
    (fun os started H enc _ => lifted os started H enc)

/-- The statement. -/
theorem proved : Rows.CoeffSignsSaid := over
#print axioms proved
end Go.Proofs.Ytckkncblbagfmaa.coeffSigns
