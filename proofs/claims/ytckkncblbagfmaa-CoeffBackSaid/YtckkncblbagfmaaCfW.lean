/- CoeffCodes, of symbols as the statement has them. -/
import Derived.Test.YtckkncblbagfmaaCfV
import Derived.Test.YtckkncblbagfmaaShp
import Derived.Test.YtckkncblbagfmaaFlt
namespace Go.Proofs.Ytckkncblbagfmaa
open Go.RowKit
open Go.Tin
set_option linter.unusedVariables false
set_option linter.unusedSimpArgs false


theorem flat_coded (w : World) (k : IntKind) : FlatSh w k 4 (.fld 0 0 1 (.int k) (.fld 1 1 1 (.int k) (.fld 2 2 2 (.fld 0 0 1 (.int k) (.fld 1 1 1 (.int k) .unit)) .unit))) := by
  intro cs hcs hf j hj
  match cs, hcs with
  | [c0, c1, c2, c3], _ =>
    obtain ⟨⟨n0, h0, w0⟩, ⟨n1, h1, w1⟩, ⟨⟨n2, h2, w2⟩, ⟨n3, h3, w3⟩, -⟩, -⟩ := hf
    simp at h0 h1 h2 h3
    subst h0 h1 h2 h3
    rcases (by omega : j = 0 ∨ j = 1 ∨ j = 2 ∨ j = 3) with rfl | rfl | rfl | rfl
    · exact ⟨_, rfl, w0⟩
    · exact ⟨_, rfl, w1⟩
    · exact ⟨_, rfl, w2⟩
    · exact ⟨_, rfl, w3⟩
set_option maxRecDepth 100000 in
theorem codes_row (b : List Int) (last : Int) (A : Option Addr) (n c : Nat) (w : World) (hb : b.length = 64) (hbw : ∀ z ∈ b, (Lit.int .i64 z).wf = true) (wl : (Lit.int .i64 last).wf = true) (ft : Fits w (.slice 4 (.fld 0 0 1 (.int .i64) (.fld 1 1 1 (.int .i64) (.fld 2 2 2 (.fld 0 0 1 (.int .i64) (.fld 1 1 1 (.int .i64) .unit)) .unit)))) [.slice A n c]) :
    Calls Try.prog 5 #[.agg (arr .i64 b), .int .i64 last, .slice A n c] w fun e w' => e = .returned (.bool true) ∧ Below w.heap.size w w' := by
  obtain ⟨zs, hsl, hzl, hlc, hcm, hwf, -⟩ := flat_of_fits (flat_coded w .i64) ft
  exact codes_any b last A n c zs w hb hbw wl (SlV.ofSl hsl) hzl hwf
end Go.Proofs.Ytckkncblbagfmaa
