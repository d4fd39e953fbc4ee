/-
  No cell of these rows narrows 'for every input' (looked for: loops, veiled, ifaces, maps, wideKeys, modest, calm, conditions, laid).
  DERIVED. THE GIVEN ROWS OF THIS SEAT. 4 by the template 'for every input the law returns true; each argument reads behind the call as it read before'; 0 by the template 'total and deterministic' (their statements: YtckkncblbagfmaaTotals.lean).
  GIVEN WITH THE SEED: the statements are not yours to turn. If you find one false, say at which input.
  Laid BY PROGRAM, IN A SANDBOX (cutbox-rows.mjs): the forced cells as the released guide's own fill.sh prints them over the translation d937065caba81bc2… (all of the seat's roots in one cut). By AI agents, Wed Nov 11 2026. No macro, syntax, notation, axiom, sorry.
-/
import Derived.Test.YtckkncblbagfmaaChecked
import GoSem.Claim
import GoSem.ClaimJoined
import GoSem.ClaimMapViews
import Derived.JoinedTies
import Derived.KernelRfl
namespace Go.Proofs.Ytckkncblbagfmaa
/- THE CELL 'sum', in the pinned program and in every row, IS THE sha256 OF THE DUMP (.gsa) THAT YtckkncblbagfmaaProg.lean LOADS. Nothing in Lean hashes anything: it is a label: what it is worth is what the hold of that sum in a sandbox is worth. -/
noncomputable def Try.pinned : Pinned := { name := "ytckkncblbagfmaa", sum := "d937065caba81bc2a5a00640c4b08a97fde924d32dc86df238f564d0e6b9715d", checked := Try.checked }
namespace Rows
def none {H : Type} : Left H := { results := [], args := [] }

/-- 'tintypelaw11.CoeffNumbers': WHATEVER THE INPUT: true; the input reads as it did. -/
def coeffNumbersSpec : ChangeSpec := { name := "coeffNumbers", fn := fun _ => fun
  | [d1, d2] => { results := [.lit (.bool true)], args := [d1, d2] }
  | _ => none }
def coeffNumbersRow : OpenClaim := { program := "ytckkncblbagfmaa", sum := "d937065caba81bc2a5a00640c4b08a97fde924d32dc86df238f564d0e6b9715d", func := "tintype/tintypelaw11.CoeffNumbers", spec := "coeffNumbers", unfollowed := true, recurses := true, apart := false }
def CoeffNumbersSaid : Prop := coeffNumbersRow.holds Try.pinned (OpenSpec.ofChange coeffNumbersSpec)

/-- ITS FALSE NEIGHBOUR: 'it returns false'. Refute it at one input. -/
def coeffNumbersWrong : ChangeSpec := { name := "coeffNumbers", fn := fun _ => fun
  | [d1, d2] => { results := [.lit (.bool false)], args := [d1, d2] }
  | _ => none }
def CoeffNumbersWrongFalsely : Prop := coeffNumbersRow.holds Try.pinned (OpenSpec.ofChange coeffNumbersWrong)

/-- 'tintypelaw11.CoeffSigns': WHATEVER THE INPUT: true; the input reads as it did. -/
def coeffSignsSpec : ChangeSpec := { name := "coeffSigns", fn := fun _ => fun
  | [d1, d2] => { results := [.lit (.bool true)], args := [d1, d2] }
  | _ => none }
def coeffSignsRow : OpenClaim := { program := "ytckkncblbagfmaa", sum := "d937065caba81bc2a5a00640c4b08a97fde924d32dc86df238f564d0e6b9715d", func := "tintype/tintypelaw11.CoeffSigns", spec := "coeffSigns", unfollowed := true, recurses := true, apart := false }
def CoeffSignsSaid : Prop := coeffSignsRow.holds Try.pinned (OpenSpec.ofChange coeffSignsSpec)

/-- ITS FALSE NEIGHBOUR: 'it returns false'. Refute it at one input. -/
def coeffSignsWrong : ChangeSpec := { name := "coeffSigns", fn := fun _ => fun
  | [d1, d2] => { results := [.lit (.bool false)], args := [d1, d2] }
  | _ => none }
def CoeffSignsWrongFalsely : Prop := coeffSignsRow.holds Try.pinned (OpenSpec.ofChange coeffSignsWrong)

/-- 'tintypelaw11.CoeffCodes': WHATEVER THE INPUT: true; the input reads as it did. -/
def coeffCodesSpec : ChangeSpec := { name := "coeffCodes", fn := fun _ => fun
  | [d1, d2, d3] => { results := [.lit (.bool true)], args := [d1, d2, d3] }
  | _ => none }
def coeffCodesRow : OpenClaim := { program := "ytckkncblbagfmaa", sum := "d937065caba81bc2a5a00640c4b08a97fde924d32dc86df238f564d0e6b9715d", func := "tintype/tintypelaw11.CoeffCodes", spec := "coeffCodes", unfollowed := true, recurses := true, apart := false }
def CoeffCodesSaid : Prop := coeffCodesRow.holds Try.pinned (OpenSpec.ofChange coeffCodesSpec)

/-- ITS FALSE NEIGHBOUR: 'it returns false'. Refute it at one input. -/
def coeffCodesWrong : ChangeSpec := { name := "coeffCodes", fn := fun _ => fun
  | [d1, d2, d3] => { results := [.lit (.bool false)], args := [d1, d2, d3] }
  | _ => none }
def CoeffCodesWrongFalsely : Prop := coeffCodesRow.holds Try.pinned (OpenSpec.ofChange coeffCodesWrong)

/-- 'tintypelaw11.CoeffBack': WHATEVER THE INPUT: true; the input reads as it did. -/
def coeffBackSpec : ChangeSpec := { name := "coeffBack", fn := fun _ => fun
  | [d1, d2, d3, d4] => { results := [.lit (.bool true)], args := [d1, d2, d3, d4] }
  | _ => none }
def coeffBackRow : OpenClaim := { program := "ytckkncblbagfmaa", sum := "d937065caba81bc2a5a00640c4b08a97fde924d32dc86df238f564d0e6b9715d", func := "tintype/tintypelaw11.CoeffBack", spec := "coeffBack", unfollowed := true, recurses := true, apart := false }
def CoeffBackSaid : Prop := coeffBackRow.holds Try.pinned (OpenSpec.ofChange coeffBackSpec)

/-- ITS FALSE NEIGHBOUR: 'it returns false'. Refute it at one input. -/
def coeffBackWrong : ChangeSpec := { name := "coeffBack", fn := fun _ => fun
  | [d1, d2, d3, d4] => { results := [.lit (.bool false)], args := [d1, d2, d3, d4] }
  | _ => none }
def CoeffBackWrongFalsely : Prop := coeffBackRow.holds Try.pinned (OpenSpec.ofChange coeffBackWrong)

/- THE SECOND FORM. 'bulk': how many values and letters a reading holds, each counted each time it is reached (what is shared counts as often as it is met; a slice's spare places count too). A statement '..UptoSaid' is the law's where the arguments, and the package variables that the reading takes, are together of bulk at most 1048576: NARROWER than '..Said'. Prove '..Said' where nothing that the law and all that it calls make is longer than what came in: it says more and counts as full. Else prove '..UptoSaid'. A law counts once. -/
mutual
def uptoBulk {H : Type} : DataW H → Nat
  | .lit (.string bytes) => bytes.length + 1
  | .lit _ => 1
  | .nil => 1
  | .ptr d => uptoBulk d + 1
  | .slice elems spare => uptoBulkAll elems + uptoBulkAll spare + 1
  | .agg parts => uptoBulkAll parts + 1
  | .iface _ d => uptoBulk d + 1
  | .map entries => uptoBulkEntries entries + 1
  | .held _ => 1
def uptoBulkAll {H : Type} : List (DataW H) → Nat
  | [] => 0
  | d :: r => uptoBulk d + uptoBulkAll r
def uptoBulkEntries {H : Type} : List (Lit × DataW H) → Nat
  | [] => 0
  | x :: r => uptoBulkEntry x + uptoBulkEntries r
def uptoBulkEntry {H : Type} : Lit × DataW H → Nat
  | (.string bytes, d) => bytes.length + uptoBulk d + 1
  | (_, d) => uptoBulk d + 1
 end
def uptoSmall : (H : Type) → List (DataW H) → Bool := fun _ ds => decide (uptoBulkAll ds ≤ 1048576)
def OpenSpec.upto (s : _root_.Go.ChangeSpec) : _root_.Go.OpenSpec := { _root_.Go.OpenSpec.ofChange s with cond := some uptoSmall }

/-- 'tintypelaw11.CoeffNumbers', WHERE WHAT IT READS IS OF BULK AT MOST 1048576: true; the input reads as it did. -/
def coeffNumbersUptoRow : OpenClaim := { program := "ytckkncblbagfmaa", sum := "d937065caba81bc2a5a00640c4b08a97fde924d32dc86df238f564d0e6b9715d", func := "tintype/tintypelaw11.CoeffNumbers", spec := "coeffNumbers", unfollowed := true, recurses := true, apart := false, narrowed := true }
def CoeffNumbersUptoSaid : Prop := coeffNumbersUptoRow.holds Try.pinned (OpenSpec.upto coeffNumbersSpec)

/-- 'tintypelaw11.CoeffSigns', WHERE WHAT IT READS IS OF BULK AT MOST 1048576: true; the input reads as it did. -/
def coeffSignsUptoRow : OpenClaim := { program := "ytckkncblbagfmaa", sum := "d937065caba81bc2a5a00640c4b08a97fde924d32dc86df238f564d0e6b9715d", func := "tintype/tintypelaw11.CoeffSigns", spec := "coeffSigns", unfollowed := true, recurses := true, apart := false, narrowed := true }
def CoeffSignsUptoSaid : Prop := coeffSignsUptoRow.holds Try.pinned (OpenSpec.upto coeffSignsSpec)

/-- 'tintypelaw11.CoeffCodes', WHERE WHAT IT READS IS OF BULK AT MOST 1048576: true; the input reads as it did. -/
def coeffCodesUptoRow : OpenClaim := { program := "ytckkncblbagfmaa", sum := "d937065caba81bc2a5a00640c4b08a97fde924d32dc86df238f564d0e6b9715d", func := "tintype/tintypelaw11.CoeffCodes", spec := "coeffCodes", unfollowed := true, recurses := true, apart := false, narrowed := true }
def CoeffCodesUptoSaid : Prop := coeffCodesUptoRow.holds Try.pinned (OpenSpec.upto coeffCodesSpec)

/-- 'tintypelaw11.CoeffBack', WHERE WHAT IT READS IS OF BULK AT MOST 1048576: true; the input reads as it did. -/
def coeffBackUptoRow : OpenClaim := { program := "ytckkncblbagfmaa", sum := "d937065caba81bc2a5a00640c4b08a97fde924d32dc86df238f564d0e6b9715d", func := "tintype/tintypelaw11.CoeffBack", spec := "coeffBack", unfollowed := true, recurses := true, apart := false, narrowed := true }
def CoeffBackUptoSaid : Prop := coeffBackUptoRow.holds Try.pinned (OpenSpec.upto coeffBackSpec)

end Rows
end Go.Proofs.Ytckkncblbagfmaa
