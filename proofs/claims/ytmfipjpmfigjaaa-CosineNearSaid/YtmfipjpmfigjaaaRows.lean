/-
  No cell of these rows narrows 'for every input' (looked for: loops, veiled, ifaces, maps, wideKeys, modest, calm, conditions, laid).
  DERIVED. THE GIVEN ROWS OF THIS SEAT. 4 by the template 'for every input the law returns true; each argument reads behind the call as it read before'; 0 by the template 'total and deterministic' (their statements: YtmfipjpmfigjaaaTotals.lean).
  GIVEN WITH THE SEED: the statements are not yours to turn. If you find one false, say at which input.
  Laid BY PROGRAM, IN A SANDBOX (cutbox-rows.mjs): the forced cells as the released guide's own fill.sh prints them over the translation 88d9cb6b78c4f33a… (all of the seat's roots in one cut). By AI agents, Wed Nov 11 2026. No macro, syntax, notation, axiom, sorry.
-/
import Derived.Test.YtmfipjpmfigjaaaChecked
import GoSem.Claim
import GoSem.ClaimJoined
import GoSem.ClaimMapViews
import Derived.JoinedTies
import Derived.KernelRfl
namespace Go.Proofs.Ytmfipjpmfigjaaa
/- THE CELL 'sum', in the pinned program and in every row, IS THE sha256 OF THE DUMP (.gsa) THAT YtmfipjpmfigjaaaProg.lean LOADS. Nothing in Lean hashes anything: it is a label: what it is worth is what the hold of that sum in a sandbox is worth. -/
noncomputable def Try.pinned : Pinned := { name := "ytmfipjpmfigjaaa", sum := "88d9cb6b78c4f33aa4c88fe05e1ba883926544c5d2332239d3ba7b4c56bf69c2", checked := Try.checked }
namespace Rows
def none {H : Type} : Left H := { results := [], args := [] }

/-- 'tintypelaw07.CosineFactors': WHATEVER THE INPUT: true; the input reads as it did. -/
def cosineFactorsSpec : ChangeSpec := { name := "cosineFactors", fn := fun _ => fun
  | [d1, d2] => { results := [.lit (.bool true)], args := [d1, d2] }
  | _ => none }
def cosineFactorsRow : OpenClaim := { program := "ytmfipjpmfigjaaa", sum := "88d9cb6b78c4f33aa4c88fe05e1ba883926544c5d2332239d3ba7b4c56bf69c2", func := "tintype/tintypelaw07.CosineFactors", spec := "cosineFactors", unfollowed := true, recurses := true, apart := false }
def CosineFactorsSaid : Prop := cosineFactorsRow.holds Try.pinned (OpenSpec.ofChange cosineFactorsSpec)

/-- ITS FALSE NEIGHBOUR: 'it returns false'. Refute it at one input. -/
def cosineFactorsWrong : ChangeSpec := { name := "cosineFactors", fn := fun _ => fun
  | [d1, d2] => { results := [.lit (.bool false)], args := [d1, d2] }
  | _ => none }
def CosineFactorsWrongFalsely : Prop := cosineFactorsRow.holds Try.pinned (OpenSpec.ofChange cosineFactorsWrong)

/-- 'tintypelaw07.CosineDoes': WHATEVER THE INPUT: true; the input reads as it did. -/
def cosineDoesSpec : ChangeSpec := { name := "cosineDoes", fn := fun _ => fun
  | [d] => { results := [.lit (.bool true)], args := [d] }
  | _ => none }
def cosineDoesRow : OpenClaim := { program := "ytmfipjpmfigjaaa", sum := "88d9cb6b78c4f33aa4c88fe05e1ba883926544c5d2332239d3ba7b4c56bf69c2", func := "tintype/tintypelaw07.CosineDoes", spec := "cosineDoes", unfollowed := true, recurses := true, apart := false }
def CosineDoesSaid : Prop := cosineDoesRow.holds Try.pinned (OpenSpec.ofChange cosineDoesSpec)

/-- ITS FALSE NEIGHBOUR: 'it returns false'. Refute it at one input. -/
def cosineDoesWrong : ChangeSpec := { name := "cosineDoes", fn := fun _ => fun
  | [d] => { results := [.lit (.bool false)], args := [d] }
  | _ => none }
def CosineDoesWrongFalsely : Prop := cosineDoesRow.holds Try.pinned (OpenSpec.ofChange cosineDoesWrong)

/-- 'tintypelaw07.CosineNear': WHATEVER THE INPUT: true; the input reads as it did. -/
def cosineNearSpec : ChangeSpec := { name := "cosineNear", fn := fun _ => fun
  | [d] => { results := [.lit (.bool true)], args := [d] }
  | _ => none }
def cosineNearRow : OpenClaim := { program := "ytmfipjpmfigjaaa", sum := "88d9cb6b78c4f33aa4c88fe05e1ba883926544c5d2332239d3ba7b4c56bf69c2", func := "tintype/tintypelaw07.CosineNear", spec := "cosineNear", unfollowed := true, recurses := true, apart := false }
def CosineNearSaid : Prop := cosineNearRow.holds Try.pinned (OpenSpec.ofChange cosineNearSpec)

/-- ITS FALSE NEIGHBOUR: 'it returns false'. Refute it at one input. -/
def cosineNearWrong : ChangeSpec := { name := "cosineNear", fn := fun _ => fun
  | [d] => { results := [.lit (.bool false)], args := [d] }
  | _ => none }
def CosineNearWrongFalsely : Prop := cosineNearRow.holds Try.pinned (OpenSpec.ofChange cosineNearWrong)

/-- 'tintypelaw07.CosineBack': WHATEVER THE INPUT: true; the input reads as it did. -/
def cosineBackSpec : ChangeSpec := { name := "cosineBack", fn := fun _ => fun
  | [d1, d2] => { results := [.lit (.bool true)], args := [d1, d2] }
  | _ => none }
def cosineBackRow : OpenClaim := { program := "ytmfipjpmfigjaaa", sum := "88d9cb6b78c4f33aa4c88fe05e1ba883926544c5d2332239d3ba7b4c56bf69c2", func := "tintype/tintypelaw07.CosineBack", spec := "cosineBack", unfollowed := true, recurses := true, apart := false }
def CosineBackSaid : Prop := cosineBackRow.holds Try.pinned (OpenSpec.ofChange cosineBackSpec)

/-- ITS FALSE NEIGHBOUR: 'it returns false'. Refute it at one input. -/
def cosineBackWrong : ChangeSpec := { name := "cosineBack", fn := fun _ => fun
  | [d1, d2] => { results := [.lit (.bool false)], args := [d1, d2] }
  | _ => none }
def CosineBackWrongFalsely : Prop := cosineBackRow.holds Try.pinned (OpenSpec.ofChange cosineBackWrong)

/- THE SECOND FORM. 'bulk': how many values and letters a reading holds, each counted each time it is reached (what is shared counts as often as it is met; a slice's spare places count too). A statement '..UptoSaid' is the law's where the arguments, and the package variables that the reading takes, are together of bulk at most 1048576: NARROWER than '..Said'. Prove '..Said' where nothing that the law and all that it calls make is longer than what came in: it says more and counts as full. Else prove '..UptoSaid'. A law counts once. -/
mutual
def uptoBulk {H : Type} : DataW H → Nat
  | .lit (.string bytes) => bytes.length + 1
  | .lit _ => 1
  | .nil => 1
  | .ptr d => uptoBulk d + 1
  | .slice elems spare => uptoBulkAll elems + uptoBulkAll spare + 1
  | .agg parts => uptoBulkAll parts + 1
  | .iface _ d => uptoBulk d + 1
  | .map entries => uptoBulkEntries entries + 1
  | .held _ => 1
def uptoBulkAll {H : Type} : List (DataW H) → Nat
  | [] => 0
  | d :: r => uptoBulk d + uptoBulkAll r
def uptoBulkEntries {H : Type} : List (Lit × DataW H) → Nat
  | [] => 0
  | x :: r => uptoBulkEntry x + uptoBulkEntries r
def uptoBulkEntry {H : Type} : Lit × DataW H → Nat
  | (.string bytes, d) => bytes.length + uptoBulk d + 1
  | (_, d) => uptoBulk d + 1
 end
def uptoSmall : (H : Type) → List (DataW H) → Bool := fun _ ds => decide (uptoBulkAll ds ≤ 1048576)
def OpenSpec.upto (s : _root_.Go.ChangeSpec) : _root_.Go.OpenSpec := { _root_.Go.OpenSpec.ofChange s with cond := some uptoSmall }

/-- 'tintypelaw07.CosineFactors', WHERE WHAT IT READS IS OF BULK AT MOST 1048576: true; the input reads as it did. -/
def cosineFactorsUptoRow : OpenClaim := { program := "ytmfipjpmfigjaaa", sum := "88d9cb6b78c4f33aa4c88fe05e1ba883926544c5d2332239d3ba7b4c56bf69c2", func := "tintype/tintypelaw07.CosineFactors", spec := "cosineFactors", unfollowed := true, recurses := true, apart := false, narrowed := true }
def CosineFactorsUptoSaid : Prop := cosineFactorsUptoRow.holds Try.pinned (OpenSpec.upto cosineFactorsSpec)

/-- 'tintypelaw07.CosineDoes', WHERE WHAT IT READS IS OF BULK AT MOST 1048576: true; the input reads as it did. -/
def cosineDoesUptoRow : OpenClaim := { program := "ytmfipjpmfigjaaa", sum := "88d9cb6b78c4f33aa4c88fe05e1ba883926544c5d2332239d3ba7b4c56bf69c2", func := "tintype/tintypelaw07.CosineDoes", spec := "cosineDoes", unfollowed := true, recurses := true, apart := false, narrowed := true }
def CosineDoesUptoSaid : Prop := cosineDoesUptoRow.holds Try.pinned (OpenSpec.upto cosineDoesSpec)

/-- 'tintypelaw07.CosineNear', WHERE WHAT IT READS IS OF BULK AT MOST 1048576: true; the input reads as it did. -/
def cosineNearUptoRow : OpenClaim := { program := "ytmfipjpmfigjaaa", sum := "88d9cb6b78c4f33aa4c88fe05e1ba883926544c5d2332239d3ba7b4c56bf69c2", func := "tintype/tintypelaw07.CosineNear", spec := "cosineNear", unfollowed := true, recurses := true, apart := false, narrowed := true }
def CosineNearUptoSaid : Prop := cosineNearUptoRow.holds Try.pinned (OpenSpec.upto cosineNearSpec)

/-- 'tintypelaw07.CosineBack', WHERE WHAT IT READS IS OF BULK AT MOST 1048576: true; the input reads as it did. -/
def cosineBackUptoRow : OpenClaim := { program := "ytmfipjpmfigjaaa", sum := "88d9cb6b78c4f33aa4c88fe05e1ba883926544c5d2332239d3ba7b4c56bf69c2", func := "tintype/tintypelaw07.CosineBack", spec := "cosineBack", unfollowed := true, recurses := true, apart := false, narrowed := true }
def CosineBackUptoSaid : Prop := cosineBackUptoRow.holds Try.pinned (OpenSpec.upto cosineBackSpec)

end Rows
end Go.Proofs.Ytmfipjpmfigjaaa
