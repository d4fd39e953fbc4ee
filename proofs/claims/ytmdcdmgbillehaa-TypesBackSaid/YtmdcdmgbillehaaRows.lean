/-
  No cell of these rows narrows 'for every input' (looked for: loops, veiled, ifaces, maps, wideKeys, modest, calm, conditions, laid).
  DERIVED. THE GIVEN ROWS OF THIS SEAT. 4 by the template 'for every input the law returns true; each argument reads behind the call as it read before'; 0 by the template 'total and deterministic' (their statements: YtmdcdmgbillehaaTotals.lean).
  GIVEN WITH THE SEED: the statements are not yours to turn. If you find one false, say at which input.
  Laid BY PROGRAM, IN A SANDBOX (cutbox-rows.mjs): the forced cells as the released guide's own fill.sh prints them over the translation 31fe214374c94fd8… (all of the seat's roots in one cut). By AI agents, Wed Nov 11 2026. No macro, syntax, notation, axiom, sorry.
-/
import Derived.Test.YtmdcdmgbillehaaChecked
import GoSem.Claim
import GoSem.ClaimJoined
import GoSem.ClaimMapViews
import Derived.JoinedTies
import Derived.KernelRfl
namespace Go.Proofs.Ytmdcdmgbillehaa
/- THE CELL 'sum', in the pinned program and in every row, IS THE sha256 OF THE DUMP (.gsa) THAT YtmdcdmgbillehaaProg.lean LOADS. Nothing in Lean hashes anything: it is a label: what it is worth is what the hold of that sum in a sandbox is worth. -/
noncomputable def Try.pinned : Pinned := { name := "ytmdcdmgbillehaa", sum := "31fe214374c94fd8a19a1a74704ee2ff6e4bda6bc5bf85ea7b4976752477609f", checked := Try.checked }
namespace Rows
def none {H : Type} : Left H := { results := [], args := [] }

/-- 'tintypelaw18.TypesMakes': WHATEVER THE INPUT: true; the input reads as it did. -/
def typesMakesSpec : ChangeSpec := { name := "typesMakes", fn := fun _ => fun
  | [d1, d2, d3, d4] => { results := [.lit (.bool true)], args := [d1, d2, d3, d4] }
  | _ => none }
def typesMakesRow : OpenClaim := { program := "ytmdcdmgbillehaa", sum := "31fe214374c94fd8a19a1a74704ee2ff6e4bda6bc5bf85ea7b4976752477609f", func := "tintype/tintypelaw18.TypesMakes", spec := "typesMakes", inPlace := ["internal/bytealg.IndexByte", "internal/bytealg.IndexByteString"], unfollowed := true, recurses := true, apart := false }
def TypesMakesSaid : Prop := typesMakesRow.holds Try.pinned (OpenSpec.ofChange typesMakesSpec)

/-- ITS FALSE NEIGHBOUR: 'it returns false'. Refute it at one input. -/
def typesMakesWrong : ChangeSpec := { name := "typesMakes", fn := fun _ => fun
  | [d1, d2, d3, d4] => { results := [.lit (.bool false)], args := [d1, d2, d3, d4] }
  | _ => none }
def TypesMakesWrongFalsely : Prop := typesMakesRow.holds Try.pinned (OpenSpec.ofChange typesMakesWrong)

/-- 'tintypelaw18.TypesBytes': WHATEVER THE INPUT: true; the input reads as it did. -/
def typesBytesSpec : ChangeSpec := { name := "typesBytes", fn := fun _ => fun
  | [d1, d2, d3, d4, d5] => { results := [.lit (.bool true)], args := [d1, d2, d3, d4, d5] }
  | _ => none }
def typesBytesRow : OpenClaim := { program := "ytmdcdmgbillehaa", sum := "31fe214374c94fd8a19a1a74704ee2ff6e4bda6bc5bf85ea7b4976752477609f", func := "tintype/tintypelaw18.TypesBytes", spec := "typesBytes", inPlace := ["internal/bytealg.IndexByte", "internal/bytealg.IndexByteString"], unfollowed := true, recurses := true, apart := false }
def TypesBytesSaid : Prop := typesBytesRow.holds Try.pinned (OpenSpec.ofChange typesBytesSpec)

/-- ITS FALSE NEIGHBOUR: 'it returns false'. Refute it at one input. -/
def typesBytesWrong : ChangeSpec := { name := "typesBytes", fn := fun _ => fun
  | [d1, d2, d3, d4, d5] => { results := [.lit (.bool false)], args := [d1, d2, d3, d4, d5] }
  | _ => none }
def TypesBytesWrongFalsely : Prop := typesBytesRow.holds Try.pinned (OpenSpec.ofChange typesBytesWrong)

/-- 'tintypelaw18.TypesTells': WHATEVER THE INPUT: true; the input reads as it did. -/
def typesTellsSpec : ChangeSpec := { name := "typesTells", fn := fun _ => fun
  | [d1, d2, d3] => { results := [.lit (.bool true)], args := [d1, d2, d3] }
  | _ => none }
def typesTellsRow : OpenClaim := { program := "ytmdcdmgbillehaa", sum := "31fe214374c94fd8a19a1a74704ee2ff6e4bda6bc5bf85ea7b4976752477609f", func := "tintype/tintypelaw18.TypesTells", spec := "typesTells", inPlace := ["internal/bytealg.IndexByte", "internal/bytealg.IndexByteString"], unfollowed := true, recurses := true, apart := false }
def TypesTellsSaid : Prop := typesTellsRow.holds Try.pinned (OpenSpec.ofChange typesTellsSpec)

/-- ITS FALSE NEIGHBOUR: 'it returns false'. Refute it at one input. -/
def typesTellsWrong : ChangeSpec := { name := "typesTells", fn := fun _ => fun
  | [d1, d2, d3] => { results := [.lit (.bool false)], args := [d1, d2, d3] }
  | _ => none }
def TypesTellsWrongFalsely : Prop := typesTellsRow.holds Try.pinned (OpenSpec.ofChange typesTellsWrong)

/-- 'tintypelaw18.TypesBack': WHATEVER THE INPUT: true; the input reads as it did. -/
def typesBackSpec : ChangeSpec := { name := "typesBack", fn := fun _ => fun
  | [d1, d2, d3] => { results := [.lit (.bool true)], args := [d1, d2, d3] }
  | _ => none }
def typesBackRow : OpenClaim := { program := "ytmdcdmgbillehaa", sum := "31fe214374c94fd8a19a1a74704ee2ff6e4bda6bc5bf85ea7b4976752477609f", func := "tintype/tintypelaw18.TypesBack", spec := "typesBack", inPlace := ["internal/bytealg.IndexByte", "internal/bytealg.IndexByteString"], unfollowed := true, recurses := true, apart := false }
def TypesBackSaid : Prop := typesBackRow.holds Try.pinned (OpenSpec.ofChange typesBackSpec)

/-- ITS FALSE NEIGHBOUR: 'it returns false'. Refute it at one input. -/
def typesBackWrong : ChangeSpec := { name := "typesBack", fn := fun _ => fun
  | [d1, d2, d3] => { results := [.lit (.bool false)], args := [d1, d2, d3] }
  | _ => none }
def TypesBackWrongFalsely : Prop := typesBackRow.holds Try.pinned (OpenSpec.ofChange typesBackWrong)

/- THE SECOND FORM. 'bulk': how many values and letters a reading holds, each counted each time it is reached (what is shared counts as often as it is met; a slice's spare places count too). A statement '..UptoSaid' is the law's where the arguments, and the package variables that the reading takes, are together of bulk at most 1048576: NARROWER than '..Said'. Prove '..Said' where nothing that the law and all that it calls make is longer than what came in: it says more and counts as full. Else prove '..UptoSaid'. A law counts once. -/
mutual
def uptoBulk {H : Type} : DataW H → Nat
  | .lit (.string bytes) => bytes.length + 1
  | .lit _ => 1
  | .nil => 1
  | .ptr d => uptoBulk d + 1
  | .slice elems spare => uptoBulkAll elems + uptoBulkAll spare + 1
  | .agg parts => uptoBulkAll parts + 1
  | .iface _ d => uptoBulk d + 1
  | .map entries => uptoBulkEntries entries + 1
  | .held _ => 1
def uptoBulkAll {H : Type} : List (DataW H) → Nat
  | [] => 0
  | d :: r => uptoBulk d + uptoBulkAll r
def uptoBulkEntries {H : Type} : List (Lit × DataW H) → Nat
  | [] => 0
  | x :: r => uptoBulkEntry x + uptoBulkEntries r
def uptoBulkEntry {H : Type} : Lit × DataW H → Nat
  | (.string bytes, d) => bytes.length + uptoBulk d + 1
  | (_, d) => uptoBulk d + 1
 end
def uptoSmall : (H : Type) → List (DataW H) → Bool := fun _ ds => decide (uptoBulkAll ds ≤ 1048576)
def OpenSpec.upto (s : _root_.Go.ChangeSpec) : _root_.Go.OpenSpec := { _root_.Go.OpenSpec.ofChange s with cond := some uptoSmall }

/-- 'tintypelaw18.TypesMakes', WHERE WHAT IT READS IS OF BULK AT MOST 1048576: true; the input reads as it did. -/
def typesMakesUptoRow : OpenClaim := { program := "ytmdcdmgbillehaa", sum := "31fe214374c94fd8a19a1a74704ee2ff6e4bda6bc5bf85ea7b4976752477609f", func := "tintype/tintypelaw18.TypesMakes", spec := "typesMakes", inPlace := ["internal/bytealg.IndexByte", "internal/bytealg.IndexByteString"], unfollowed := true, recurses := true, apart := false, narrowed := true }
def TypesMakesUptoSaid : Prop := typesMakesUptoRow.holds Try.pinned (OpenSpec.upto typesMakesSpec)

/-- 'tintypelaw18.TypesBytes', WHERE WHAT IT READS IS OF BULK AT MOST 1048576: true; the input reads as it did. -/
def typesBytesUptoRow : OpenClaim := { program := "ytmdcdmgbillehaa", sum := "31fe214374c94fd8a19a1a74704ee2ff6e4bda6bc5bf85ea7b4976752477609f", func := "tintype/tintypelaw18.TypesBytes", spec := "typesBytes", inPlace := ["internal/bytealg.IndexByte", "internal/bytealg.IndexByteString"], unfollowed := true, recurses := true, apart := false, narrowed := true }
def TypesBytesUptoSaid : Prop := typesBytesUptoRow.holds Try.pinned (OpenSpec.upto typesBytesSpec)

/-- 'tintypelaw18.TypesTells', WHERE WHAT IT READS IS OF BULK AT MOST 1048576: true; the input reads as it did. -/
def typesTellsUptoRow : OpenClaim := { program := "ytmdcdmgbillehaa", sum := "31fe214374c94fd8a19a1a74704ee2ff6e4bda6bc5bf85ea7b4976752477609f", func := "tintype/tintypelaw18.TypesTells", spec := "typesTells", inPlace := ["internal/bytealg.IndexByte", "internal/bytealg.IndexByteString"], unfollowed := true, recurses := true, apart := false, narrowed := true }
def TypesTellsUptoSaid : Prop := typesTellsUptoRow.holds Try.pinned (OpenSpec.upto typesTellsSpec)

/-- 'tintypelaw18.TypesBack', WHERE WHAT IT READS IS OF BULK AT MOST 1048576: true; the input reads as it did. -/
def typesBackUptoRow : OpenClaim := { program := "ytmdcdmgbillehaa", sum := "31fe214374c94fd8a19a1a74704ee2ff6e4bda6bc5bf85ea7b4976752477609f", func := "tintype/tintypelaw18.TypesBack", spec := "typesBack", inPlace := ["internal/bytealg.IndexByte", "internal/bytealg.IndexByteString"], unfollowed := true, recurses := true, apart := false, narrowed := true }
def TypesBackUptoSaid : Prop := typesBackUptoRow.holds Try.pinned (OpenSpec.upto typesBackSpec)

end Rows
end Go.Proofs.Ytmdcdmgbillehaa
