/-
  No cell of these rows narrows 'for every input' (looked for: loops, veiled, ifaces, maps, wideKeys, modest, calm, conditions, laid).
  DERIVED. THE GIVEN ROWS OF THIS SEAT. 5 by the template 'for every input the law returns true; each argument reads behind the call as it read before'; 0 by the template 'total and deterministic' (their statements: YtajobboldjgidaaTotals.lean).
  GIVEN WITH THE SEED: the statements are not yours to turn. If you find one false, say at which input.
  Laid BY PROGRAM, IN A SANDBOX (cutbox-rows.mjs): the forced cells as the released guide's own fill.sh prints them over the translation f2461101ea8f4fa8… (all of the seat's roots in one cut). By AI agents, Wed Nov 11 2026. No macro, syntax, notation, axiom, sorry.
-/
import Derived.Test.YtajobboldjgidaaChecked
import GoSem.Claim
import GoSem.ClaimJoined
import GoSem.ClaimMapViews
import Derived.JoinedTies
import Derived.KernelRfl
namespace Go.Proofs.Ytajobboldjgidaa
/- THE CELL 'sum', in the pinned program and in every row, IS THE sha256 OF THE DUMP (.gsa) THAT YtajobboldjgidaaProg.lean LOADS. Nothing in Lean hashes anything: it is a label: what it is worth is what the hold of that sum in a sandbox is worth. -/
noncomputable def Try.pinned : Pinned := { name := "ytajobboldjgidaa", sum := "f2461101ea8f4fa80d4df4b7ea454bdbb54d8dec10d7b47174bd936e378b7db1", checked := Try.checked }
namespace Rows
def none {H : Type} : Left H := { results := [], args := [] }

/-- 'tintypelaw10.SampleBlocks': WHATEVER THE INPUT: true; the input reads as it did. -/
def sampleBlocksSpec : ChangeSpec := { name := "sampleBlocks", fn := fun _ => fun
  | [d1, d2, d3, d4, d5, d6] => { results := [.lit (.bool true)], args := [d1, d2, d3, d4, d5, d6] }
  | _ => none }
def sampleBlocksRow : OpenClaim := { program := "ytajobboldjgidaa", sum := "f2461101ea8f4fa80d4df4b7ea454bdbb54d8dec10d7b47174bd936e378b7db1", func := "tintype/tintypelaw10.SampleBlocks", spec := "sampleBlocks", unfollowed := true, recurses := true, apart := false }
def SampleBlocksSaid : Prop := sampleBlocksRow.holds Try.pinned (OpenSpec.ofChange sampleBlocksSpec)

/-- ITS FALSE NEIGHBOUR: 'it returns false'. Refute it at one input. -/
def sampleBlocksWrong : ChangeSpec := { name := "sampleBlocks", fn := fun _ => fun
  | [d1, d2, d3, d4, d5, d6] => { results := [.lit (.bool false)], args := [d1, d2, d3, d4, d5, d6] }
  | _ => none }
def SampleBlocksWrongFalsely : Prop := sampleBlocksRow.holds Try.pinned (OpenSpec.ofChange sampleBlocksWrong)

/-- 'tintypelaw10.SamplePaints': WHATEVER THE INPUT: true; the input reads as it did. -/
def samplePaintsSpec : ChangeSpec := { name := "samplePaints", fn := fun _ => fun
  | [d1, d2] => { results := [.lit (.bool true)], args := [d1, d2] }
  | _ => none }
def samplePaintsRow : OpenClaim := { program := "ytajobboldjgidaa", sum := "f2461101ea8f4fa80d4df4b7ea454bdbb54d8dec10d7b47174bd936e378b7db1", func := "tintype/tintypelaw10.SamplePaints", spec := "samplePaints", unfollowed := true, recurses := true, apart := false }
def SamplePaintsSaid : Prop := samplePaintsRow.holds Try.pinned (OpenSpec.ofChange samplePaintsSpec)

/-- ITS FALSE NEIGHBOUR: 'it returns false'. Refute it at one input. -/
def samplePaintsWrong : ChangeSpec := { name := "samplePaints", fn := fun _ => fun
  | [d1, d2] => { results := [.lit (.bool false)], args := [d1, d2] }
  | _ => none }
def SamplePaintsWrongFalsely : Prop := samplePaintsRow.holds Try.pinned (OpenSpec.ofChange samplePaintsWrong)

/-- 'tintypelaw10.SamplePlanes': WHATEVER THE INPUT: true; the input reads as it did. -/
def samplePlanesSpec : ChangeSpec := { name := "samplePlanes", fn := fun _ => fun
  | [d1, d2] => { results := [.lit (.bool true)], args := [d1, d2] }
  | _ => none }
def samplePlanesRow : OpenClaim := { program := "ytajobboldjgidaa", sum := "f2461101ea8f4fa80d4df4b7ea454bdbb54d8dec10d7b47174bd936e378b7db1", func := "tintype/tintypelaw10.SamplePlanes", spec := "samplePlanes", unfollowed := true, recurses := true, apart := false }
def SamplePlanesSaid : Prop := samplePlanesRow.holds Try.pinned (OpenSpec.ofChange samplePlanesSpec)

/-- ITS FALSE NEIGHBOUR: 'it returns false'. Refute it at one input. -/
def samplePlanesWrong : ChangeSpec := { name := "samplePlanes", fn := fun _ => fun
  | [d1, d2] => { results := [.lit (.bool false)], args := [d1, d2] }
  | _ => none }
def SamplePlanesWrongFalsely : Prop := samplePlanesRow.holds Try.pinned (OpenSpec.ofChange samplePlanesWrong)

/-- 'tintypelaw10.SampleFlat': WHATEVER THE INPUT: true; the input reads as it did. -/
def sampleFlatSpec : ChangeSpec := { name := "sampleFlat", fn := fun _ => fun
  | [d1, d2, d3, d4] => { results := [.lit (.bool true)], args := [d1, d2, d3, d4] }
  | _ => none }
def sampleFlatRow : OpenClaim := { program := "ytajobboldjgidaa", sum := "f2461101ea8f4fa80d4df4b7ea454bdbb54d8dec10d7b47174bd936e378b7db1", func := "tintype/tintypelaw10.SampleFlat", spec := "sampleFlat", unfollowed := true, recurses := true, apart := false }
def SampleFlatSaid : Prop := sampleFlatRow.holds Try.pinned (OpenSpec.ofChange sampleFlatSpec)

/-- ITS FALSE NEIGHBOUR: 'it returns false'. Refute it at one input. -/
def sampleFlatWrong : ChangeSpec := { name := "sampleFlat", fn := fun _ => fun
  | [d1, d2, d3, d4] => { results := [.lit (.bool false)], args := [d1, d2, d3, d4] }
  | _ => none }
def SampleFlatWrongFalsely : Prop := sampleFlatRow.holds Try.pinned (OpenSpec.ofChange sampleFlatWrong)

/-- 'tintypelaw10.SampleBack': WHATEVER THE INPUT: true; the input reads as it did. -/
def sampleBackSpec : ChangeSpec := { name := "sampleBack", fn := fun _ => fun
  | [d1, d2, d3] => { results := [.lit (.bool true)], args := [d1, d2, d3] }
  | _ => none }
def sampleBackRow : OpenClaim := { program := "ytajobboldjgidaa", sum := "f2461101ea8f4fa80d4df4b7ea454bdbb54d8dec10d7b47174bd936e378b7db1", func := "tintype/tintypelaw10.SampleBack", spec := "sampleBack", unfollowed := true, recurses := true, apart := false }
def SampleBackSaid : Prop := sampleBackRow.holds Try.pinned (OpenSpec.ofChange sampleBackSpec)

/-- ITS FALSE NEIGHBOUR: 'it returns false'. Refute it at one input. -/
def sampleBackWrong : ChangeSpec := { name := "sampleBack", fn := fun _ => fun
  | [d1, d2, d3] => { results := [.lit (.bool false)], args := [d1, d2, d3] }
  | _ => none }
def SampleBackWrongFalsely : Prop := sampleBackRow.holds Try.pinned (OpenSpec.ofChange sampleBackWrong)

/- THE SECOND FORM. 'bulk': how many values and letters a reading holds, each counted each time it is reached (what is shared counts as often as it is met; a slice's spare places count too). A statement '..UptoSaid' is the law's where the arguments, and the package variables that the reading takes, are together of bulk at most 1048576: NARROWER than '..Said'. Prove '..Said' where nothing that the law and all that it calls make is longer than what came in: it says more and counts as full. Else prove '..UptoSaid'. A law counts once. -/
mutual
def uptoBulk {H : Type} : DataW H → Nat
  | .lit (.string bytes) => bytes.length + 1
  | .lit _ => 1
  | .nil => 1
  | .ptr d => uptoBulk d + 1
  | .slice elems spare => uptoBulkAll elems + uptoBulkAll spare + 1
  | .agg parts => uptoBulkAll parts + 1
  | .iface _ d => uptoBulk d + 1
  | .map entries => uptoBulkEntries entries + 1
  | .held _ => 1
def uptoBulkAll {H : Type} : List (DataW H) → Nat
  | [] => 0
  | d :: r => uptoBulk d + uptoBulkAll r
def uptoBulkEntries {H : Type} : List (Lit × DataW H) → Nat
  | [] => 0
  | x :: r => uptoBulkEntry x + uptoBulkEntries r
def uptoBulkEntry {H : Type} : Lit × DataW H → Nat
  | (.string bytes, d) => bytes.length + uptoBulk d + 1
  | (_, d) => uptoBulk d + 1
 end
def uptoSmall : (H : Type) → List (DataW H) → Bool := fun _ ds => decide (uptoBulkAll ds ≤ 1048576)
def OpenSpec.upto (s : _root_.Go.ChangeSpec) : _root_.Go.OpenSpec := { _root_.Go.OpenSpec.ofChange s with cond := some uptoSmall }

/-- 'tintypelaw10.SampleBlocks', WHERE WHAT IT READS IS OF BULK AT MOST 1048576: true; the input reads as it did. -/
def sampleBlocksUptoRow : OpenClaim := { program := "ytajobboldjgidaa", sum := "f2461101ea8f4fa80d4df4b7ea454bdbb54d8dec10d7b47174bd936e378b7db1", func := "tintype/tintypelaw10.SampleBlocks", spec := "sampleBlocks", unfollowed := true, recurses := true, apart := false, narrowed := true }
def SampleBlocksUptoSaid : Prop := sampleBlocksUptoRow.holds Try.pinned (OpenSpec.upto sampleBlocksSpec)

/-- 'tintypelaw10.SamplePaints', WHERE WHAT IT READS IS OF BULK AT MOST 1048576: true; the input reads as it did. -/
def samplePaintsUptoRow : OpenClaim := { program := "ytajobboldjgidaa", sum := "f2461101ea8f4fa80d4df4b7ea454bdbb54d8dec10d7b47174bd936e378b7db1", func := "tintype/tintypelaw10.SamplePaints", spec := "samplePaints", unfollowed := true, recurses := true, apart := false, narrowed := true }
def SamplePaintsUptoSaid : Prop := samplePaintsUptoRow.holds Try.pinned (OpenSpec.upto samplePaintsSpec)

/-- 'tintypelaw10.SamplePlanes', WHERE WHAT IT READS IS OF BULK AT MOST 1048576: true; the input reads as it did. -/
def samplePlanesUptoRow : OpenClaim := { program := "ytajobboldjgidaa", sum := "f2461101ea8f4fa80d4df4b7ea454bdbb54d8dec10d7b47174bd936e378b7db1", func := "tintype/tintypelaw10.SamplePlanes", spec := "samplePlanes", unfollowed := true, recurses := true, apart := false, narrowed := true }
def SamplePlanesUptoSaid : Prop := samplePlanesUptoRow.holds Try.pinned (OpenSpec.upto samplePlanesSpec)

/-- 'tintypelaw10.SampleFlat', WHERE WHAT IT READS IS OF BULK AT MOST 1048576: true; the input reads as it did. -/
def sampleFlatUptoRow : OpenClaim := { program := "ytajobboldjgidaa", sum := "f2461101ea8f4fa80d4df4b7ea454bdbb54d8dec10d7b47174bd936e378b7db1", func := "tintype/tintypelaw10.SampleFlat", spec := "sampleFlat", unfollowed := true, recurses := true, apart := false, narrowed := true }
def SampleFlatUptoSaid : Prop := sampleFlatUptoRow.holds Try.pinned (OpenSpec.upto sampleFlatSpec)

/-- 'tintypelaw10.SampleBack', WHERE WHAT IT READS IS OF BULK AT MOST 1048576: true; the input reads as it did. -/
def sampleBackUptoRow : OpenClaim := { program := "ytajobboldjgidaa", sum := "f2461101ea8f4fa80d4df4b7ea454bdbb54d8dec10d7b47174bd936e378b7db1", func := "tintype/tintypelaw10.SampleBack", spec := "sampleBack", unfollowed := true, recurses := true, apart := false, narrowed := true }
def SampleBackUptoSaid : Prop := sampleBackUptoRow.holds Try.pinned (OpenSpec.upto sampleBackSpec)

end Rows
end Go.Proofs.Ytajobboldjgidaa
