/-
  No cell of these rows narrows 'for every input' (looked for: loops, veiled, ifaces, maps, wideKeys, modest, calm, conditions, laid).
  DERIVED. THE GIVEN ROWS OF THIS SEAT. 4 by the template 'for every input the law returns true; each argument reads behind the call as it read before'; 0 by the template 'total and deterministic' (their statements: YtdjfjndmkkhknaaTotals.lean).
  GIVEN WITH THE SEED: the statements are not yours to turn. If you find one false, say at which input.
  Laid BY PROGRAM, IN A SANDBOX (cutbox-rows.mjs): the forced cells as the released guide's own fill.sh prints them over the translation ffbf1facf62258ee… (all of the seat's roots in one cut). By AI agents, Wed Nov 11 2026. No macro, syntax, notation, axiom, sorry.
-/
import Derived.Test.YtdjfjndmkkhknaaChecked
import GoSem.Claim
import GoSem.ClaimJoined
import GoSem.ClaimMapViews
import Derived.JoinedTies
import Derived.KernelRfl
namespace Go.Proofs.Ytdjfjndmkkhknaa
/- THE CELL 'sum', in the pinned program and in every row, IS THE sha256 OF THE DUMP (.gsa) THAT YtdjfjndmkkhknaaProg.lean LOADS. Nothing in Lean hashes anything: it is a label: what it is worth is what the hold of that sum in a sandbox is worth. -/
noncomputable def Try.pinned : Pinned := { name := "ytdjfjndmkkhknaa", sum := "ffbf1facf62258ee4ee14891e1457c44939db7fd713d6235ae5e9e1802e8de41", checked := Try.checked }
namespace Rows
def none {H : Type} : Left H := { results := [], args := [] }

/-- 'tintypelaw09.RasterTells': WHATEVER THE INPUT: true; the input reads as it did. -/
def rasterTellsSpec : ChangeSpec := { name := "rasterTells", fn := fun _ => fun
  | [d1, d2, d3, d4, d5] => { results := [.lit (.bool true)], args := [d1, d2, d3, d4, d5] }
  | _ => none }
def rasterTellsRow : OpenClaim := { program := "ytdjfjndmkkhknaa", sum := "ffbf1facf62258ee4ee14891e1457c44939db7fd713d6235ae5e9e1802e8de41", func := "tintype/tintypelaw09.RasterTells", spec := "rasterTells", unfollowed := true, recurses := true, apart := false }
def RasterTellsSaid : Prop := rasterTellsRow.holds Try.pinned (OpenSpec.ofChange rasterTellsSpec)

/-- ITS FALSE NEIGHBOUR: 'it returns false'. Refute it at one input. -/
def rasterTellsWrong : ChangeSpec := { name := "rasterTells", fn := fun _ => fun
  | [d1, d2, d3, d4, d5] => { results := [.lit (.bool false)], args := [d1, d2, d3, d4, d5] }
  | _ => none }
def RasterTellsWrongFalsely : Prop := rasterTellsRow.holds Try.pinned (OpenSpec.ofChange rasterTellsWrong)

/-- 'tintypelaw09.RasterDoes': WHATEVER THE INPUT: true; the input reads as it did. -/
def rasterDoesSpec : ChangeSpec := { name := "rasterDoes", fn := fun _ => fun
  | [d1, d2, d3] => { results := [.lit (.bool true)], args := [d1, d2, d3] }
  | _ => none }
def rasterDoesRow : OpenClaim := { program := "ytdjfjndmkkhknaa", sum := "ffbf1facf62258ee4ee14891e1457c44939db7fd713d6235ae5e9e1802e8de41", func := "tintype/tintypelaw09.RasterDoes", spec := "rasterDoes", unfollowed := true, recurses := true, apart := false }
def RasterDoesSaid : Prop := rasterDoesRow.holds Try.pinned (OpenSpec.ofChange rasterDoesSpec)

/-- ITS FALSE NEIGHBOUR: 'it returns false'. Refute it at one input. -/
def rasterDoesWrong : ChangeSpec := { name := "rasterDoes", fn := fun _ => fun
  | [d1, d2, d3] => { results := [.lit (.bool false)], args := [d1, d2, d3] }
  | _ => none }
def RasterDoesWrongFalsely : Prop := rasterDoesRow.holds Try.pinned (OpenSpec.ofChange rasterDoesWrong)

/-- 'tintypelaw09.RasterBack': WHATEVER THE INPUT: true; the input reads as it did. -/
def rasterBackSpec : ChangeSpec := { name := "rasterBack", fn := fun _ => fun
  | [d1, d2, d3] => { results := [.lit (.bool true)], args := [d1, d2, d3] }
  | _ => none }
def rasterBackRow : OpenClaim := { program := "ytdjfjndmkkhknaa", sum := "ffbf1facf62258ee4ee14891e1457c44939db7fd713d6235ae5e9e1802e8de41", func := "tintype/tintypelaw09.RasterBack", spec := "rasterBack", unfollowed := true, recurses := true, apart := false }
def RasterBackSaid : Prop := rasterBackRow.holds Try.pinned (OpenSpec.ofChange rasterBackSpec)

/-- ITS FALSE NEIGHBOUR: 'it returns false'. Refute it at one input. -/
def rasterBackWrong : ChangeSpec := { name := "rasterBack", fn := fun _ => fun
  | [d1, d2, d3] => { results := [.lit (.bool false)], args := [d1, d2, d3] }
  | _ => none }
def RasterBackWrongFalsely : Prop := rasterBackRow.holds Try.pinned (OpenSpec.ofChange rasterBackWrong)

/-- 'tintypelaw09.RasterMiddle': WHATEVER THE INPUT: true; the input reads as it did. -/
def rasterMiddleSpec : ChangeSpec := { name := "rasterMiddle", fn := fun _ => fun
  | [d1, d2, d3] => { results := [.lit (.bool true)], args := [d1, d2, d3] }
  | _ => none }
def rasterMiddleRow : OpenClaim := { program := "ytdjfjndmkkhknaa", sum := "ffbf1facf62258ee4ee14891e1457c44939db7fd713d6235ae5e9e1802e8de41", func := "tintype/tintypelaw09.RasterMiddle", spec := "rasterMiddle", unfollowed := true, recurses := true, apart := false }
def RasterMiddleSaid : Prop := rasterMiddleRow.holds Try.pinned (OpenSpec.ofChange rasterMiddleSpec)

/-- ITS FALSE NEIGHBOUR: 'it returns false'. Refute it at one input. -/
def rasterMiddleWrong : ChangeSpec := { name := "rasterMiddle", fn := fun _ => fun
  | [d1, d2, d3] => { results := [.lit (.bool false)], args := [d1, d2, d3] }
  | _ => none }
def RasterMiddleWrongFalsely : Prop := rasterMiddleRow.holds Try.pinned (OpenSpec.ofChange rasterMiddleWrong)

/- THE SECOND FORM. 'bulk': how many values and letters a reading holds, each counted each time it is reached (what is shared counts as often as it is met; a slice's spare places count too). A statement '..UptoSaid' is the law's where the arguments, and the package variables that the reading takes, are together of bulk at most 1048576: NARROWER than '..Said'. Prove '..Said' where nothing that the law and all that it calls make is longer than what came in: it says more and counts as full. Else prove '..UptoSaid'. A law counts once. -/
mutual
def uptoBulk {H : Type} : DataW H → Nat
  | .lit (.string bytes) => bytes.length + 1
  | .lit _ => 1
  | .nil => 1
  | .ptr d => uptoBulk d + 1
  | .slice elems spare => uptoBulkAll elems + uptoBulkAll spare + 1
  | .agg parts => uptoBulkAll parts + 1
  | .iface _ d => uptoBulk d + 1
  | .map entries => uptoBulkEntries entries + 1
  | .held _ => 1
def uptoBulkAll {H : Type} : List (DataW H) → Nat
  | [] => 0
  | d :: r => uptoBulk d + uptoBulkAll r
def uptoBulkEntries {H : Type} : List (Lit × DataW H) → Nat
  | [] => 0
  | x :: r => uptoBulkEntry x + uptoBulkEntries r
def uptoBulkEntry {H : Type} : Lit × DataW H → Nat
  | (.string bytes, d) => bytes.length + uptoBulk d + 1
  | (_, d) => uptoBulk d + 1
 end
def uptoSmall : (H : Type) → List (DataW H) → Bool := fun _ ds => decide (uptoBulkAll ds ≤ 1048576)
def OpenSpec.upto (s : _root_.Go.ChangeSpec) : _root_.Go.OpenSpec := { _root_.Go.OpenSpec.ofChange s with cond := some uptoSmall }

/-- 'tintypelaw09.RasterTells', WHERE WHAT IT READS IS OF BULK AT MOST 1048576: true; the input reads as it did. -/
def rasterTellsUptoRow : OpenClaim := { program := "ytdjfjndmkkhknaa", sum := "ffbf1facf62258ee4ee14891e1457c44939db7fd713d6235ae5e9e1802e8de41", func := "tintype/tintypelaw09.RasterTells", spec := "rasterTells", unfollowed := true, recurses := true, apart := false, narrowed := true }
def RasterTellsUptoSaid : Prop := rasterTellsUptoRow.holds Try.pinned (OpenSpec.upto rasterTellsSpec)

/-- 'tintypelaw09.RasterDoes', WHERE WHAT IT READS IS OF BULK AT MOST 1048576: true; the input reads as it did. -/
def rasterDoesUptoRow : OpenClaim := { program := "ytdjfjndmkkhknaa", sum := "ffbf1facf62258ee4ee14891e1457c44939db7fd713d6235ae5e9e1802e8de41", func := "tintype/tintypelaw09.RasterDoes", spec := "rasterDoes", unfollowed := true, recurses := true, apart := false, narrowed := true }
def RasterDoesUptoSaid : Prop := rasterDoesUptoRow.holds Try.pinned (OpenSpec.upto rasterDoesSpec)

/-- 'tintypelaw09.RasterBack', WHERE WHAT IT READS IS OF BULK AT MOST 1048576: true; the input reads as it did. -/
def rasterBackUptoRow : OpenClaim := { program := "ytdjfjndmkkhknaa", sum := "ffbf1facf62258ee4ee14891e1457c44939db7fd713d6235ae5e9e1802e8de41", func := "tintype/tintypelaw09.RasterBack", spec := "rasterBack", unfollowed := true, recurses := true, apart := false, narrowed := true }
def RasterBackUptoSaid : Prop := rasterBackUptoRow.holds Try.pinned (OpenSpec.upto rasterBackSpec)

/-- 'tintypelaw09.RasterMiddle', WHERE WHAT IT READS IS OF BULK AT MOST 1048576: true; the input reads as it did. -/
def rasterMiddleUptoRow : OpenClaim := { program := "ytdjfjndmkkhknaa", sum := "ffbf1facf62258ee4ee14891e1457c44939db7fd713d6235ae5e9e1802e8de41", func := "tintype/tintypelaw09.RasterMiddle", spec := "rasterMiddle", unfollowed := true, recurses := true, apart := false, narrowed := true }
def RasterMiddleUptoSaid : Prop := rasterMiddleUptoRow.holds Try.pinned (OpenSpec.upto rasterMiddleSpec)

end Rows
end Go.Proofs.Ytdjfjndmkkhknaa
