/-
  No cell of these rows narrows 'for every input' (looked for: loops, veiled, ifaces, maps, wideKeys, modest, calm, conditions, laid).
  DERIVED. THE GIVEN ROWS OF THIS SEAT. 4 by the template 'for every input the law returns true; each argument reads behind the call as it read before'; 0 by the template 'total and deterministic' (their statements: YtknnmgbiondipaaTotals.lean).
  GIVEN WITH THE SEED: the statements are not yours to turn. If you find one false, say at which input.
  Laid BY PROGRAM, IN A SANDBOX (cutbox-rows.mjs): the forced cells as the released guide's own fill.sh prints them over the translation ee847cec5b8d3f63… (all of the seat's roots in one cut). By AI agents, Wed Nov 11 2026. No macro, syntax, notation, axiom, sorry.
-/
import Derived.Test.YtknnmgbiondipaaChecked
import GoSem.Claim
import GoSem.ClaimJoined
import GoSem.ClaimMapViews
import Derived.JoinedTies
import Derived.KernelRfl
namespace Go.Proofs.Ytknnmgbiondipaa
/- THE CELL 'sum', in the pinned program and in every row, IS THE sha256 OF THE DUMP (.gsa) THAT YtknnmgbiondipaaProg.lean LOADS. Nothing in Lean hashes anything: it is a label: what it is worth is what the hold of that sum in a sandbox is worth. -/
noncomputable def Try.pinned : Pinned := { name := "ytknnmgbiondipaa", sum := "ee847cec5b8d3f6386d3d61aa7650b7ae8179426f3aa11d8ab5f234b2f83768b", checked := Try.checked }
namespace Rows
def none {H : Type} : Left H := { results := [], args := [] }

/-- 'tintypelaw08.ColourTells': WHATEVER THE INPUT: true; the input reads as it did. -/
def colourTellsSpec : ChangeSpec := { name := "colourTells", fn := fun _ => fun
  | [d1, d2, d3] => { results := [.lit (.bool true)], args := [d1, d2, d3] }
  | _ => none }
def colourTellsRow : OpenClaim := { program := "ytknnmgbiondipaa", sum := "ee847cec5b8d3f6386d3d61aa7650b7ae8179426f3aa11d8ab5f234b2f83768b", func := "tintype/tintypelaw08.ColourTells", spec := "colourTells", unfollowed := true, recurses := true, apart := false }
def ColourTellsSaid : Prop := colourTellsRow.holds Try.pinned (OpenSpec.ofChange colourTellsSpec)

/-- ITS FALSE NEIGHBOUR: 'it returns false'. Refute it at one input. -/
def colourTellsWrong : ChangeSpec := { name := "colourTells", fn := fun _ => fun
  | [d1, d2, d3] => { results := [.lit (.bool false)], args := [d1, d2, d3] }
  | _ => none }
def ColourTellsWrongFalsely : Prop := colourTellsRow.holds Try.pinned (OpenSpec.ofChange colourTellsWrong)

/-- 'tintypelaw08.ColourAll': WHATEVER THE INPUT: true; the input reads as it did. -/
def colourAllSpec : ChangeSpec := { name := "colourAll", fn := fun _ => fun
  | [d] => { results := [.lit (.bool true)], args := [d] }
  | _ => none }
def colourAllRow : OpenClaim := { program := "ytknnmgbiondipaa", sum := "ee847cec5b8d3f6386d3d61aa7650b7ae8179426f3aa11d8ab5f234b2f83768b", func := "tintype/tintypelaw08.ColourAll", spec := "colourAll", unfollowed := true, recurses := true, apart := false }
def ColourAllSaid : Prop := colourAllRow.holds Try.pinned (OpenSpec.ofChange colourAllSpec)

/-- ITS FALSE NEIGHBOUR: 'it returns false'. Refute it at one input. -/
def colourAllWrong : ChangeSpec := { name := "colourAll", fn := fun _ => fun
  | [d] => { results := [.lit (.bool false)], args := [d] }
  | _ => none }
def ColourAllWrongFalsely : Prop := colourAllRow.holds Try.pinned (OpenSpec.ofChange colourAllWrong)

/-- 'tintypelaw08.ColourBack': WHATEVER THE INPUT: true; the input reads as it did. -/
def colourBackSpec : ChangeSpec := { name := "colourBack", fn := fun _ => fun
  | [d1, d2, d3] => { results := [.lit (.bool true)], args := [d1, d2, d3] }
  | _ => none }
def colourBackRow : OpenClaim := { program := "ytknnmgbiondipaa", sum := "ee847cec5b8d3f6386d3d61aa7650b7ae8179426f3aa11d8ab5f234b2f83768b", func := "tintype/tintypelaw08.ColourBack", spec := "colourBack", unfollowed := true, recurses := true, apart := false }
def ColourBackSaid : Prop := colourBackRow.holds Try.pinned (OpenSpec.ofChange colourBackSpec)

/-- ITS FALSE NEIGHBOUR: 'it returns false'. Refute it at one input. -/
def colourBackWrong : ChangeSpec := { name := "colourBack", fn := fun _ => fun
  | [d1, d2, d3] => { results := [.lit (.bool false)], args := [d1, d2, d3] }
  | _ => none }
def ColourBackWrongFalsely : Prop := colourBackRow.holds Try.pinned (OpenSpec.ofChange colourBackWrong)

/-- 'tintypelaw08.ColourOrder': WHATEVER THE INPUT: true; the input reads as it did. -/
def colourOrderSpec : ChangeSpec := { name := "colourOrder", fn := fun _ => fun
  | [d1, d2, d3, d4, d5, d6] => { results := [.lit (.bool true)], args := [d1, d2, d3, d4, d5, d6] }
  | _ => none }
def colourOrderRow : OpenClaim := { program := "ytknnmgbiondipaa", sum := "ee847cec5b8d3f6386d3d61aa7650b7ae8179426f3aa11d8ab5f234b2f83768b", func := "tintype/tintypelaw08.ColourOrder", spec := "colourOrder", unfollowed := true, recurses := true, apart := false }
def ColourOrderSaid : Prop := colourOrderRow.holds Try.pinned (OpenSpec.ofChange colourOrderSpec)

/-- ITS FALSE NEIGHBOUR: 'it returns false'. Refute it at one input. -/
def colourOrderWrong : ChangeSpec := { name := "colourOrder", fn := fun _ => fun
  | [d1, d2, d3, d4, d5, d6] => { results := [.lit (.bool false)], args := [d1, d2, d3, d4, d5, d6] }
  | _ => none }
def ColourOrderWrongFalsely : Prop := colourOrderRow.holds Try.pinned (OpenSpec.ofChange colourOrderWrong)

/- THE SECOND FORM. 'bulk': how many values and letters a reading holds, each counted each time it is reached (what is shared counts as often as it is met; a slice's spare places count too). A statement '..UptoSaid' is the law's where the arguments, and the package variables that the reading takes, are together of bulk at most 1048576: NARROWER than '..Said'. Prove '..Said' where nothing that the law and all that it calls make is longer than what came in: it says more and counts as full. Else prove '..UptoSaid'. A law counts once. -/
mutual
def uptoBulk {H : Type} : DataW H → Nat
  | .lit (.string bytes) => bytes.length + 1
  | .lit _ => 1
  | .nil => 1
  | .ptr d => uptoBulk d + 1
  | .slice elems spare => uptoBulkAll elems + uptoBulkAll spare + 1
  | .agg parts => uptoBulkAll parts + 1
  | .iface _ d => uptoBulk d + 1
  | .map entries => uptoBulkEntries entries + 1
  | .held _ => 1
def uptoBulkAll {H : Type} : List (DataW H) → Nat
  | [] => 0
  | d :: r => uptoBulk d + uptoBulkAll r
def uptoBulkEntries {H : Type} : List (Lit × DataW H) → Nat
  | [] => 0
  | x :: r => uptoBulkEntry x + uptoBulkEntries r
def uptoBulkEntry {H : Type} : Lit × DataW H → Nat
  | (.string bytes, d) => bytes.length + uptoBulk d + 1
  | (_, d) => uptoBulk d + 1
 end
def uptoSmall : (H : Type) → List (DataW H) → Bool := fun _ ds => decide (uptoBulkAll ds ≤ 1048576)
def OpenSpec.upto (s : _root_.Go.ChangeSpec) : _root_.Go.OpenSpec := { _root_.Go.OpenSpec.ofChange s with cond := some uptoSmall }

/-- 'tintypelaw08.ColourTells', WHERE WHAT IT READS IS OF BULK AT MOST 1048576: true; the input reads as it did. -/
def colourTellsUptoRow : OpenClaim := { program := "ytknnmgbiondipaa", sum := "ee847cec5b8d3f6386d3d61aa7650b7ae8179426f3aa11d8ab5f234b2f83768b", func := "tintype/tintypelaw08.ColourTells", spec := "colourTells", unfollowed := true, recurses := true, apart := false, narrowed := true }
def ColourTellsUptoSaid : Prop := colourTellsUptoRow.holds Try.pinned (OpenSpec.upto colourTellsSpec)

/-- 'tintypelaw08.ColourAll', WHERE WHAT IT READS IS OF BULK AT MOST 1048576: true; the input reads as it did. -/
def colourAllUptoRow : OpenClaim := { program := "ytknnmgbiondipaa", sum := "ee847cec5b8d3f6386d3d61aa7650b7ae8179426f3aa11d8ab5f234b2f83768b", func := "tintype/tintypelaw08.ColourAll", spec := "colourAll", unfollowed := true, recurses := true, apart := false, narrowed := true }
def ColourAllUptoSaid : Prop := colourAllUptoRow.holds Try.pinned (OpenSpec.upto colourAllSpec)

/-- 'tintypelaw08.ColourBack', WHERE WHAT IT READS IS OF BULK AT MOST 1048576: true; the input reads as it did. -/
def colourBackUptoRow : OpenClaim := { program := "ytknnmgbiondipaa", sum := "ee847cec5b8d3f6386d3d61aa7650b7ae8179426f3aa11d8ab5f234b2f83768b", func := "tintype/tintypelaw08.ColourBack", spec := "colourBack", unfollowed := true, recurses := true, apart := false, narrowed := true }
def ColourBackUptoSaid : Prop := colourBackUptoRow.holds Try.pinned (OpenSpec.upto colourBackSpec)

/-- 'tintypelaw08.ColourOrder', WHERE WHAT IT READS IS OF BULK AT MOST 1048576: true; the input reads as it did. -/
def colourOrderUptoRow : OpenClaim := { program := "ytknnmgbiondipaa", sum := "ee847cec5b8d3f6386d3d61aa7650b7ae8179426f3aa11d8ab5f234b2f83768b", func := "tintype/tintypelaw08.ColourOrder", spec := "colourOrder", unfollowed := true, recurses := true, apart := false, narrowed := true }
def ColourOrderUptoSaid : Prop := colourOrderUptoRow.holds Try.pinned (OpenSpec.upto colourOrderSpec)

end Rows
end Go.Proofs.Ytknnmgbiondipaa
