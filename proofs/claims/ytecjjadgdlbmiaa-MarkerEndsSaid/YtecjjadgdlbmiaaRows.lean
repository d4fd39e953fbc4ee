/-
  No cell of these rows narrows 'for every input' (looked for: loops, veiled, ifaces, maps, wideKeys, modest, calm, conditions, laid).
  DERIVED. THE GIVEN ROWS OF THIS SEAT. 4 by the template 'for every input the law returns true; each argument reads behind the call as it read before'; 0 by the template 'total and deterministic' (their statements: YtecjjadgdlbmiaaTotals.lean).
  GIVEN WITH THE SEED: the statements are not yours to turn. If you find one false, say at which input.
  Laid BY PROGRAM, IN A SANDBOX (cutbox-rows.mjs): the forced cells as the released guide's own fill.sh prints them over the translation 57827fe31f57dfd0… (all of the seat's roots in one cut). By AI agents, Wed Nov 11 2026. No macro, syntax, notation, axiom, sorry.
-/
import Derived.Test.YtecjjadgdlbmiaaChecked
import GoSem.Claim
import GoSem.ClaimJoined
import GoSem.ClaimMapViews
import Derived.JoinedTies
import Derived.KernelRfl
namespace Go.Proofs.Ytecjjadgdlbmiaa
/- THE CELL 'sum', in the pinned program and in every row, IS THE sha256 OF THE DUMP (.gsa) THAT YtecjjadgdlbmiaaProg.lean LOADS. Nothing in Lean hashes anything: it is a label: what it is worth is what the hold of that sum in a sandbox is worth. -/
noncomputable def Try.pinned : Pinned := { name := "ytecjjadgdlbmiaa", sum := "57827fe31f57dfd0b73c11450229405513b536d2629759195e797851739fcd14", checked := Try.checked }
namespace Rows
def none {H : Type} : Left H := { results := [], args := [] }

/-- 'tintypelaw13.MarkerReads': WHATEVER THE INPUT: true; the input reads as it did. -/
def markerReadsSpec : ChangeSpec := { name := "markerReads", fn := fun _ => fun
  | [d1, d2] => { results := [.lit (.bool true)], args := [d1, d2] }
  | _ => none }
def markerReadsRow : OpenClaim := { program := "ytecjjadgdlbmiaa", sum := "57827fe31f57dfd0b73c11450229405513b536d2629759195e797851739fcd14", func := "tintype/tintypelaw13.MarkerReads", spec := "markerReads", unfollowed := true, recurses := true, apart := false }
def MarkerReadsSaid : Prop := markerReadsRow.holds Try.pinned (OpenSpec.ofChange markerReadsSpec)

/-- ITS FALSE NEIGHBOUR: 'it returns false'. Refute it at one input. -/
def markerReadsWrong : ChangeSpec := { name := "markerReads", fn := fun _ => fun
  | [d1, d2] => { results := [.lit (.bool false)], args := [d1, d2] }
  | _ => none }
def MarkerReadsWrongFalsely : Prop := markerReadsRow.holds Try.pinned (OpenSpec.ofChange markerReadsWrong)

/-- 'tintypelaw13.MarkerWrites': WHATEVER THE INPUT: true; the input reads as it did. -/
def markerWritesSpec : ChangeSpec := { name := "markerWrites", fn := fun _ => fun
  | [d1, d2] => { results := [.lit (.bool true)], args := [d1, d2] }
  | _ => none }
def markerWritesRow : OpenClaim := { program := "ytecjjadgdlbmiaa", sum := "57827fe31f57dfd0b73c11450229405513b536d2629759195e797851739fcd14", func := "tintype/tintypelaw13.MarkerWrites", spec := "markerWrites", unfollowed := true, recurses := true, apart := false }
def MarkerWritesSaid : Prop := markerWritesRow.holds Try.pinned (OpenSpec.ofChange markerWritesSpec)

/-- ITS FALSE NEIGHBOUR: 'it returns false'. Refute it at one input. -/
def markerWritesWrong : ChangeSpec := { name := "markerWrites", fn := fun _ => fun
  | [d1, d2] => { results := [.lit (.bool false)], args := [d1, d2] }
  | _ => none }
def MarkerWritesWrongFalsely : Prop := markerWritesRow.holds Try.pinned (OpenSpec.ofChange markerWritesWrong)

/-- 'tintypelaw13.MarkerBack': WHATEVER THE INPUT: true; the input reads as it did. -/
def markerBackSpec : ChangeSpec := { name := "markerBack", fn := fun _ => fun
  | [d1, d2] => { results := [.lit (.bool true)], args := [d1, d2] }
  | _ => none }
def markerBackRow : OpenClaim := { program := "ytecjjadgdlbmiaa", sum := "57827fe31f57dfd0b73c11450229405513b536d2629759195e797851739fcd14", func := "tintype/tintypelaw13.MarkerBack", spec := "markerBack", unfollowed := true, recurses := true, apart := false }
def MarkerBackSaid : Prop := markerBackRow.holds Try.pinned (OpenSpec.ofChange markerBackSpec)

/-- ITS FALSE NEIGHBOUR: 'it returns false'. Refute it at one input. -/
def markerBackWrong : ChangeSpec := { name := "markerBack", fn := fun _ => fun
  | [d1, d2] => { results := [.lit (.bool false)], args := [d1, d2] }
  | _ => none }
def MarkerBackWrongFalsely : Prop := markerBackRow.holds Try.pinned (OpenSpec.ofChange markerBackWrong)

/-- 'tintypelaw13.MarkerEnds': WHATEVER THE INPUT: true; the input reads as it did. -/
def markerEndsSpec : ChangeSpec := { name := "markerEnds", fn := fun _ => fun
  | [d1, d2, d3, d4] => { results := [.lit (.bool true)], args := [d1, d2, d3, d4] }
  | _ => none }
def markerEndsRow : OpenClaim := { program := "ytecjjadgdlbmiaa", sum := "57827fe31f57dfd0b73c11450229405513b536d2629759195e797851739fcd14", func := "tintype/tintypelaw13.MarkerEnds", spec := "markerEnds", unfollowed := true, recurses := true, apart := false }
def MarkerEndsSaid : Prop := markerEndsRow.holds Try.pinned (OpenSpec.ofChange markerEndsSpec)

/-- ITS FALSE NEIGHBOUR: 'it returns false'. Refute it at one input. -/
def markerEndsWrong : ChangeSpec := { name := "markerEnds", fn := fun _ => fun
  | [d1, d2, d3, d4] => { results := [.lit (.bool false)], args := [d1, d2, d3, d4] }
  | _ => none }
def MarkerEndsWrongFalsely : Prop := markerEndsRow.holds Try.pinned (OpenSpec.ofChange markerEndsWrong)

/- THE SECOND FORM. 'bulk': how many values and letters a reading holds, each counted each time it is reached (what is shared counts as often as it is met; a slice's spare places count too). A statement '..UptoSaid' is the law's where the arguments, and the package variables that the reading takes, are together of bulk at most 1048576: NARROWER than '..Said'. Prove '..Said' where nothing that the law and all that it calls make is longer than what came in: it says more and counts as full. Else prove '..UptoSaid'. A law counts once. -/
mutual
def uptoBulk {H : Type} : DataW H → Nat
  | .lit (.string bytes) => bytes.length + 1
  | .lit _ => 1
  | .nil => 1
  | .ptr d => uptoBulk d + 1
  | .slice elems spare => uptoBulkAll elems + uptoBulkAll spare + 1
  | .agg parts => uptoBulkAll parts + 1
  | .iface _ d => uptoBulk d + 1
  | .map entries => uptoBulkEntries entries + 1
  | .held _ => 1
def uptoBulkAll {H : Type} : List (DataW H) → Nat
  | [] => 0
  | d :: r => uptoBulk d + uptoBulkAll r
def uptoBulkEntries {H : Type} : List (Lit × DataW H) → Nat
  | [] => 0
  | x :: r => uptoBulkEntry x + uptoBulkEntries r
def uptoBulkEntry {H : Type} : Lit × DataW H → Nat
  | (.string bytes, d) => bytes.length + uptoBulk d + 1
  | (_, d) => uptoBulk d + 1
 end
def uptoSmall : (H : Type) → List (DataW H) → Bool := fun _ ds => decide (uptoBulkAll ds ≤ 1048576)
def OpenSpec.upto (s : _root_.Go.ChangeSpec) : _root_.Go.OpenSpec := { _root_.Go.OpenSpec.ofChange s with cond := some uptoSmall }

/-- 'tintypelaw13.MarkerReads', WHERE WHAT IT READS IS OF BULK AT MOST 1048576: true; the input reads as it did. -/
def markerReadsUptoRow : OpenClaim := { program := "ytecjjadgdlbmiaa", sum := "57827fe31f57dfd0b73c11450229405513b536d2629759195e797851739fcd14", func := "tintype/tintypelaw13.MarkerReads", spec := "markerReads", unfollowed := true, recurses := true, apart := false, narrowed := true }
def MarkerReadsUptoSaid : Prop := markerReadsUptoRow.holds Try.pinned (OpenSpec.upto markerReadsSpec)

/-- 'tintypelaw13.MarkerWrites', WHERE WHAT IT READS IS OF BULK AT MOST 1048576: true; the input reads as it did. -/
def markerWritesUptoRow : OpenClaim := { program := "ytecjjadgdlbmiaa", sum := "57827fe31f57dfd0b73c11450229405513b536d2629759195e797851739fcd14", func := "tintype/tintypelaw13.MarkerWrites", spec := "markerWrites", unfollowed := true, recurses := true, apart := false, narrowed := true }
def MarkerWritesUptoSaid : Prop := markerWritesUptoRow.holds Try.pinned (OpenSpec.upto markerWritesSpec)

/-- 'tintypelaw13.MarkerBack', WHERE WHAT IT READS IS OF BULK AT MOST 1048576: true; the input reads as it did. -/
def markerBackUptoRow : OpenClaim := { program := "ytecjjadgdlbmiaa", sum := "57827fe31f57dfd0b73c11450229405513b536d2629759195e797851739fcd14", func := "tintype/tintypelaw13.MarkerBack", spec := "markerBack", unfollowed := true, recurses := true, apart := false, narrowed := true }
def MarkerBackUptoSaid : Prop := markerBackUptoRow.holds Try.pinned (OpenSpec.upto markerBackSpec)

/-- 'tintypelaw13.MarkerEnds', WHERE WHAT IT READS IS OF BULK AT MOST 1048576: true; the input reads as it did. -/
def markerEndsUptoRow : OpenClaim := { program := "ytecjjadgdlbmiaa", sum := "57827fe31f57dfd0b73c11450229405513b536d2629759195e797851739fcd14", func := "tintype/tintypelaw13.MarkerEnds", spec := "markerEnds", unfollowed := true, recurses := true, apart := false, narrowed := true }
def MarkerEndsUptoSaid : Prop := markerEndsUptoRow.holds Try.pinned (OpenSpec.upto markerEndsSpec)

end Rows
end Go.Proofs.Ytecjjadgdlbmiaa
