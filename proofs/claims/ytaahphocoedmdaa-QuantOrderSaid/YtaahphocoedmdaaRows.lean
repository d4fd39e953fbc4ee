/-
  No cell of these rows narrows 'for every input' (looked for: loops, veiled, ifaces, maps, wideKeys, modest, calm, conditions, laid).
  DERIVED. THE GIVEN ROWS OF THIS SEAT. 4 by the template 'for every input the law returns true; each argument reads behind the call as it read before'; 0 by the template 'total and deterministic' (their statements: YtaahphocoedmdaaTotals.lean).
  GIVEN WITH THE SEED: the statements are not yours to turn. If you find one false, say at which input.
  Laid BY PROGRAM, IN A SANDBOX (cutbox-rows.mjs): the forced cells as the released guide's own fill.sh prints them over the translation 4b31bdc1d690647a… (all of the seat's roots in one cut). By AI agents, Wed Nov 11 2026. No macro, syntax, notation, axiom, sorry.
-/
import Derived.Test.YtaahphocoedmdaaChecked
import GoSem.Claim
import GoSem.ClaimJoined
import GoSem.ClaimMapViews
import Derived.JoinedTies
import Derived.KernelRfl
namespace Go.Proofs.Ytaahphocoedmdaa
/- THE CELL 'sum', in the pinned program and in every row, IS THE sha256 OF THE DUMP (.gsa) THAT YtaahphocoedmdaaProg.lean LOADS. Nothing in Lean hashes anything: it is a label: what it is worth is what the hold of that sum in a sandbox is worth. -/
noncomputable def Try.pinned : Pinned := { name := "ytaahphocoedmdaa", sum := "4b31bdc1d690647a9b610ebd2e2ce66a5b507b9ecfa4941ebdab018674f1ae61", checked := Try.checked }
namespace Rows
def none {H : Type} : Left H := { results := [], args := [] }

/-- 'tintypelaw06.QuantTables': WHATEVER THE INPUT: true; the input reads as it did. -/
def quantTablesSpec : ChangeSpec := { name := "quantTables", fn := fun _ => fun
  | [d1, d2, d3] => { results := [.lit (.bool true)], args := [d1, d2, d3] }
  | _ => none }
def quantTablesRow : OpenClaim := { program := "ytaahphocoedmdaa", sum := "4b31bdc1d690647a9b610ebd2e2ce66a5b507b9ecfa4941ebdab018674f1ae61", func := "tintype/tintypelaw06.QuantTables", spec := "quantTables", unfollowed := true, recurses := true, apart := false }
def QuantTablesSaid : Prop := quantTablesRow.holds Try.pinned (OpenSpec.ofChange quantTablesSpec)

/-- ITS FALSE NEIGHBOUR: 'it returns false'. Refute it at one input. -/
def quantTablesWrong : ChangeSpec := { name := "quantTables", fn := fun _ => fun
  | [d1, d2, d3] => { results := [.lit (.bool false)], args := [d1, d2, d3] }
  | _ => none }
def QuantTablesWrongFalsely : Prop := quantTablesRow.holds Try.pinned (OpenSpec.ofChange quantTablesWrong)

/-- 'tintypelaw06.QuantOrder': WHATEVER THE INPUT: true; the input reads as it did. -/
def quantOrderSpec : ChangeSpec := { name := "quantOrder", fn := fun _ => fun
  | [d1, d2, d3, d4, d5] => { results := [.lit (.bool true)], args := [d1, d2, d3, d4, d5] }
  | _ => none }
def quantOrderRow : OpenClaim := { program := "ytaahphocoedmdaa", sum := "4b31bdc1d690647a9b610ebd2e2ce66a5b507b9ecfa4941ebdab018674f1ae61", func := "tintype/tintypelaw06.QuantOrder", spec := "quantOrder", unfollowed := true, recurses := true, apart := false }
def QuantOrderSaid : Prop := quantOrderRow.holds Try.pinned (OpenSpec.ofChange quantOrderSpec)

/-- ITS FALSE NEIGHBOUR: 'it returns false'. Refute it at one input. -/
def quantOrderWrong : ChangeSpec := { name := "quantOrder", fn := fun _ => fun
  | [d1, d2, d3, d4, d5] => { results := [.lit (.bool false)], args := [d1, d2, d3, d4, d5] }
  | _ => none }
def QuantOrderWrongFalsely : Prop := quantOrderRow.holds Try.pinned (OpenSpec.ofChange quantOrderWrong)

/-- 'tintypelaw06.QuantDoes': WHATEVER THE INPUT: true; the input reads as it did. -/
def quantDoesSpec : ChangeSpec := { name := "quantDoes", fn := fun _ => fun
  | [d1, d2] => { results := [.lit (.bool true)], args := [d1, d2] }
  | _ => none }
def quantDoesRow : OpenClaim := { program := "ytaahphocoedmdaa", sum := "4b31bdc1d690647a9b610ebd2e2ce66a5b507b9ecfa4941ebdab018674f1ae61", func := "tintype/tintypelaw06.QuantDoes", spec := "quantDoes", unfollowed := true, recurses := true, apart := false }
def QuantDoesSaid : Prop := quantDoesRow.holds Try.pinned (OpenSpec.ofChange quantDoesSpec)

/-- ITS FALSE NEIGHBOUR: 'it returns false'. Refute it at one input. -/
def quantDoesWrong : ChangeSpec := { name := "quantDoes", fn := fun _ => fun
  | [d1, d2] => { results := [.lit (.bool false)], args := [d1, d2] }
  | _ => none }
def QuantDoesWrongFalsely : Prop := quantDoesRow.holds Try.pinned (OpenSpec.ofChange quantDoesWrong)

/-- 'tintypelaw06.QuantNearest': WHATEVER THE INPUT: true; the input reads as it did. -/
def quantNearestSpec : ChangeSpec := { name := "quantNearest", fn := fun _ => fun
  | [d1, d2] => { results := [.lit (.bool true)], args := [d1, d2] }
  | _ => none }
def quantNearestRow : OpenClaim := { program := "ytaahphocoedmdaa", sum := "4b31bdc1d690647a9b610ebd2e2ce66a5b507b9ecfa4941ebdab018674f1ae61", func := "tintype/tintypelaw06.QuantNearest", spec := "quantNearest", unfollowed := true, recurses := true, apart := false }
def QuantNearestSaid : Prop := quantNearestRow.holds Try.pinned (OpenSpec.ofChange quantNearestSpec)

/-- ITS FALSE NEIGHBOUR: 'it returns false'. Refute it at one input. -/
def quantNearestWrong : ChangeSpec := { name := "quantNearest", fn := fun _ => fun
  | [d1, d2] => { results := [.lit (.bool false)], args := [d1, d2] }
  | _ => none }
def QuantNearestWrongFalsely : Prop := quantNearestRow.holds Try.pinned (OpenSpec.ofChange quantNearestWrong)

/- THE SECOND FORM. 'bulk': how many values and letters a reading holds, each counted each time it is reached (what is shared counts as often as it is met; a slice's spare places count too). A statement '..UptoSaid' is the law's where the arguments, and the package variables that the reading takes, are together of bulk at most 1048576: NARROWER than '..Said'. Prove '..Said' where nothing that the law and all that it calls make is longer than what came in: it says more and counts as full. Else prove '..UptoSaid'. A law counts once. -/
mutual
def uptoBulk {H : Type} : DataW H → Nat
  | .lit (.string bytes) => bytes.length + 1
  | .lit _ => 1
  | .nil => 1
  | .ptr d => uptoBulk d + 1
  | .slice elems spare => uptoBulkAll elems + uptoBulkAll spare + 1
  | .agg parts => uptoBulkAll parts + 1
  | .iface _ d => uptoBulk d + 1
  | .map entries => uptoBulkEntries entries + 1
  | .held _ => 1
def uptoBulkAll {H : Type} : List (DataW H) → Nat
  | [] => 0
  | d :: r => uptoBulk d + uptoBulkAll r
def uptoBulkEntries {H : Type} : List (Lit × DataW H) → Nat
  | [] => 0
  | x :: r => uptoBulkEntry x + uptoBulkEntries r
def uptoBulkEntry {H : Type} : Lit × DataW H → Nat
  | (.string bytes, d) => bytes.length + uptoBulk d + 1
  | (_, d) => uptoBulk d + 1
 end
def uptoSmall : (H : Type) → List (DataW H) → Bool := fun _ ds => decide (uptoBulkAll ds ≤ 1048576)
def OpenSpec.upto (s : _root_.Go.ChangeSpec) : _root_.Go.OpenSpec := { _root_.Go.OpenSpec.ofChange s with cond := some uptoSmall }

/-- 'tintypelaw06.QuantTables', WHERE WHAT IT READS IS OF BULK AT MOST 1048576: true; the input reads as it did. -/
def quantTablesUptoRow : OpenClaim := { program := "ytaahphocoedmdaa", sum := "4b31bdc1d690647a9b610ebd2e2ce66a5b507b9ecfa4941ebdab018674f1ae61", func := "tintype/tintypelaw06.QuantTables", spec := "quantTables", unfollowed := true, recurses := true, apart := false, narrowed := true }
def QuantTablesUptoSaid : Prop := quantTablesUptoRow.holds Try.pinned (OpenSpec.upto quantTablesSpec)

/-- 'tintypelaw06.QuantOrder', WHERE WHAT IT READS IS OF BULK AT MOST 1048576: true; the input reads as it did. -/
def quantOrderUptoRow : OpenClaim := { program := "ytaahphocoedmdaa", sum := "4b31bdc1d690647a9b610ebd2e2ce66a5b507b9ecfa4941ebdab018674f1ae61", func := "tintype/tintypelaw06.QuantOrder", spec := "quantOrder", unfollowed := true, recurses := true, apart := false, narrowed := true }
def QuantOrderUptoSaid : Prop := quantOrderUptoRow.holds Try.pinned (OpenSpec.upto quantOrderSpec)

/-- 'tintypelaw06.QuantDoes', WHERE WHAT IT READS IS OF BULK AT MOST 1048576: true; the input reads as it did. -/
def quantDoesUptoRow : OpenClaim := { program := "ytaahphocoedmdaa", sum := "4b31bdc1d690647a9b610ebd2e2ce66a5b507b9ecfa4941ebdab018674f1ae61", func := "tintype/tintypelaw06.QuantDoes", spec := "quantDoes", unfollowed := true, recurses := true, apart := false, narrowed := true }
def QuantDoesUptoSaid : Prop := quantDoesUptoRow.holds Try.pinned (OpenSpec.upto quantDoesSpec)

/-- 'tintypelaw06.QuantNearest', WHERE WHAT IT READS IS OF BULK AT MOST 1048576: true; the input reads as it did. -/
def quantNearestUptoRow : OpenClaim := { program := "ytaahphocoedmdaa", sum := "4b31bdc1d690647a9b610ebd2e2ce66a5b507b9ecfa4941ebdab018674f1ae61", func := "tintype/tintypelaw06.QuantNearest", spec := "quantNearest", unfollowed := true, recurses := true, apart := false, narrowed := true }
def QuantNearestUptoSaid : Prop := quantNearestUptoRow.holds Try.pinned (OpenSpec.upto quantNearestSpec)

end Rows
end Go.Proofs.Ytaahphocoedmdaa
