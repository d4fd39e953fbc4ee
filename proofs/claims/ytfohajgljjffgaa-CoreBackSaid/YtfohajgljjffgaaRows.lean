/-
  No cell of these rows narrows 'for every input' (looked for: loops, veiled, ifaces, maps, wideKeys, modest, calm, conditions, laid).
  DERIVED. THE GIVEN ROWS OF THIS SEAT. 4 by the template 'for every input the law returns true; each argument reads behind the call as it read before'; 0 by the template 'total and deterministic' (their statements: YtfohajgljjffgaaTotals.lean).
  GIVEN WITH THE SEED: the statements are not yours to turn. If you find one false, say at which input.
  Laid BY PROGRAM, IN A SANDBOX (cutbox-rows.mjs): the forced cells as the released guide's own fill.sh prints them over the translation 87ed02f2f353804c… (all of the seat's roots in one cut). By AI agents, Wed Nov 11 2026. No macro, syntax, notation, axiom, sorry.
-/
import Derived.Test.YtfohajgljjffgaaChecked
import GoSem.Claim
import GoSem.ClaimJoined
import GoSem.ClaimMapViews
import Derived.JoinedTies
import Derived.KernelRfl
namespace Go.Proofs.Ytfohajgljjffgaa
/- THE CELL 'sum', in the pinned program and in every row, IS THE sha256 OF THE DUMP (.gsa) THAT YtfohajgljjffgaaProg.lean LOADS. Nothing in Lean hashes anything: it is a label: what it is worth is what the hold of that sum in a sandbox is worth. -/
noncomputable def Try.pinned : Pinned := { name := "ytfohajgljjffgaa", sum := "87ed02f2f353804c3ef2155d21d93ed9101d36ef5efdbe862f98e82b6c94c79b", checked := Try.checked }
namespace Rows
def none {H : Type} : Left H := { results := [], args := [] }

/-- 'tintypelaw17.CoreTells': WHATEVER THE INPUT: true; the input reads as it did. -/
def coreTellsSpec : ChangeSpec := { name := "coreTells", fn := fun _ => fun
  | [d1, d2] => { results := [.lit (.bool true)], args := [d1, d2] }
  | _ => none }
def coreTellsRow : OpenClaim := { program := "ytfohajgljjffgaa", sum := "87ed02f2f353804c3ef2155d21d93ed9101d36ef5efdbe862f98e82b6c94c79b", func := "tintype/tintypelaw17.CoreTells", spec := "coreTells", unfollowed := true, recurses := true, apart := false }
def CoreTellsSaid : Prop := coreTellsRow.holds Try.pinned (OpenSpec.ofChange coreTellsSpec)

/-- ITS FALSE NEIGHBOUR: 'it returns false'. Refute it at one input. -/
def coreTellsWrong : ChangeSpec := { name := "coreTells", fn := fun _ => fun
  | [d1, d2] => { results := [.lit (.bool false)], args := [d1, d2] }
  | _ => none }
def CoreTellsWrongFalsely : Prop := coreTellsRow.holds Try.pinned (OpenSpec.ofChange coreTellsWrong)

/-- 'tintypelaw17.CorePuts': WHATEVER THE INPUT: true; the input reads as it did. -/
def corePutsSpec : ChangeSpec := { name := "corePuts", fn := fun _ => fun
  | [d1, d2] => { results := [.lit (.bool true)], args := [d1, d2] }
  | _ => none }
def corePutsRow : OpenClaim := { program := "ytfohajgljjffgaa", sum := "87ed02f2f353804c3ef2155d21d93ed9101d36ef5efdbe862f98e82b6c94c79b", func := "tintype/tintypelaw17.CorePuts", spec := "corePuts", unfollowed := true, recurses := true, apart := false }
def CorePutsSaid : Prop := corePutsRow.holds Try.pinned (OpenSpec.ofChange corePutsSpec)

/-- ITS FALSE NEIGHBOUR: 'it returns false'. Refute it at one input. -/
def corePutsWrong : ChangeSpec := { name := "corePuts", fn := fun _ => fun
  | [d1, d2] => { results := [.lit (.bool false)], args := [d1, d2] }
  | _ => none }
def CorePutsWrongFalsely : Prop := corePutsRow.holds Try.pinned (OpenSpec.ofChange corePutsWrong)

/-- 'tintypelaw17.CoreBack': WHATEVER THE INPUT: true; the input reads as it did. -/
def coreBackSpec : ChangeSpec := { name := "coreBack", fn := fun _ => fun
  | [d1, d2] => { results := [.lit (.bool true)], args := [d1, d2] }
  | _ => none }
def coreBackRow : OpenClaim := { program := "ytfohajgljjffgaa", sum := "87ed02f2f353804c3ef2155d21d93ed9101d36ef5efdbe862f98e82b6c94c79b", func := "tintype/tintypelaw17.CoreBack", spec := "coreBack", unfollowed := true, recurses := true, apart := false }
def CoreBackSaid : Prop := coreBackRow.holds Try.pinned (OpenSpec.ofChange coreBackSpec)

/-- ITS FALSE NEIGHBOUR: 'it returns false'. Refute it at one input. -/
def coreBackWrong : ChangeSpec := { name := "coreBack", fn := fun _ => fun
  | [d1, d2] => { results := [.lit (.bool false)], args := [d1, d2] }
  | _ => none }
def CoreBackWrongFalsely : Prop := coreBackRow.holds Try.pinned (OpenSpec.ofChange coreBackWrong)

/-- 'tintypelaw17.CoreStrips': WHATEVER THE INPUT: true; the input reads as it did. -/
def coreStripsSpec : ChangeSpec := { name := "coreStrips", fn := fun _ => fun
  | [d] => { results := [.lit (.bool true)], args := [d] }
  | _ => none }
def coreStripsRow : OpenClaim := { program := "ytfohajgljjffgaa", sum := "87ed02f2f353804c3ef2155d21d93ed9101d36ef5efdbe862f98e82b6c94c79b", func := "tintype/tintypelaw17.CoreStrips", spec := "coreStrips", unfollowed := true, recurses := true, apart := false }
def CoreStripsSaid : Prop := coreStripsRow.holds Try.pinned (OpenSpec.ofChange coreStripsSpec)

/-- ITS FALSE NEIGHBOUR: 'it returns false'. Refute it at one input. -/
def coreStripsWrong : ChangeSpec := { name := "coreStrips", fn := fun _ => fun
  | [d] => { results := [.lit (.bool false)], args := [d] }
  | _ => none }
def CoreStripsWrongFalsely : Prop := coreStripsRow.holds Try.pinned (OpenSpec.ofChange coreStripsWrong)

/- THE SECOND FORM. 'bulk': how many values and letters a reading holds, each counted each time it is reached (what is shared counts as often as it is met; a slice's spare places count too). A statement '..UptoSaid' is the law's where the arguments, and the package variables that the reading takes, are together of bulk at most 1048576: NARROWER than '..Said'. Prove '..Said' where nothing that the law and all that it calls make is longer than what came in: it says more and counts as full. Else prove '..UptoSaid'. A law counts once. -/
mutual
def uptoBulk {H : Type} : DataW H → Nat
  | .lit (.string bytes) => bytes.length + 1
  | .lit _ => 1
  | .nil => 1
  | .ptr d => uptoBulk d + 1
  | .slice elems spare => uptoBulkAll elems + uptoBulkAll spare + 1
  | .agg parts => uptoBulkAll parts + 1
  | .iface _ d => uptoBulk d + 1
  | .map entries => uptoBulkEntries entries + 1
  | .held _ => 1
def uptoBulkAll {H : Type} : List (DataW H) → Nat
  | [] => 0
  | d :: r => uptoBulk d + uptoBulkAll r
def uptoBulkEntries {H : Type} : List (Lit × DataW H) → Nat
  | [] => 0
  | x :: r => uptoBulkEntry x + uptoBulkEntries r
def uptoBulkEntry {H : Type} : Lit × DataW H → Nat
  | (.string bytes, d) => bytes.length + uptoBulk d + 1
  | (_, d) => uptoBulk d + 1
 end
def uptoSmall : (H : Type) → List (DataW H) → Bool := fun _ ds => decide (uptoBulkAll ds ≤ 1048576)
def OpenSpec.upto (s : _root_.Go.ChangeSpec) : _root_.Go.OpenSpec := { _root_.Go.OpenSpec.ofChange s with cond := some uptoSmall }

/-- 'tintypelaw17.CoreTells', WHERE WHAT IT READS IS OF BULK AT MOST 1048576: true; the input reads as it did. -/
def coreTellsUptoRow : OpenClaim := { program := "ytfohajgljjffgaa", sum := "87ed02f2f353804c3ef2155d21d93ed9101d36ef5efdbe862f98e82b6c94c79b", func := "tintype/tintypelaw17.CoreTells", spec := "coreTells", unfollowed := true, recurses := true, apart := false, narrowed := true }
def CoreTellsUptoSaid : Prop := coreTellsUptoRow.holds Try.pinned (OpenSpec.upto coreTellsSpec)

/-- 'tintypelaw17.CorePuts', WHERE WHAT IT READS IS OF BULK AT MOST 1048576: true; the input reads as it did. -/
def corePutsUptoRow : OpenClaim := { program := "ytfohajgljjffgaa", sum := "87ed02f2f353804c3ef2155d21d93ed9101d36ef5efdbe862f98e82b6c94c79b", func := "tintype/tintypelaw17.CorePuts", spec := "corePuts", unfollowed := true, recurses := true, apart := false, narrowed := true }
def CorePutsUptoSaid : Prop := corePutsUptoRow.holds Try.pinned (OpenSpec.upto corePutsSpec)

/-- 'tintypelaw17.CoreBack', WHERE WHAT IT READS IS OF BULK AT MOST 1048576: true; the input reads as it did. -/
def coreBackUptoRow : OpenClaim := { program := "ytfohajgljjffgaa", sum := "87ed02f2f353804c3ef2155d21d93ed9101d36ef5efdbe862f98e82b6c94c79b", func := "tintype/tintypelaw17.CoreBack", spec := "coreBack", unfollowed := true, recurses := true, apart := false, narrowed := true }
def CoreBackUptoSaid : Prop := coreBackUptoRow.holds Try.pinned (OpenSpec.upto coreBackSpec)

/-- 'tintypelaw17.CoreStrips', WHERE WHAT IT READS IS OF BULK AT MOST 1048576: true; the input reads as it did. -/
def coreStripsUptoRow : OpenClaim := { program := "ytfohajgljjffgaa", sum := "87ed02f2f353804c3ef2155d21d93ed9101d36ef5efdbe862f98e82b6c94c79b", func := "tintype/tintypelaw17.CoreStrips", spec := "coreStrips", unfollowed := true, recurses := true, apart := false, narrowed := true }
def CoreStripsUptoSaid : Prop := coreStripsUptoRow.holds Try.pinned (OpenSpec.upto coreStripsSpec)

end Rows
end Go.Proofs.Ytfohajgljjffgaa
