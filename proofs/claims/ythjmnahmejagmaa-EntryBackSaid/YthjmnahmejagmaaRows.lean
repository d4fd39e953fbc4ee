/-
  No cell of these rows narrows 'for every input' (looked for: loops, veiled, ifaces, maps, wideKeys, modest, calm, conditions, laid).
  DERIVED. THE GIVEN ROWS OF THIS SEAT. 4 by the template 'for every input the law returns true; each argument reads behind the call as it read before'; 0 by the template 'total and deterministic' (their statements: YthjmnahmejagmaaTotals.lean).
  GIVEN WITH THE SEED: the statements are not yours to turn. If you find one false, say at which input.
  Laid BY PROGRAM, IN A SANDBOX (cutbox-rows.mjs): the forced cells as the released guide's own fill.sh prints them over the translation aeb46a9c03f2337f… (all of the seat's roots in one cut). By AI agents, Wed Nov 11 2026. No macro, syntax, notation, axiom, sorry.
-/
import Derived.Test.YthjmnahmejagmaaChecked
import GoSem.Claim
import GoSem.ClaimJoined
import GoSem.ClaimMapViews
import Derived.JoinedTies
import Derived.KernelRfl
namespace Go.Proofs.Ythjmnahmejagmaa
/- THE CELL 'sum', in the pinned program and in every row, IS THE sha256 OF THE DUMP (.gsa) THAT YthjmnahmejagmaaProg.lean LOADS. Nothing in Lean hashes anything: it is a label: what it is worth is what the hold of that sum in a sandbox is worth. -/
noncomputable def Try.pinned : Pinned := { name := "ythjmnahmejagmaa", sum := "aeb46a9c03f2337f6d8f3b1c595e54cc285f25a385d7f3312aeeb1bfc6f59278", checked := Try.checked }
namespace Rows
def none {H : Type} : Left H := { results := [], args := [] }

/-- 'tintypelaw19.EntryValues': WHATEVER THE INPUT: true; the input reads as it did. -/
def entryValuesSpec : ChangeSpec := { name := "entryValues", fn := fun _ => fun
  | [d1, d2, d3, d4] => { results := [.lit (.bool true)], args := [d1, d2, d3, d4] }
  | _ => none }
def entryValuesRow : OpenClaim := { program := "ythjmnahmejagmaa", sum := "aeb46a9c03f2337f6d8f3b1c595e54cc285f25a385d7f3312aeeb1bfc6f59278", func := "tintype/tintypelaw19.EntryValues", spec := "entryValues", inPlace := ["internal/bytealg.IndexByte"], unfollowed := true, recurses := true, apart := false }
def EntryValuesSaid : Prop := entryValuesRow.holds Try.pinned (OpenSpec.ofChange entryValuesSpec)

/-- ITS FALSE NEIGHBOUR: 'it returns false'. Refute it at one input. -/
def entryValuesWrong : ChangeSpec := { name := "entryValues", fn := fun _ => fun
  | [d1, d2, d3, d4] => { results := [.lit (.bool false)], args := [d1, d2, d3, d4] }
  | _ => none }
def EntryValuesWrongFalsely : Prop := entryValuesRow.holds Try.pinned (OpenSpec.ofChange entryValuesWrong)

/-- 'tintypelaw19.EntryInline': WHATEVER THE INPUT: true; the input reads as it did. -/
def entryInlineSpec : ChangeSpec := { name := "entryInline", fn := fun _ => fun
  | [d1, d2, d3, d4, d5] => { results := [.lit (.bool true)], args := [d1, d2, d3, d4, d5] }
  | _ => none }
def entryInlineRow : OpenClaim := { program := "ythjmnahmejagmaa", sum := "aeb46a9c03f2337f6d8f3b1c595e54cc285f25a385d7f3312aeeb1bfc6f59278", func := "tintype/tintypelaw19.EntryInline", spec := "entryInline", inPlace := ["internal/bytealg.IndexByte"], unfollowed := true, recurses := true, apart := false }
def EntryInlineSaid : Prop := entryInlineRow.holds Try.pinned (OpenSpec.ofChange entryInlineSpec)

/-- ITS FALSE NEIGHBOUR: 'it returns false'. Refute it at one input. -/
def entryInlineWrong : ChangeSpec := { name := "entryInline", fn := fun _ => fun
  | [d1, d2, d3, d4, d5] => { results := [.lit (.bool false)], args := [d1, d2, d3, d4, d5] }
  | _ => none }
def EntryInlineWrongFalsely : Prop := entryInlineRow.holds Try.pinned (OpenSpec.ofChange entryInlineWrong)

/-- 'tintypelaw19.EntryTells': WHATEVER THE INPUT: true; the input reads as it did. -/
def entryTellsSpec : ChangeSpec := { name := "entryTells", fn := fun _ => fun
  | [d1, d2, d3, d4] => { results := [.lit (.bool true)], args := [d1, d2, d3, d4] }
  | _ => none }
def entryTellsRow : OpenClaim := { program := "ythjmnahmejagmaa", sum := "aeb46a9c03f2337f6d8f3b1c595e54cc285f25a385d7f3312aeeb1bfc6f59278", func := "tintype/tintypelaw19.EntryTells", spec := "entryTells", inPlace := ["internal/bytealg.IndexByte"], unfollowed := true, recurses := true, apart := false }
def EntryTellsSaid : Prop := entryTellsRow.holds Try.pinned (OpenSpec.ofChange entryTellsSpec)

/-- ITS FALSE NEIGHBOUR: 'it returns false'. Refute it at one input. -/
def entryTellsWrong : ChangeSpec := { name := "entryTells", fn := fun _ => fun
  | [d1, d2, d3, d4] => { results := [.lit (.bool false)], args := [d1, d2, d3, d4] }
  | _ => none }
def EntryTellsWrongFalsely : Prop := entryTellsRow.holds Try.pinned (OpenSpec.ofChange entryTellsWrong)

/-- 'tintypelaw19.EntryBack': WHATEVER THE INPUT: true; the input reads as it did. -/
def entryBackSpec : ChangeSpec := { name := "entryBack", fn := fun _ => fun
  | [d1, d2, d3, d4, d5, d6] => { results := [.lit (.bool true)], args := [d1, d2, d3, d4, d5, d6] }
  | _ => none }
def entryBackRow : OpenClaim := { program := "ythjmnahmejagmaa", sum := "aeb46a9c03f2337f6d8f3b1c595e54cc285f25a385d7f3312aeeb1bfc6f59278", func := "tintype/tintypelaw19.EntryBack", spec := "entryBack", inPlace := ["internal/bytealg.IndexByte"], unfollowed := true, recurses := true, apart := false }
def EntryBackSaid : Prop := entryBackRow.holds Try.pinned (OpenSpec.ofChange entryBackSpec)

/-- ITS FALSE NEIGHBOUR: 'it returns false'. Refute it at one input. -/
def entryBackWrong : ChangeSpec := { name := "entryBack", fn := fun _ => fun
  | [d1, d2, d3, d4, d5, d6] => { results := [.lit (.bool false)], args := [d1, d2, d3, d4, d5, d6] }
  | _ => none }
def EntryBackWrongFalsely : Prop := entryBackRow.holds Try.pinned (OpenSpec.ofChange entryBackWrong)

/- THE SECOND FORM. 'bulk': how many values and letters a reading holds, each counted each time it is reached (what is shared counts as often as it is met; a slice's spare places count too). A statement '..UptoSaid' is the law's where the arguments, and the package variables that the reading takes, are together of bulk at most 1048576: NARROWER than '..Said'. Prove '..Said' where nothing that the law and all that it calls make is longer than what came in: it says more and counts as full. Else prove '..UptoSaid'. A law counts once. -/
mutual
def uptoBulk {H : Type} : DataW H → Nat
  | .lit (.string bytes) => bytes.length + 1
  | .lit _ => 1
  | .nil => 1
  | .ptr d => uptoBulk d + 1
  | .slice elems spare => uptoBulkAll elems + uptoBulkAll spare + 1
  | .agg parts => uptoBulkAll parts + 1
  | .iface _ d => uptoBulk d + 1
  | .map entries => uptoBulkEntries entries + 1
  | .held _ => 1
def uptoBulkAll {H : Type} : List (DataW H) → Nat
  | [] => 0
  | d :: r => uptoBulk d + uptoBulkAll r
def uptoBulkEntries {H : Type} : List (Lit × DataW H) → Nat
  | [] => 0
  | x :: r => uptoBulkEntry x + uptoBulkEntries r
def uptoBulkEntry {H : Type} : Lit × DataW H → Nat
  | (.string bytes, d) => bytes.length + uptoBulk d + 1
  | (_, d) => uptoBulk d + 1
 end
def uptoSmall : (H : Type) → List (DataW H) → Bool := fun _ ds => decide (uptoBulkAll ds ≤ 1048576)
def OpenSpec.upto (s : _root_.Go.ChangeSpec) : _root_.Go.OpenSpec := { _root_.Go.OpenSpec.ofChange s with cond := some uptoSmall }

/-- 'tintypelaw19.EntryValues', WHERE WHAT IT READS IS OF BULK AT MOST 1048576: true; the input reads as it did. -/
def entryValuesUptoRow : OpenClaim := { program := "ythjmnahmejagmaa", sum := "aeb46a9c03f2337f6d8f3b1c595e54cc285f25a385d7f3312aeeb1bfc6f59278", func := "tintype/tintypelaw19.EntryValues", spec := "entryValues", inPlace := ["internal/bytealg.IndexByte"], unfollowed := true, recurses := true, apart := false, narrowed := true }
def EntryValuesUptoSaid : Prop := entryValuesUptoRow.holds Try.pinned (OpenSpec.upto entryValuesSpec)

/-- 'tintypelaw19.EntryInline', WHERE WHAT IT READS IS OF BULK AT MOST 1048576: true; the input reads as it did. -/
def entryInlineUptoRow : OpenClaim := { program := "ythjmnahmejagmaa", sum := "aeb46a9c03f2337f6d8f3b1c595e54cc285f25a385d7f3312aeeb1bfc6f59278", func := "tintype/tintypelaw19.EntryInline", spec := "entryInline", inPlace := ["internal/bytealg.IndexByte"], unfollowed := true, recurses := true, apart := false, narrowed := true }
def EntryInlineUptoSaid : Prop := entryInlineUptoRow.holds Try.pinned (OpenSpec.upto entryInlineSpec)

/-- 'tintypelaw19.EntryTells', WHERE WHAT IT READS IS OF BULK AT MOST 1048576: true; the input reads as it did. -/
def entryTellsUptoRow : OpenClaim := { program := "ythjmnahmejagmaa", sum := "aeb46a9c03f2337f6d8f3b1c595e54cc285f25a385d7f3312aeeb1bfc6f59278", func := "tintype/tintypelaw19.EntryTells", spec := "entryTells", inPlace := ["internal/bytealg.IndexByte"], unfollowed := true, recurses := true, apart := false, narrowed := true }
def EntryTellsUptoSaid : Prop := entryTellsUptoRow.holds Try.pinned (OpenSpec.upto entryTellsSpec)

/-- 'tintypelaw19.EntryBack', WHERE WHAT IT READS IS OF BULK AT MOST 1048576: true; the input reads as it did. -/
def entryBackUptoRow : OpenClaim := { program := "ythjmnahmejagmaa", sum := "aeb46a9c03f2337f6d8f3b1c595e54cc285f25a385d7f3312aeeb1bfc6f59278", func := "tintype/tintypelaw19.EntryBack", spec := "entryBack", inPlace := ["internal/bytealg.IndexByte"], unfollowed := true, recurses := true, apart := false, narrowed := true }
def EntryBackUptoSaid : Prop := entryBackUptoRow.holds Try.pinned (OpenSpec.upto entryBackSpec)

end Rows
end Go.Proofs.Ythjmnahmejagmaa
