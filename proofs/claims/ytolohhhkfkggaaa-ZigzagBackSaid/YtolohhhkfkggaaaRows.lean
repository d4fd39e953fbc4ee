/-
  No cell of these rows narrows 'for every input' (looked for: loops, veiled, ifaces, maps, wideKeys, modest, calm, conditions, laid).
  DERIVED. THE GIVEN ROWS OF THIS SEAT. 4 by the template 'for every input the law returns true; each argument reads behind the call as it read before'; 0 by the template 'total and deterministic' (their statements: YtolohhhkfkggaaaTotals.lean).
  GIVEN WITH THE SEED: the statements are not yours to turn. If you find one false, say at which input.
  Laid BY PROGRAM, IN A SANDBOX (cutbox-rows.mjs): the forced cells as the released guide's own fill.sh prints them over the translation f3b8ea3e974ef5b5… (all of the seat's roots in one cut). By AI agents, Wed Nov 11 2026. No macro, syntax, notation, axiom, sorry.
-/
import Derived.Test.YtolohhhkfkggaaaChecked
import GoSem.Claim
import GoSem.ClaimJoined
import GoSem.ClaimMapViews
import Derived.JoinedTies
import Derived.KernelRfl
namespace Go.Proofs.Ytolohhhkfkggaaa
/- THE CELL 'sum', in the pinned program and in every row, IS THE sha256 OF THE DUMP (.gsa) THAT YtolohhhkfkggaaaProg.lean LOADS. Nothing in Lean hashes anything: it is a label: what it is worth is what the hold of that sum in a sandbox is worth. -/
noncomputable def Try.pinned : Pinned := { name := "ytolohhhkfkggaaa", sum := "f3b8ea3e974ef5b510ed4d30de48941ec33bee39c7871666cf01fb4eee53a336", checked := Try.checked }
namespace Rows
def none {H : Type} : Left H := { results := [], args := [] }

/-- 'tintypelaw05.ZigzagAt': WHATEVER THE INPUT: true; the input reads as it did. -/
def zigzagAtSpec : ChangeSpec := { name := "zigzagAt", fn := fun _ => fun
  | [d] => { results := [.lit (.bool true)], args := [d] }
  | _ => none }
def zigzagAtRow : OpenClaim := { program := "ytolohhhkfkggaaa", sum := "f3b8ea3e974ef5b510ed4d30de48941ec33bee39c7871666cf01fb4eee53a336", func := "tintype/tintypelaw05.ZigzagAt", spec := "zigzagAt", unfollowed := true, recurses := true, apart := false }
def ZigzagAtSaid : Prop := zigzagAtRow.holds Try.pinned (OpenSpec.ofChange zigzagAtSpec)

/-- ITS FALSE NEIGHBOUR: 'it returns false'. Refute it at one input. -/
def zigzagAtWrong : ChangeSpec := { name := "zigzagAt", fn := fun _ => fun
  | [d] => { results := [.lit (.bool false)], args := [d] }
  | _ => none }
def ZigzagAtWrongFalsely : Prop := zigzagAtRow.holds Try.pinned (OpenSpec.ofChange zigzagAtWrong)

/-- 'tintypelaw05.ZigzagWay': WHATEVER THE INPUT: true; the input reads as it did. -/
def zigzagWaySpec : ChangeSpec := { name := "zigzagWay", fn := fun _ => fun
  | [d] => { results := [.lit (.bool true)], args := [d] }
  | _ => none }
def zigzagWayRow : OpenClaim := { program := "ytolohhhkfkggaaa", sum := "f3b8ea3e974ef5b510ed4d30de48941ec33bee39c7871666cf01fb4eee53a336", func := "tintype/tintypelaw05.ZigzagWay", spec := "zigzagWay", unfollowed := true, recurses := true, apart := false }
def ZigzagWaySaid : Prop := zigzagWayRow.holds Try.pinned (OpenSpec.ofChange zigzagWaySpec)

/-- ITS FALSE NEIGHBOUR: 'it returns false'. Refute it at one input. -/
def zigzagWayWrong : ChangeSpec := { name := "zigzagWay", fn := fun _ => fun
  | [d] => { results := [.lit (.bool false)], args := [d] }
  | _ => none }
def ZigzagWayWrongFalsely : Prop := zigzagWayRow.holds Try.pinned (OpenSpec.ofChange zigzagWayWrong)

/-- 'tintypelaw05.ZigzagTurns': WHATEVER THE INPUT: true; the input reads as it did. -/
def zigzagTurnsSpec : ChangeSpec := { name := "zigzagTurns", fn := fun _ => fun
  | [d] => { results := [.lit (.bool true)], args := [d] }
  | _ => none }
def zigzagTurnsRow : OpenClaim := { program := "ytolohhhkfkggaaa", sum := "f3b8ea3e974ef5b510ed4d30de48941ec33bee39c7871666cf01fb4eee53a336", func := "tintype/tintypelaw05.ZigzagTurns", spec := "zigzagTurns", unfollowed := true, recurses := true, apart := false }
def ZigzagTurnsSaid : Prop := zigzagTurnsRow.holds Try.pinned (OpenSpec.ofChange zigzagTurnsSpec)

/-- ITS FALSE NEIGHBOUR: 'it returns false'. Refute it at one input. -/
def zigzagTurnsWrong : ChangeSpec := { name := "zigzagTurns", fn := fun _ => fun
  | [d] => { results := [.lit (.bool false)], args := [d] }
  | _ => none }
def ZigzagTurnsWrongFalsely : Prop := zigzagTurnsRow.holds Try.pinned (OpenSpec.ofChange zigzagTurnsWrong)

/-- 'tintypelaw05.ZigzagBack': WHATEVER THE INPUT: true; the input reads as it did. -/
def zigzagBackSpec : ChangeSpec := { name := "zigzagBack", fn := fun _ => fun
  | [d] => { results := [.lit (.bool true)], args := [d] }
  | _ => none }
def zigzagBackRow : OpenClaim := { program := "ytolohhhkfkggaaa", sum := "f3b8ea3e974ef5b510ed4d30de48941ec33bee39c7871666cf01fb4eee53a336", func := "tintype/tintypelaw05.ZigzagBack", spec := "zigzagBack", unfollowed := true, recurses := true, apart := false }
def ZigzagBackSaid : Prop := zigzagBackRow.holds Try.pinned (OpenSpec.ofChange zigzagBackSpec)

/-- ITS FALSE NEIGHBOUR: 'it returns false'. Refute it at one input. -/
def zigzagBackWrong : ChangeSpec := { name := "zigzagBack", fn := fun _ => fun
  | [d] => { results := [.lit (.bool false)], args := [d] }
  | _ => none }
def ZigzagBackWrongFalsely : Prop := zigzagBackRow.holds Try.pinned (OpenSpec.ofChange zigzagBackWrong)

/- THE SECOND FORM. 'bulk': how many values and letters a reading holds, each counted each time it is reached (what is shared counts as often as it is met; a slice's spare places count too). A statement '..UptoSaid' is the law's where the arguments, and the package variables that the reading takes, are together of bulk at most 1048576: NARROWER than '..Said'. Prove '..Said' where nothing that the law and all that it calls make is longer than what came in: it says more and counts as full. Else prove '..UptoSaid'. A law counts once. -/
mutual
def uptoBulk {H : Type} : DataW H → Nat
  | .lit (.string bytes) => bytes.length + 1
  | .lit _ => 1
  | .nil => 1
  | .ptr d => uptoBulk d + 1
  | .slice elems spare => uptoBulkAll elems + uptoBulkAll spare + 1
  | .agg parts => uptoBulkAll parts + 1
  | .iface _ d => uptoBulk d + 1
  | .map entries => uptoBulkEntries entries + 1
  | .held _ => 1
def uptoBulkAll {H : Type} : List (DataW H) → Nat
  | [] => 0
  | d :: r => uptoBulk d + uptoBulkAll r
def uptoBulkEntries {H : Type} : List (Lit × DataW H) → Nat
  | [] => 0
  | x :: r => uptoBulkEntry x + uptoBulkEntries r
def uptoBulkEntry {H : Type} : Lit × DataW H → Nat
  | (.string bytes, d) => bytes.length + uptoBulk d + 1
  | (_, d) => uptoBulk d + 1
 end
def uptoSmall : (H : Type) → List (DataW H) → Bool := fun _ ds => decide (uptoBulkAll ds ≤ 1048576)
def OpenSpec.upto (s : _root_.Go.ChangeSpec) : _root_.Go.OpenSpec := { _root_.Go.OpenSpec.ofChange s with cond := some uptoSmall }

/-- 'tintypelaw05.ZigzagAt', WHERE WHAT IT READS IS OF BULK AT MOST 1048576: true; the input reads as it did. -/
def zigzagAtUptoRow : OpenClaim := { program := "ytolohhhkfkggaaa", sum := "f3b8ea3e974ef5b510ed4d30de48941ec33bee39c7871666cf01fb4eee53a336", func := "tintype/tintypelaw05.ZigzagAt", spec := "zigzagAt", unfollowed := true, recurses := true, apart := false, narrowed := true }
def ZigzagAtUptoSaid : Prop := zigzagAtUptoRow.holds Try.pinned (OpenSpec.upto zigzagAtSpec)

/-- 'tintypelaw05.ZigzagWay', WHERE WHAT IT READS IS OF BULK AT MOST 1048576: true; the input reads as it did. -/
def zigzagWayUptoRow : OpenClaim := { program := "ytolohhhkfkggaaa", sum := "f3b8ea3e974ef5b510ed4d30de48941ec33bee39c7871666cf01fb4eee53a336", func := "tintype/tintypelaw05.ZigzagWay", spec := "zigzagWay", unfollowed := true, recurses := true, apart := false, narrowed := true }
def ZigzagWayUptoSaid : Prop := zigzagWayUptoRow.holds Try.pinned (OpenSpec.upto zigzagWaySpec)

/-- 'tintypelaw05.ZigzagTurns', WHERE WHAT IT READS IS OF BULK AT MOST 1048576: true; the input reads as it did. -/
def zigzagTurnsUptoRow : OpenClaim := { program := "ytolohhhkfkggaaa", sum := "f3b8ea3e974ef5b510ed4d30de48941ec33bee39c7871666cf01fb4eee53a336", func := "tintype/tintypelaw05.ZigzagTurns", spec := "zigzagTurns", unfollowed := true, recurses := true, apart := false, narrowed := true }
def ZigzagTurnsUptoSaid : Prop := zigzagTurnsUptoRow.holds Try.pinned (OpenSpec.upto zigzagTurnsSpec)

/-- 'tintypelaw05.ZigzagBack', WHERE WHAT IT READS IS OF BULK AT MOST 1048576: true; the input reads as it did. -/
def zigzagBackUptoRow : OpenClaim := { program := "ytolohhhkfkggaaa", sum := "f3b8ea3e974ef5b510ed4d30de48941ec33bee39c7871666cf01fb4eee53a336", func := "tintype/tintypelaw05.ZigzagBack", spec := "zigzagBack", unfollowed := true, recurses := true, apart := false, narrowed := true }
def ZigzagBackUptoSaid : Prop := zigzagBackUptoRow.holds Try.pinned (OpenSpec.upto zigzagBackSpec)

end Rows
end Go.Proofs.Ytolohhhkfkggaaa
