/-
  NARROWER THAN 'FOR EVERY INPUT', by the rows' own cells (each row's printed sentence says how): LayOf: loops · LayDirs: loops · LaySide: loops · LayGrows: loops.
  DERIVED. THE GIVEN ROWS OF THIS SEAT. 4 by the template 'for every input the law returns true; each argument reads behind the call as it read before'; 0 by the template 'total and deterministic' (their statements: YtkepbobnjplpoaaTotals.lean).
  GIVEN WITH THE SEED: the statements are not yours to turn. If you find one false, say at which input.
  Laid BY PROGRAM, IN A SANDBOX (cutbox-rows.mjs): the forced cells as the released guide's own fill.sh prints them over the translation a363b130ae52c1fe… (all of the seat's roots in one cut). By AI agents, Wed Nov 11 2026. No macro, syntax, notation, axiom, sorry.
-/
import Derived.Test.YtkepbobnjplpoaaChecked
import GoSem.Claim
import GoSem.ClaimJoined
import GoSem.ClaimMapViews
import Derived.JoinedTies
import Derived.KernelRfl
namespace Go.Proofs.Ytkepbobnjplpoaa
/- THE CELL 'sum', in the pinned program and in every row, IS THE sha256 OF THE DUMP (.gsa) THAT YtkepbobnjplpoaaProg.lean LOADS. Nothing in Lean hashes anything: it is a label: what it is worth is what the hold of that sum in a sandbox is worth. -/
noncomputable def Try.pinned : Pinned := { name := "ytkepbobnjplpoaa", sum := "a363b130ae52c1fe94128d3088a6326bcaad906ee7d3892f9242995f84bd8610", checked := Try.checked }
namespace Rows
def none {H : Type} : Left H := { results := [], args := [] }

/-- 'tintypelaw20.LayOf': WHATEVER THE INPUT: true; the input reads as it did. -/
def layOfSpec : ChangeSpec := { name := "layOf", fn := fun _ => fun
  | [d] => { results := [.lit (.bool true)], args := [d] }
  | _ => none }
def layOfRow : OpenClaim := { program := "ytkepbobnjplpoaa", sum := "a363b130ae52c1fe94128d3088a6326bcaad906ee7d3892f9242995f84bd8610", func := "tintype/tintypelaw20.LayOf", spec := "layOf", inPlace := ["internal/bytealg.IndexByte"], unfollowed := true, recurses := true, loops := true, apart := false }
def LayOfSaid : Prop := layOfRow.holds Try.pinned (OpenSpec.ofChange layOfSpec)

/-- ITS FALSE NEIGHBOUR: 'it returns false'. Refute it at one input. -/
def layOfWrong : ChangeSpec := { name := "layOf", fn := fun _ => fun
  | [d] => { results := [.lit (.bool false)], args := [d] }
  | _ => none }
def LayOfWrongFalsely : Prop := layOfRow.holds Try.pinned (OpenSpec.ofChange layOfWrong)

/-- 'tintypelaw20.LayDirs': WHATEVER THE INPUT: true; the input reads as it did. -/
def layDirsSpec : ChangeSpec := { name := "layDirs", fn := fun _ => fun
  | [d1, d2] => { results := [.lit (.bool true)], args := [d1, d2] }
  | _ => none }
def layDirsRow : OpenClaim := { program := "ytkepbobnjplpoaa", sum := "a363b130ae52c1fe94128d3088a6326bcaad906ee7d3892f9242995f84bd8610", func := "tintype/tintypelaw20.LayDirs", spec := "layDirs", inPlace := ["internal/bytealg.IndexByte"], unfollowed := true, recurses := true, loops := true, apart := false }
def LayDirsSaid : Prop := layDirsRow.holds Try.pinned (OpenSpec.ofChange layDirsSpec)

/-- ITS FALSE NEIGHBOUR: 'it returns false'. Refute it at one input. -/
def layDirsWrong : ChangeSpec := { name := "layDirs", fn := fun _ => fun
  | [d1, d2] => { results := [.lit (.bool false)], args := [d1, d2] }
  | _ => none }
def LayDirsWrongFalsely : Prop := layDirsRow.holds Try.pinned (OpenSpec.ofChange layDirsWrong)

/-- 'tintypelaw20.LaySide': WHATEVER THE INPUT: true; the input reads as it did. -/
def laySideSpec : ChangeSpec := { name := "laySide", fn := fun _ => fun
  | [d] => { results := [.lit (.bool true)], args := [d] }
  | _ => none }
def laySideRow : OpenClaim := { program := "ytkepbobnjplpoaa", sum := "a363b130ae52c1fe94128d3088a6326bcaad906ee7d3892f9242995f84bd8610", func := "tintype/tintypelaw20.LaySide", spec := "laySide", inPlace := ["internal/bytealg.IndexByte"], unfollowed := true, recurses := true, loops := true, apart := false }
def LaySideSaid : Prop := laySideRow.holds Try.pinned (OpenSpec.ofChange laySideSpec)

/-- ITS FALSE NEIGHBOUR: 'it returns false'. Refute it at one input. -/
def laySideWrong : ChangeSpec := { name := "laySide", fn := fun _ => fun
  | [d] => { results := [.lit (.bool false)], args := [d] }
  | _ => none }
def LaySideWrongFalsely : Prop := laySideRow.holds Try.pinned (OpenSpec.ofChange laySideWrong)

/-- 'tintypelaw20.LayGrows': WHATEVER THE INPUT: true; the input reads as it did. -/
def layGrowsSpec : ChangeSpec := { name := "layGrows", fn := fun _ => fun
  | [d1, d2] => { results := [.lit (.bool true)], args := [d1, d2] }
  | _ => none }
def layGrowsRow : OpenClaim := { program := "ytkepbobnjplpoaa", sum := "a363b130ae52c1fe94128d3088a6326bcaad906ee7d3892f9242995f84bd8610", func := "tintype/tintypelaw20.LayGrows", spec := "layGrows", inPlace := ["internal/bytealg.IndexByte"], unfollowed := true, recurses := true, loops := true, apart := false }
def LayGrowsSaid : Prop := layGrowsRow.holds Try.pinned (OpenSpec.ofChange layGrowsSpec)

/-- ITS FALSE NEIGHBOUR: 'it returns false'. Refute it at one input. -/
def layGrowsWrong : ChangeSpec := { name := "layGrows", fn := fun _ => fun
  | [d1, d2] => { results := [.lit (.bool false)], args := [d1, d2] }
  | _ => none }
def LayGrowsWrongFalsely : Prop := layGrowsRow.holds Try.pinned (OpenSpec.ofChange layGrowsWrong)

/- THE SECOND FORM. 'bulk': how many values and letters a reading holds, each counted each time it is reached (what is shared counts as often as it is met; a slice's spare places count too). A statement '..UptoSaid' is the law's where the arguments, and the package variables that the reading takes, are together of bulk at most 1048576: NARROWER than '..Said'. Prove '..Said' where nothing that the law and all that it calls make is longer than what came in: it says more and counts as full. Else prove '..UptoSaid'. A law counts once. -/
mutual
def uptoBulk {H : Type} : DataW H → Nat
  | .lit (.string bytes) => bytes.length + 1
  | .lit _ => 1
  | .nil => 1
  | .ptr d => uptoBulk d + 1
  | .slice elems spare => uptoBulkAll elems + uptoBulkAll spare + 1
  | .agg parts => uptoBulkAll parts + 1
  | .iface _ d => uptoBulk d + 1
  | .map entries => uptoBulkEntries entries + 1
  | .held _ => 1
def uptoBulkAll {H : Type} : List (DataW H) → Nat
  | [] => 0
  | d :: r => uptoBulk d + uptoBulkAll r
def uptoBulkEntries {H : Type} : List (Lit × DataW H) → Nat
  | [] => 0
  | x :: r => uptoBulkEntry x + uptoBulkEntries r
def uptoBulkEntry {H : Type} : Lit × DataW H → Nat
  | (.string bytes, d) => bytes.length + uptoBulk d + 1
  | (_, d) => uptoBulk d + 1
 end
def uptoSmall : (H : Type) → List (DataW H) → Bool := fun _ ds => decide (uptoBulkAll ds ≤ 1048576)
def OpenSpec.upto (s : _root_.Go.ChangeSpec) : _root_.Go.OpenSpec := { _root_.Go.OpenSpec.ofChange s with cond := some uptoSmall }

/-- 'tintypelaw20.LayOf', WHERE WHAT IT READS IS OF BULK AT MOST 1048576: true; the input reads as it did. -/
def layOfUptoRow : OpenClaim := { program := "ytkepbobnjplpoaa", sum := "a363b130ae52c1fe94128d3088a6326bcaad906ee7d3892f9242995f84bd8610", func := "tintype/tintypelaw20.LayOf", spec := "layOf", inPlace := ["internal/bytealg.IndexByte"], unfollowed := true, recurses := true, loops := true, apart := false, narrowed := true }
def LayOfUptoSaid : Prop := layOfUptoRow.holds Try.pinned (OpenSpec.upto layOfSpec)

/-- 'tintypelaw20.LayDirs', WHERE WHAT IT READS IS OF BULK AT MOST 1048576: true; the input reads as it did. -/
def layDirsUptoRow : OpenClaim := { program := "ytkepbobnjplpoaa", sum := "a363b130ae52c1fe94128d3088a6326bcaad906ee7d3892f9242995f84bd8610", func := "tintype/tintypelaw20.LayDirs", spec := "layDirs", inPlace := ["internal/bytealg.IndexByte"], unfollowed := true, recurses := true, loops := true, apart := false, narrowed := true }
def LayDirsUptoSaid : Prop := layDirsUptoRow.holds Try.pinned (OpenSpec.upto layDirsSpec)

/-- 'tintypelaw20.LaySide', WHERE WHAT IT READS IS OF BULK AT MOST 1048576: true; the input reads as it did. -/
def laySideUptoRow : OpenClaim := { program := "ytkepbobnjplpoaa", sum := "a363b130ae52c1fe94128d3088a6326bcaad906ee7d3892f9242995f84bd8610", func := "tintype/tintypelaw20.LaySide", spec := "laySide", inPlace := ["internal/bytealg.IndexByte"], unfollowed := true, recurses := true, loops := true, apart := false, narrowed := true }
def LaySideUptoSaid : Prop := laySideUptoRow.holds Try.pinned (OpenSpec.upto laySideSpec)

/-- 'tintypelaw20.LayGrows', WHERE WHAT IT READS IS OF BULK AT MOST 1048576: true; the input reads as it did. -/
def layGrowsUptoRow : OpenClaim := { program := "ytkepbobnjplpoaa", sum := "a363b130ae52c1fe94128d3088a6326bcaad906ee7d3892f9242995f84bd8610", func := "tintype/tintypelaw20.LayGrows", spec := "layGrows", inPlace := ["internal/bytealg.IndexByte"], unfollowed := true, recurses := true, loops := true, apart := false, narrowed := true }
def LayGrowsUptoSaid : Prop := layGrowsUptoRow.holds Try.pinned (OpenSpec.upto layGrowsSpec)

end Rows
end Go.Proofs.Ytkepbobnjplpoaa
