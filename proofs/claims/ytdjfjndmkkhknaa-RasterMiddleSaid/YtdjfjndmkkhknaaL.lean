/- The contracts of Same and alike, of like pictures. -/
import Derived.Test.YtdjfjndmkkhknaaJ
namespace Go.Proofs.Ytdjfjndmkkhknaa
open Go.RowKit
open Go.Tin
set_option linter.unusedVariables false
set_option linter.unusedSimpArgs false

set_option maxRecDepth 100000 in
set_option maxHeartbeats 1000000 in
theorem same_eq (W H : Int) (A A' : Option Addr) (l : List Int) (c c' : Nat) (w : World) (hs : Sl .u8 w A l) (hs' : Sl .u8 w A' l) :
    Calls Try.prog 19 #[.agg #[.int .i64 W, .int .i64 H, .slice A l.length c], .agg #[.int .i64 W, .int .i64 H, .slice A' l.length c']] w fun e w' => e = .returned (.bool true) ∧ Below w.heap.size w w' := by
  have h1 : ∀ Wd : World, Below w.heap.size w Wd → (convert 22 9 (.slice A l.length c)).run Try.prog Wd = .ok (.string (strOf l)) Wd := fun Wd hb => str_bel Try.underlying22 Try.underlying5 Try.underlying9 hs hb _ _ rfl
  have h2 : ∀ Wd : World, Below w.heap.size w Wd → (convert 22 9 (.slice A' l.length c')).run Try.prog Wd = .ok (.string (strOf l)) Wd := fun Wd hb => str_bel Try.underlying22 Try.underlying5 Try.underlying9 hs' hb _ _ rfl
  have hb0 := ba (ba (brefl w) (.cells #[.int .i64 W, .int .i64 H, .slice A l.length c] 24)) (.cells #[.int .i64 W, .int .i64 H, .slice A' l.length c'] 24)
  have k1 := h1 _ hb0
  have k2 := h2 _ hb0
  clear h1 h2 hs hs'
  generalize strOf l = s at *
  go_enter Try.func19, Try.ntmps19
  go_wp2_with fail
  go_ret
  exact ⟨rfl, hb0⟩

set_option maxRecDepth 100000 in
set_option maxHeartbeats 1000000 in
theorem alike_eq (W H : Int) (A A' : Option Addr) (l : List Int) (c c' : Nat) (w : World) (hs : Sl .u8 w A l) (hs' : Sl .u8 w A' l) :
    Calls Try.prog 22 #[.agg #[.int .i64 W, .int .i64 H, .slice A l.length c], .agg #[.int .i64 W, .int .i64 H, .slice A' l.length c']] w fun e w' => e = .returned (.bool true) ∧ Below w.heap.size w w' := by
  have h1 : ∀ Wd : World, Below w.heap.size w Wd → (convert 22 9 (.slice A l.length c)).run Try.prog Wd = .ok (.string (strOf l)) Wd := fun Wd hb => str_bel Try.underlying22 Try.underlying5 Try.underlying9 hs hb _ _ rfl
  have h2 : ∀ Wd : World, Below w.heap.size w Wd → (convert 22 9 (.slice A' l.length c')).run Try.prog Wd = .ok (.string (strOf l)) Wd := fun Wd hb => str_bel Try.underlying22 Try.underlying5 Try.underlying9 hs' hb _ _ rfl
  have hb0 := ba (ba (brefl w) (.cells #[.int .i64 W, .int .i64 H, .slice A l.length c] 24)) (.cells #[.int .i64 W, .int .i64 H, .slice A' l.length c'] 24)
  have k1 := h1 _ hb0
  have k2 := h2 _ hb0
  clear h1 h2 hs hs'
  generalize strOf l = s at *
  go_enter Try.func22, Try.ntmps22
  go_wp2_with fail
  go_ret
  exact ⟨rfl, hb0⟩

end Go.Proofs.Ytdjfjndmkkhknaa
