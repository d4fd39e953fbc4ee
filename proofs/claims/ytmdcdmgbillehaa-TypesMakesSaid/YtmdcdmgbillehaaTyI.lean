/- The contracts of values compared, and of values in memory of their own. -/
import Derived.Test.YtmdcdmgbillehaaTyF
import Derived.Laws.BytesArg
import Derived.Lib.Bytes
namespace Go.Proofs.Ytmdcdmgbillehaa
open Go.RowKit
open Go.Tin
set_option linter.unusedVariables false
set_option linter.unusedSimpArgs false


theorem strOf_nums (l : List Int) : strOf l = strOfNums l := by
  unfold strOf
  rw [foldl_push_bytes]
  apply ByteArray.ext
  simp [strOfNums]
theorem str_eq {l m : List Int} (h : Byts l) (h' : Byts m) : ((strOf l).toList == (strOf m).toList) = decide (l = m) := by
  rw [Bool.eq_iff_iff, beq_iff_eq, decide_eq_true_eq]
  constructor
  · intro e
    rw [strOf_nums, strOf_nums, Lib.strOfNums_toList, Lib.strOfNums_toList] at e
    have e1 : l.map (fun n => UInt8.ofNat n.toNat) = m.map fun n => UInt8.ofNat n.toNat := e
    have e2 : ∀ {k : List Int}, Byts k → (k.map (fun n => UInt8.ofNat n.toNat)).map (fun b : UInt8 => (b.toNat : Int)) = k := by
      intro k hk
      rw [List.map_map]
      refine (List.map_congr_left fun x hx => ?_).trans (List.map_id k)
      have := hk x hx
      show (((UInt8.ofNat x.toNat).toNat : Nat) : Int) = x
      have : (UInt8.ofNat x.toNat).toNat = x.toNat % 256 := by simp
      rw [this]
      omega
    rw [← e2 h, ← e2 h', e1]
  · intro e; rw [e]
theorem eqb_any (A A' : Option Addr) (l m : List Int) (c d : Nat) (w : World) (hs : Sl .u8 w A l) (ht : Sl .u8 w A' m) (hl : Byts l) (hm : Byts m) :
    Calls Try.prog 57 #[.slice A l.length c, .slice A' m.length d] w fun e w' => e = .returned (.bool (decide (l = m))) ∧ w = w' := by
  have s1 := str_run Try.underlying25 Try.underlying5 Try.underlying9 hs l.length c rfl
  have s2 := str_run Try.underlying25 Try.underlying5 Try.underlying9 ht m.length d rfl
  have HE := Lib.hid (str_eq hl hm)
  clear hs ht hl hm
  go_enter Try.func57, Try.ntmps57
  go_wp2_with fail
  go_ret
  exact ⟨ret_bool HE.out, rfl⟩
def smV (t c : Int) (l : List Int) (t' c' : Int) (l' : List Int) : Bool := t == t' && (c == c' && decide (l = l'))
set_option maxRecDepth 100000 in
set_option maxHeartbeats 4000000 in
theorem vsame_any (t c : Int) (A : Option Addr) (l : List Int) (cap : Nat) (t' c' : Int) (A' : Option Addr) (l' : List Int) (cap' : Nat) (w : World) (hs : Sl .u8 w A l) (ht : Sl .u8 w A' l') (hby : Byts l) (hby' : Byts l') :
    Calls Try.prog 34 #[.agg #[.int .i64 t, .int .i64 c, .slice A l.length cap], .agg #[.int .i64 t', .int .i64 c', .slice A' l'.length cap']] w fun e w' => e = .returned (.bool (smV t c l t' c' l')) ∧ Below w.heap.size w w' := by
  have HB := Lib.hid (ba (ba (brefl w) (.cells #[.int .i64 t, .int .i64 c, .slice A l.length cap] 27)) (.cells #[.int .i64 t', .int .i64 c', .slice A' l'.length cap'] 27))
  have HS := Lib.hid (hs.keep HB.out)
  have HT := Lib.hid (ht.keep HB.out)
  have HBY := Lib.hid hby
  have HBY' := Lib.hid hby'
  have HV := Lib.hid (show smV t c l t' c' l' = (t == t' && (c == c' && decide (l = l'))) from rfl)
  clear hs ht hby hby'
  by_cases h1 : t = t'
  case neg =>
    have d1 : (t == t') = false := by simpa using h1
    clear h1
    go_enter Try.func34, Try.ntmps34
    go_wp2_with fail
    go_ret
    exact ⟨by rw [HV.out, d1]; rfl, HB.out⟩
  have d1 : (t == t') = true := by simpa using h1
  by_cases h2 : c = c'
  case neg =>
    have d2 : (c == c') = false := by simpa using h2
    clear h1 h2
    go_enter Try.func34, Try.ntmps34
    go_wp2_with fail
    go_ret
    exact ⟨by rw [HV.out, d1, d2]; rfl, HB.out⟩
  have d2 : (c == c') = true := by simpa using h2
  clear h1 h2
  go_enter Try.func34, Try.ntmps34
  go_wp2_with fail
  refine (eqb_any A A' l l' cap cap' _ HS.out HT.out HBY.out HBY'.out).mono ?_
  rintro e w3 ⟨rfl, rfl⟩
  go_wp2_with fail
  go_ret
  exact ⟨by rw [HV.out, d1, d2]; rfl, HB.out⟩

set_option maxRecDepth 100000 in
set_option maxHeartbeats 4000000 in
theorem rvsame_any (t c : Int) (A : Option Addr) (l : List Int) (cap : Nat) (t' c' : Int) (A' : Option Addr) (l' : List Int) (cap' : Nat) (w : World) (hs : Sl .u8 w A l) (ht : Sl .u8 w A' l') (hl : l.length ≤ 1000000000) (hl' : l'.length ≤ 1000000000) :
    Calls Try.prog 14 #[.agg #[.int .i64 t, .int .i64 c, .slice A l.length cap], .agg #[.int .i64 t', .int .i64 c', .slice A' l'.length cap']] w fun e w' => e = .returned (.bool (smV t c l t' c' l')) ∧ Below w.heap.size w w' := by
  have HB := Lib.hid (ba (ba (brefl w) (.cells #[.int .i64 t, .int .i64 c, .slice A l.length cap] 27)) (.cells #[.int .i64 t', .int .i64 c', .slice A' l'.length cap'] 27))
  have HS := Lib.hid (hs.keep HB.out)
  have HT := Lib.hid (ht.keep HB.out)
  have HV := Lib.hid (show smV t c l t' c' l' = (t == t' && (c == c' && decide (l = l'))) from rfl)
  clear hs ht
  by_cases h1 : t = t'
  case neg =>
    have d1 : (t == t') = false := by simpa using h1
    clear h1
    go_enter Try.func14, Try.ntmps14
    go_wp2_with fail
    go_ret
    exact ⟨by rw [HV.out, d1]; rfl, HB.out⟩
  have d1 : (t == t') = true := by simpa using h1
  by_cases h2 : c = c'
  case neg =>
    have d2 : (c == c') = false := by simpa using h2
    clear h1 h2
    go_enter Try.func14, Try.ntmps14
    go_wp2_with fail
    go_ret
    exact ⟨by rw [HV.out, d1, d2]; rfl, HB.out⟩
  have d2 : (c == c') = true := by simpa using h2
  clear h1 h2
  go_enter Try.func14, Try.ntmps14
  go_wp2_with fail
  refine (same_any A A' l l' cap cap' _ HS.out HT.out hl hl').mono ?_
  rintro e w3 ⟨rfl, hb3⟩
  go_wp2_with fail
  go_ret
  exact ⟨by rw [HV.out, d1, d2]; rfl, HB.out.trans (hb3.mono HB.out.size)⟩
end Go.Proofs.Ytmdcdmgbillehaa
