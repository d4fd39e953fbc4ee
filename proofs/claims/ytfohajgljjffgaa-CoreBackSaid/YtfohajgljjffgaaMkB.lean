/- The contracts of scanned, its reference, Clone, and of bytes compared. -/
import Derived.Test.YtfohajgljjffgaaMkA
import Derived.Laws.BytesArg
import Derived.Lib.Bytes
import Derived.Laws.Cover3
namespace Go.Proofs.Ytfohajgljjffgaa
open Go.RowKit
open Go.Tin
set_option linter.unusedVariables false
set_option linter.unusedSimpArgs false


def trN (l : List Int) : Int := if 0 < l.length ∧ nth l (l.length - 1) = 255 then 1 else 0
theorem trl_any (A : Option Addr) (l : List Int) (c : Nat) (w : World) (hs : Sl .u8 w A l) (hl : l.length ≤ 1000000000) :
    Calls Try.prog 59 #[.slice A l.length c] w fun e w' => e = .returned (.int .i64 (trN l)) ∧ w = w' := by
  by_cases h0 : 0 < l.length
  · have d0 : decide (0 < (l.length : Int)) = true := by simp; omega
    obtain ⟨b, off, rfl, hlt, hc⟩ := hs.at_ h0
    have k0 : w.cell? ⟨b, off + (l.length - 1), none⟩ = some (.int .u8 (nth l (l.length - 1))) := hc (l.length - 1) (by omega)
    have t0 : ((l.length : Int) - 1).toNat = l.length - 1 := by omega
    have i0 : (l.length : Int) - 1 < (l.length : Int) := by omega
    by_cases h1 : nth l (l.length - 1) = 255
    · have d1 : (nth l (l.length - 1) == 255) = true := by simpa using h1
      have HE := Lib.hid (show trN l = 1 by unfold trN; rw [if_pos ⟨h0, h1⟩])
      generalize nth l (l.length - 1) = N at *
      clear hs hc h1
      go_enter Try.func59, Try.ntmps59
      go_wp2_with fail
      go_ret
      exact ⟨by rw [HE.out]; rfl, rfl⟩
    · have d1 : (nth l (l.length - 1) == 255) = false := by simpa using h1
      have HE := Lib.hid (show trN l = 0 by unfold trN; rw [if_neg (fun h => h1 h.2)])
      generalize nth l (l.length - 1) = N at *
      clear hs hc h1
      go_enter Try.func59, Try.ntmps59
      go_wp2_with fail
      go_ret
      exact ⟨by rw [HE.out]; rfl, rfl⟩
  · have d0 : decide (0 < (l.length : Int)) = false := decide_eq_false (by omega)
    have HE := Lib.hid (show trN l = 0 by unfold trN; rw [if_neg (fun h => h0 h.1)])
    clear hs
    go_enter Try.func59, Try.ntmps59
    go_wp2_with fail
    go_ret
    exact ⟨by rw [HE.out]; rfl, rfl⟩
theorem scL_trail {l : List Int} {i : Nat} (h : l.length ≤ i + 1) (hi : i ≤ l.length) (h2 : i = l.length → l.length = 0) : (i : Int) + (scL (l.drop i) : Int) = (l.length : Int) - trN l := by
  unfold trN
  by_cases hz : l.length = 0
  · have : i = 0 := by omega
    subst this
    rw [scL_end (l := l) (i := 0) (by omega), if_neg (show ¬ (0 < l.length ∧ nth l (l.length - 1) = 255) from fun h => by omega), hz]
    rfl
  · have hi' : i + 1 = l.length := by omega
    rw [scL_last hi', show l.length - 1 = i by omega]
    by_cases h1 : nth l i = 255
    · rw [if_pos h1, if_pos ⟨by omega, h1⟩]; omega
    · rw [if_neg h1, if_neg (fun h => h1 h.2)]; omega
set_option maxRecDepth 100000 in
set_option maxHeartbeats 4000000 in
theorem scan_any (A : Option Addr) (l : List Int) (c : Nat) (w : World) (hs : Sl .u8 w A l) (hl : l.length ≤ 1000000000) (hby : Byts l) :
    Calls Try.prog 48 #[.slice A l.length c] w fun e w' => e = .returned (.int .i64 (scL l)) ∧ Below w.heap.size w w' := by
  have HS := Lib.hid hs
  have HBY := Lib.hid hby
  clear hs hby
  go_enter Try.func48, Try.ntmps48
  go_wp2_with fail
  go_loopw [3] (fun s3 wr => ∃ i : Nat, i ≤ l.length ∧ (i = l.length → l.length = 0) ∧ s3 = .int .i64 (i : Int) ∧ scL l = i + scL (l.drop i) ∧ Below w.heap.size w wr) (fun s3 _ => l.length - (intOf s3).toNat)
  case atStart => exact ⟨0, by omega, by omega, rfl, by simp, brefl w⟩
  case round =>
    obtain ⟨i, hi, hz, rfl, hsc, hb⟩ := hrel
    have HSC := Lib.hid hsc
    clear hsc
    by_cases hil : i + 1 < l.length
    · have i1 : (i : Int) + 1 < (l.length : Int) := by omega
      obtain ⟨b, off, rfl, hlt, hcell⟩ := (HS.out.keep hb).at_ (by omega)
      have k0 : wr.cell? ⟨b, off + i, none⟩ = some (.int .u8 (nth l i)) := hcell i (by omega)
      have k1 : wr.cell? ⟨b, off + (i + 1), none⟩ = some (.int .u8 (nth l (i + 1))) := hcell (i + 1) hil
      have HST := Lib.hid (fun h1 h2 h3 => scL_stop (l := l) (i := i) hil h1 h2 h3)
      have HGO := Lib.hid (fun h => scL_go (l := l) (i := i) hil h)
      have hy := HBY.out.nth (i + 1)
      have t1 : ((i : Int) + 1).toNat = i + 1 := by omega
      clear hcell
      generalize nth l i = X at *
      generalize nth l (i + 1) = Y at *
      have y0 := hy.1
      have y1 := hy.2
      by_cases h1 : X = 255
      · have d1 : (X == 255) = true := by simpa using h1
        by_cases h2 : Y = 0
        · have d2 : (Y != 0) = false := by simpa using h2
          have HG := Lib.hid (HGO.out (fun h => h.2.1 h2))
          clear h1 h2 hy HST HGO
          go_wp2_with fail
          go_roundw
          case rel => exact ⟨i + 1, by omega, by omega, by go_num, by rw [HSC.out, HG.out]; omega, hb⟩
          case measure => simp [intOf]; omega
        · have d2 : (Y != 0) = true := by simpa using h2
          cases h3 : rstB Y with
          | true =>
            have HG := Lib.hid (HGO.out (fun h => by rw [h3] at h; exact absurd h.2.2 (by decide)))
            have HR := Lib.hid (fun W => rst_any Y W)
            rw [h3] at HR
            clear h1 h2 h3 hy HST HGO
            go_wp2_with fail
            refine (HR.out _).mono ?_
            rintro e w' ⟨rfl, rfl⟩
            go_wp2_with fail
            go_roundw
            case rel => exact ⟨i + 1, by omega, by omega, by go_num, by rw [HSC.out, HG.out]; omega, hb⟩
            case measure => simp [intOf]; omega
          | false =>
            have HG := Lib.hid (HST.out h1 h2 h3)
            have HR := Lib.hid (fun W => rst_any Y W)
            rw [h3] at HR
            clear h1 h2 h3 hy HST HGO
            go_wp2_with fail
            refine (HR.out _).mono ?_
            rintro e w' ⟨rfl, rfl⟩
            go_wp2_with fail
            go_ret
            exact ⟨by rw [HSC.out, HG.out]; rfl, hb⟩
      · have d1 : (X == 255) = false := by simpa using h1
        have HG := Lib.hid (HGO.out (fun h => h1 h.1))
        clear h1 hy HST HGO
        go_wp2_with fail
        go_roundw
        case rel => exact ⟨i + 1, by omega, by omega, by go_num, by rw [HSC.out, HG.out]; omega, hb⟩
        case measure => simp [intOf]; omega
    · have i1 : ¬ ((i : Int) + 1 < (l.length : Int)) := by omega
      have HT := Lib.hid (scL_trail (l := l) (i := i) (by omega) hi hz)
      have hq : (scL l : Int) = (i : Int) + (scL (l.drop i) : Int) := by rw [HSC.out]; omega
      rw [← hq] at HT
      clear hq
      go_wp2_with fail
      refine (trl_any A l c wr (HS.out.keep hb) hl).mono ?_
      rintro e w' ⟨rfl, rfl⟩
      have hb1 : 0 ≤ trN l ∧ trN l ≤ 1 := by unfold trN; split <;> decide
      generalize trN l = TR at *
      have b0 := hb1.1
      have b1 := hb1.2
      go_wp2_with fail
      go_ret
      exact ⟨by rw [HT.out]; rfl, hb⟩
set_option maxRecDepth 100000 in
set_option maxHeartbeats 4000000 in
theorem rscan_any (A : Option Addr) (l : List Int) (c : Nat) (w : World) (hs : Sl .u8 w A l) (hl : l.length ≤ 1000000000) (hby : Byts l) :
    Calls Try.prog 43 #[.slice A l.length c] w fun e w' => e = .returned (.int .i64 (scL l)) ∧ Below w.heap.size w w' := by
  have HS := Lib.hid hs
  have HBY := Lib.hid hby
  clear hs hby
  go_enter Try.func43, Try.ntmps43
  go_wp2_with fail
  go_loopw [3] (fun s3 wr => ∃ i : Nat, i ≤ l.length ∧ s3 = .int .i64 (i : Int) ∧ scL l = i + scL (l.drop i) ∧ Below w.heap.size w wr) (fun s3 _ => l.length - (intOf s3).toNat)
  case atStart => exact ⟨0, by omega, rfl, by simp, brefl w⟩
  case round =>
    obtain ⟨i, hi, rfl, hsc, hb⟩ := hrel
    have HSC := Lib.hid hsc
    clear hsc
    by_cases hil : i < l.length
    · have i1 : (i : Int) < (l.length : Int) := by omega
      obtain ⟨b, off, rfl, hlt, hcell⟩ := (HS.out.keep hb).at_ (by omega)
      have k0 : wr.cell? ⟨b, off + i, none⟩ = some (.int .u8 (nth l i)) := hcell i (by omega)
      have t1 : ((i : Int) + 1).toNat = i + 1 := by omega
      by_cases h1 : nth l i = 255
      · have d1 : (nth l i != 255) = false := by simpa using h1
        by_cases hil2 : i + 1 = l.length
        · have d2 : ((i : Int) + 1 == (l.length : Int)) = true := by simp; omega
          have HG := Lib.hid (show scL (l.drop i) = 0 by rw [scL_last hil2, if_pos h1])
          generalize nth l i = X at *
          clear h1 hcell hil2
          go_wp2_with fail
          go_ret
          exact ⟨by rw [HSC.out, HG.out]; rfl, hb⟩
        · have d2 : ((i : Int) + 1 == (l.length : Int)) = false := by simp; omega
          have i2 : (i : Int) + 1 < (l.length : Int) := by omega
          have k1 : wr.cell? ⟨b, off + (i + 1), none⟩ = some (.int .u8 (nth l (i + 1))) := hcell (i + 1) (by omega)
          have HST := Lib.hid (fun h1 h2 h3 => scL_stop (l := l) (i := i) (by omega) h1 h2 h3)
          have HGO := Lib.hid (fun h => scL_go (l := l) (i := i) (by omega) h)
          have hy := HBY.out.nth (i + 1)
          generalize nth l i = X at *
          generalize nth l (i + 1) = Y at *
          have y0 := hy.1
          have y1 := hy.2
          clear hcell hil2
          by_cases h2 : Y = 0
          · have d3 : (Y != 0) = false := by simpa using h2
            have HG := Lib.hid (HGO.out (fun h => h.2.1 h2))
            clear h1 h2 hy HST HGO
            go_wp2_with fail
            go_roundw
            case rel => exact ⟨i + 1, by omega, by go_num, by rw [HSC.out, HG.out]; omega, hb⟩
            case measure => simp [intOf]; omega
          · have d3 : (Y != 0) = true := by simpa using h2
            cases h3 : rstB Y with
            | true =>
              have HG := Lib.hid (HGO.out (fun h => by rw [h3] at h; exact absurd h.2.2 (by decide)))
              have HR := Lib.hid (fun W => rrst_any Y W)
              rw [h3] at HR
              clear h1 h2 h3 hy HST HGO
              go_wp2_with fail
              refine (HR.out _).mono ?_
              rintro e w' ⟨rfl, rfl⟩
              go_wp2_with fail
              go_roundw
              case rel => exact ⟨i + 1, by omega, by go_num, by rw [HSC.out, HG.out]; omega, hb⟩
              case measure => simp [intOf]; omega
            | false =>
              have HG := Lib.hid (HST.out h1 h2 h3)
              have HR := Lib.hid (fun W => rrst_any Y W)
              rw [h3] at HR
              clear h1 h2 h3 hy HST HGO
              go_wp2_with fail
              refine (HR.out _).mono ?_
              rintro e w' ⟨rfl, rfl⟩
              go_wp2_with fail
              go_ret
              exact ⟨by rw [HSC.out, HG.out]; rfl, hb⟩
      · have d1 : (nth l i != 255) = true := by simpa using h1
        have HG := Lib.hid (show scL (l.drop i) = scL (l.drop (i + 1)) + 1 by
          by_cases h : i + 1 < l.length
          · exact scL_go h (fun h => h1 h.1)
          · rw [scL_last (by omega), if_neg h1, scL_end (by omega)])
        generalize nth l i = X at *
        clear h1 hcell
        go_wp2_with fail
        go_roundw
        case rel => exact ⟨i + 1, by omega, by go_num, by rw [HSC.out, HG.out]; omega, hb⟩
        case measure => simp [intOf]; omega
    · obtain rfl : i = l.length := by omega
      have HG := Lib.hid (scL_end (Nat.le_refl l.length))
      go_wp2_with fail
      go_ret
      exact ⟨by rw [HSC.out, HG.out]; rfl, hb⟩
theorem eql_nil (A : Option Addr) (n c : Nat) (w : World) : (binOp .eql 22 (.slice A n c) (.slice none 0 0)).run Try.prog w = .ok (.bool A.isNone) w := by
  simp only [binOp]
  simp [run_equal_slice_nil w 22 5 A n c Try.underlying22]
/-- slices.Clone: bytes in memory of the call's own. -/
theorem clone_any (A : Option Addr) (l : List Int) (c : Nat) (w : World) (hs : Sl .u8 w A l) (hl : l.length ≤ 1000000000) :
    Calls Try.prog 47 #[.slice A l.length c] w fun e w' => ∃ A' c', e = .returned (.slice A' l.length c') ∧ Own .u8 5 w' w.heap.size (.slice A' l.length c') l ∧ Below w.heap.size w w' := by
  cases A with
  | none =>
    have hl0 : l = [] := by
      rcases hs with h | ⟨b, off, h, _⟩
      · exact h
      · cases h
    subst hl0
    have hq := fun n c W => eql_nil none n c W
    go_enter Try.func47, Try.ntmps47
    go_wp2_with fail
    go_ret
    exact ⟨none, 0, rfl, Own.nil_ _ _ _ _, brefl w⟩
  | some a =>
    have HE1 := Lib.hid (show Own .u8 5 (w.alloc (.cells #[] 5)) w.heap.size (.slice (some ⟨w.heap.size, 0, none⟩) 0 0) [] from Own.new0 w)
    have HSA := Lib.hid (hs.keep (ba (brefl w) (.cells #[] 5)))
    clear hs
    have hq := fun n c W => eql_nil (some a) n c W
    go_enter Try.func47, Try.ntmps47
    go_wp2_with (at_builtin; refine Tin.wpl_app bt5 _ rfl (.tmp 5) (.tmp 6) rfl w.heap.size _ [] rfl HE1.out (some a) l.length c l rfl HSA.out rfl (by simp; omega) (by simp; omega) (by simp) ?_; intro x1 w1 ho1 hg1 hw1; rw [List.nil_append] at ho1; obtain ⟨A1, c1, rfl⟩ := own_form ho1; have HO1 := Lib.hid ho1; have hb1 : Below w.heap.size w w1 := (ba (brefl w) (.cells #[] 5)).grown hg1 (by simp) (fun q hq => by have e' : w.heap.size = q := Option.some.inj hq; omega); have HB1 := Lib.hid hb1; clear ho1 hg1 hw1 hb1)
    go_ret
    exact ⟨A1, c1, rfl, HO1.out, HB1.out⟩
theorem strOf_nums (l : List Int) : strOf l = strOfNums l := by
  unfold strOf
  rw [foldl_push_bytes]
  apply ByteArray.ext
  simp [strOfNums]
theorem str_eq {l m : List Int} (h : Byts l) (h' : Byts m) : ((strOf l).toList == (strOf m).toList) = decide (l = m) := by
  rw [Bool.eq_iff_iff, beq_iff_eq, decide_eq_true_eq]
  constructor
  · intro e
    rw [strOf_nums, strOf_nums, Lib.strOfNums_toList, Lib.strOfNums_toList] at e
    have e1 : l.map (fun n => UInt8.ofNat n.toNat) = m.map fun n => UInt8.ofNat n.toNat := e
    have e2 : ∀ {k : List Int}, Byts k → (k.map (fun n => UInt8.ofNat n.toNat)).map (fun b : UInt8 => (b.toNat : Int)) = k := by
      intro k hk
      rw [List.map_map]
      refine (List.map_congr_left fun x hx => ?_).trans (List.map_id k)
      have := hk x hx
      show (((UInt8.ofNat x.toNat).toNat : Nat) : Int) = x
      have : (UInt8.ofNat x.toNat).toNat = x.toNat % 256 := by simp
      rw [this]
      omega
    rw [← e2 h, ← e2 h', e1]
  · intro e; rw [e]
theorem same3_any (A A' : Option Addr) (l m : List Int) (c d : Nat) (w : World) (hs : Sl .u8 w A l) (ht : Sl .u8 w A' m) (hl : Byts l) (hm : Byts m) :
    Calls Try.prog 30 #[.slice A l.length c, .slice A' m.length d] w fun e w' => e = .returned (.bool (decide (l = m))) ∧ w = w' := by
  have k1 := Lib.hid (str_run Try.underlying22 Try.underlying5 Try.underlying9 hs l.length c rfl)
  have k2 := Lib.hid (str_run Try.underlying22 Try.underlying5 Try.underlying9 ht m.length d rfl)
  have HQ := Lib.hid (str_eq hl hm)
  clear hs ht hl hm
  generalize strOf l = S1 at *
  generalize strOf m = S2 at *
  go_enter Try.func30, Try.ntmps30
  go_wp2_with fail
  rw [k1.out]
  simp only [Result.andThen]
  rw [Oper.upon_value]
  go_wp2_with fail
  rw [k2.out]
  simp only [Result.andThen]
  rw [Oper.upon_value]
  go_wp2_with fail
  go_ret
  exact ⟨ret_bool HQ.out, rfl⟩
end Go.Proofs.Ytfohajgljjffgaa
