/- The contracts of plain and Plain. -/
import Derived.Test.YtoclmeblbjpilaaBiA
namespace Go.Proofs.Ytoclmeblbjpilaa
open Go.RowKit
open Go.Tin
set_option linter.unusedVariables false
set_option linter.unusedSimpArgs false


theorem Sl.cells {w : World} {A : Option Addr} {l : List Int} (h : Sl .u8 w A l) (h0 : 0 < l.length) : ∃ b off, A = some ⟨b, off, none⟩ ∧ RowKit.Hid (∀ W : World, Below w.heap.size w W → ∀ i, i < l.length → W.cell? ⟨b, off + i, none⟩ = some (.int .u8 (nth l i))) := by
  obtain ⟨b, off, rfl, hlt, hcell⟩ := h.at_ h0
  exact ⟨b, off, rfl, Lib.hid fun W hb i hi => (hb.cell (p := ⟨b, off + i, none⟩) hlt).trans (hcell i hi)⟩

set_option maxRecDepth 100000 in
set_option maxHeartbeats 1000000 in
theorem plain_any (A : Option Addr) (l : List Int) (c : Nat) (w : World) (hs : Sl .u8 w A l) (hl : l.length ≤ 1000000000) :
    Calls Try.prog 26 #[.slice A l.length c] w fun e w' => ∃ A' c', e = .returned (.tuple #[.slice A' (pln l).1.length c', .int .i64 ((pln l).2 : Nat)]) ∧ Own .u8 5 w' w.heap.size (.slice A' (pln l).1.length c') (pln l).1 ∧ Below w.heap.size w w' := by
  have HS := Lib.hid hs
  clear hs
  go_enter Try.func26, Try.ntmps26
  go_wp2_with fail
  go_loopw [2, 3] (fun s2 s3 wr => ∃ (u : Nat) (o : List Int) (A' : Option Addr) (c' : Nat), u ≤ l.length ∧ o.length ≤ u ∧ s3 = .int .i64 (u : Int) ∧ s2 = .slice A' o.length c' ∧ pln l = (o ++ (pln (l.drop u)).1, u + (pln (l.drop u)).2) ∧ Own .u8 5 wr w.heap.size (.slice A' o.length c') o ∧ Below w.heap.size w wr) (fun _ s3 _ => l.length - (intOf s3).toNat)
  case atStart => exact ⟨0, [], none, 0, by omega, by simp, rfl, rfl, by simp, Own.nil_ _ _ _ _, brefl w⟩
  case round =>
    obtain ⟨u, o, A', c', hu, hou, rfl, rfl, hp, ho, hb⟩ := hrel
    have HO := Lib.hid ho
    have HP := Lib.hid hp
    clear ho hp
    have hz := hb.size
    by_cases hul : u < l.length
    · have i1 : (u : Int) < (l.length : Int) := by omega
      obtain ⟨b, off, rfl, K⟩ := Sl.cells HS.out (by omega)
      have k0 := K.out wr hb u hul
      by_cases hc : nth l u = 255
      · have hc2 : (nth l u != 255) = false := by simp [hc]
        have HC := Lib.hid hc
        clear hc
        by_cases hu1 : u + 1 = l.length
        · have e1 : ((u : Int) + 1 == (l.length : Int)) = true := by simp; omega
          have HR := Lib.hid (pln_stop1 HP.out hu1 HC.out)
          have hR1 : (pln l).1 = o := by rw [HR.out]
          have hR2 : ((pln l).2 : Nat) = u := by rw [HR.out]
          have HR1 := Lib.hid hR1
          have HR2 := Lib.hid hR2
          clear hR1 hR2
          go_wp2_with fail
          go_ret2
          rw [HR1.out, HR2.out]
          exact ⟨_, _, rfl, HO.out, hb⟩
        · have e1 : ((u : Int) + 1 == (l.length : Int)) = false := by simp; omega
          have i2 : (u : Int) + 1 < (l.length : Int) := by omega
          have k1 := K.out wr hb (u + 1) (by omega)
          by_cases h0 : nth l (u + 1) = 0
          · have h02 : (nth l (u + 1) != 0) = false := by simp [h0]
            have HR := Lib.hid (pln_at2 HP.out (by omega) HC.out h0)
            clear h0
            go_wp2_with (at_builtin; refine Tin.wpl_push bt5 w wr 255 rfl (.tmp 35) (.tmp 36) rfl w.heap.size A' _ c' o rfl HO.out hb hz rfl (by omega) (by omega) ?_; intro A4 c4 w4 ho4 hb4 hz4 hg4 how4; clear hg4 how4)
            go_roundw
            case rel => exact ⟨u + 2, o ++ [255], A4, c4, by omega, by simp; omega, by go_num, by simp, HR.out, by simpa using ho4, hb4⟩
            case measure => simp [intOf]; omega
          · have h02 : (nth l (u + 1) != 0) = true := by simp [h0]
            have HR := Lib.hid (pln_stop2 HP.out (by omega) HC.out h0)
            have hR1 : (pln l).1 = o := by rw [HR.out]
            have hR2 : ((pln l).2 : Nat) = u := by rw [HR.out]
            clear h0
            have HR1 := Lib.hid hR1
            have HR2 := Lib.hid hR2
            clear hR1 hR2
            go_wp2_with fail
            go_ret2
            rw [HR1.out, HR2.out]
            exact ⟨_, _, rfl, HO.out, hb⟩
      · have hc2 : (nth l u != 255) = true := by simp [hc]
        have HR := Lib.hid (pln_at HP.out hul hc)
        clear hc
        go_wp2_with (at_builtin; refine Tin.wpl_push bt5 w wr (nth l u) rfl (.tmp 13) (.tmp 18) rfl w.heap.size A' _ c' o rfl HO.out hb hz rfl (by omega) (by omega) ?_; intro A4 c4 w4 ho4 hb4 hz4 hg4 how4; clear hg4 how4)
        go_roundw
        case rel => exact ⟨u + 1, o ++ [nth l u], A4, c4, by omega, by simp; omega, by go_num, by simp, HR.out, by simpa using ho4, hb4⟩
        case measure => simp [intOf]; omega
    · obtain rfl : u = l.length := by omega
      have HR := Lib.hid (pln_stop HP.out rfl)
      have hR1 : (pln l).1 = o := by rw [HR.out]
      have hR2 : ((pln l).2 : Nat) = l.length := by rw [HR.out]
      have HR1 := Lib.hid hR1
      have HR2 := Lib.hid hR2
      clear hR1 hR2
      go_wp2_with fail
      go_ret2
      rw [HR1.out, HR2.out]
      exact ⟨_, _, rfl, HO.out, hb⟩

theorem bplain_yes (A : Option Addr) (l : List Int) (c : Nat) (w : World) (hs : Sl .u8 w A l) (hl : l.length ≤ 1000000000) (hy : (pln l).2 = l.length) :
    Calls Try.prog 16 #[.slice A l.length c] w fun e w' => ∃ A' c', e = .returned (.tuple #[.slice A' (pln l).1.length c', .bool true]) ∧ Own .u8 5 w' w.heap.size (.slice A' (pln l).1.length c') (pln l).1 ∧ Below w.heap.size w w' := by
  have HP := Lib.hid (plain_any A l c w hs hl)
  go_enter Try.func16, Try.ntmps16
  go_wp2_with fail
  refine HP.out.mono ?_
  rw [hy]
  rintro e w2 ⟨A2, c2, rfl, ho, hb⟩
  go_wp2_with fail
  go_ret2
  exact ⟨_, _, rfl, ho, hb⟩
theorem bplain_no (A : Option Addr) (l : List Int) (c : Nat) (w : World) (hs : Sl .u8 w A l) (hl : l.length ≤ 1000000000) (hy : (pln l).2 < l.length) :
    Calls Try.prog 16 #[.slice A l.length c] w fun e w' => e = .returned (.tuple #[.slice none 0 0, .bool false]) ∧ Below w.heap.size w w' := by
  have HP := Lib.hid (plain_any A l c w hs hl)
  go_enter Try.func16, Try.ntmps16
  go_wp2_with fail
  refine HP.out.mono ?_
  rintro e w2 ⟨A2, c2, rfl, ho, hb⟩
  have i1 : ((pln l).2 : Int) < (l.length : Int) := by omega
  go_wp2_with fail
  go_ret2
  exact ⟨rfl, hb⟩
end Go.Proofs.Ytoclmeblbjpilaa
