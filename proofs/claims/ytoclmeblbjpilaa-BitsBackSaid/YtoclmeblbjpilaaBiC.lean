/- The contracts of the reference's Data, Bare, Same. -/
import Derived.Test.YtoclmeblbjpilaaBiB
import Derived.Test.YtoclmeblbjpilaaBiN
namespace Go.Proofs.Ytoclmeblbjpilaa
open Go.RowKit
open Go.Tin
set_option linter.unusedVariables false
set_option linter.unusedSimpArgs false


theorem same_any (A A' : Option Addr) (l : List Int) (c d : Nat) (w : World) (hs : Sl .u8 w A l) (ht : Sl .u8 w A' l) :
    Calls Try.prog 11 #[.slice A l.length c, .slice A' l.length d] w fun e w' => e = .returned (.bool true) ∧ w = w' := by
  have s1 := str_run Try.underlying24 Try.underlying5 Try.underlying9 hs l.length c rfl
  have s2 := str_run Try.underlying24 Try.underlying5 Try.underlying9 ht l.length d rfl
  clear hs ht
  go_enter Try.func11, Try.ntmps11
  go_wp2_with fail
  go_ret
  exact ⟨ret_bool (by simp), rfl⟩

set_option maxRecDepth 100000 in
set_option maxHeartbeats 1000000 in
theorem data_any (A : Option Addr) (l : List Int) (c : Nat) (w : World) (hs : Sl .u8 w A l) (hl : l.length ≤ 1000000000) :
    Calls Try.prog 17 #[.slice A l.length c] w fun e w' => e = .returned (.int .i64 ((pln l).2 : Nat)) ∧ w = w' := by
  have HS := Lib.hid hs
  clear hs
  go_enter Try.func17, Try.ntmps17
  go_wp2_with fail
  go_loop [3] (fun s3 => ∃ (u : Nat) (o : List Int), u ≤ l.length ∧ s3 = .int .i64 (u : Int) ∧ pln l = (o ++ (pln (l.drop u)).1, u + (pln (l.drop u)).2)) (fun s3 => l.length - (intOf s3).toNat)
  case atStart => exact ⟨0, [], by omega, rfl, by simp⟩
  case round =>
    obtain ⟨u, o, hu, rfl, hp⟩ := hrel
    have HP := Lib.hid hp
    clear hp
    by_cases hul : u < l.length
    · have i1 : (u : Int) < (l.length : Int) := by omega
      obtain ⟨b, off, rfl, K⟩ := Sl.cells HS.out (by omega)
      have k0 := K.out w (brefl w) u hul
      by_cases hc : nth l u = 255
      · have hc2 : (nth l u == 255) = true := by simp [hc]
        have HC := Lib.hid hc
        clear hc
        by_cases hu1 : u + 1 = l.length
        · have e1 : (l.length : Int) ≤ (u : Int) + 1 := by omega
          have HR := Lib.hid (show ((pln l).2 : Nat) = u by rw [pln_stop1 HP.out hu1 HC.out])
          go_wp2_with fail
          go_ret
          exact ⟨by rw [HR.out]; rfl, rfl⟩
        · have i2 : (u : Int) + 1 < (l.length : Int) := by omega
          have k1 := K.out w (brefl w) (u + 1) (by omega)
          by_cases h0 : nth l (u + 1) = 0
          · have h02 : (nth l (u + 1) != 0) = false := by simp [h0]
            have HR := Lib.hid (pln_at2 HP.out (by omega) HC.out h0)
            clear h0
            go_wp2_with fail
            go_round
            case rel => exact ⟨u + 2, o ++ [255], by omega, by go_num, HR.out⟩
            case measure => simp [intOf]; omega
          · have h02 : (nth l (u + 1) != 0) = true := by simp [h0]
            have HR := Lib.hid (show ((pln l).2 : Nat) = u by rw [pln_stop2 HP.out (by omega) HC.out h0])
            clear h0
            go_wp2_with fail
            go_ret
            exact ⟨by rw [HR.out]; rfl, rfl⟩
      · have hc2 : (nth l u == 255) = false := by simp [hc]
        have HR := Lib.hid (pln_at HP.out hul hc)
        clear hc
        go_wp2_with fail
        go_round
        case rel => exact ⟨u + 1, o ++ [nth l u], by omega, by go_num, HR.out⟩
        case measure => simp [intOf]; omega
    · obtain rfl : u = l.length := by omega
      have HR := Lib.hid (show ((pln l).2 : Nat) = l.length by rw [pln_stop HP.out rfl])
      go_wp2_with fail
      go_ret
      exact ⟨by rw [HR.out]; rfl, rfl⟩

set_option maxRecDepth 100000 in
set_option maxHeartbeats 1000000 in
theorem bare_any (A : Option Addr) (l : List Int) (c : Nat) (w : World) (hs : Sl .u8 w A l) (hl : l.length ≤ 1000000000) :
    Calls Try.prog 18 #[.slice A l.length c] w fun e w' => ∃ A' c', e = .returned (.slice A' (bar l).length c') ∧ Own .u8 5 w' w.heap.size (.slice A' (bar l).length c') (bar l) ∧ Below w.heap.size w w' := by
  have HS := Lib.hid hs
  clear hs
  go_enter Try.func18, Try.ntmps18
  go_wp2_with fail
  go_loopw [3, 4] (fun s3 s4 wr => ∃ (u : Nat) (o : List Int) (A' : Option Addr) (c' : Nat), u ≤ l.length + 1 ∧ o.length ≤ u ∧ s4 = .int .i64 (u : Int) ∧ s3 = .slice A' o.length c' ∧ bar l = o ++ bar (l.drop u) ∧ Own .u8 5 wr w.heap.size (.slice A' o.length c') o ∧ Below w.heap.size w wr) (fun _ s4 _ => l.length + 1 - (intOf s4).toNat)
  case atStart => exact ⟨0, [], none, 0, by omega, by simp, rfl, rfl, by simp, Own.nil_ _ _ _ _, brefl w⟩
  case round =>
    obtain ⟨u, o, A', c', hu, hou, rfl, rfl, hp, ho, hb⟩ := hrel
    have HO := Lib.hid ho
    have HP := Lib.hid hp
    clear ho hp
    have hz := hb.size
    by_cases hul : u < l.length
    · have i1 : (u : Int) < (l.length : Int) := by omega
      obtain ⟨b, off, rfl, K⟩ := Sl.cells HS.out (by omega)
      have k0 := K.out wr hb u hul
      by_cases hc : nth l u = 255
      · have hc2 : (nth l u == 255) = true := by simp [hc]
        have HR := Lib.hid (bar_at2 HP.out hul hc)
        clear hc
        go_wp2_with (at_builtin; refine Tin.wpl_push bt5 w wr (nth l u) rfl (.tmp 11) (.tmp 16) rfl w.heap.size A' _ c' o rfl HO.out hb hz rfl (by omega) (by omega) ?_; intro A4 c4 w4 ho4 hb4 hz4 hg4 how4; clear hg4 how4; have k4 := K.out w4 hb4 u hul)
        go_roundw
        case rel => exact ⟨u + 2, o ++ [nth l u], A4, c4, by omega, by simp; omega, by go_num, by simp, HR.out, by simpa using ho4, hb4⟩
        case measure => simp [intOf]; omega
      · have hc2 : (nth l u == 255) = false := by simp [hc]
        have HR := Lib.hid (bar_at HP.out hul hc)
        clear hc
        go_wp2_with (at_builtin; refine Tin.wpl_push bt5 w wr (nth l u) rfl (.tmp 11) (.tmp 16) rfl w.heap.size A' _ c' o rfl HO.out hb hz rfl (by omega) (by omega) ?_; intro A4 c4 w4 ho4 hb4 hz4 hg4 how4; clear hg4 how4; have k4 := K.out w4 hb4 u hul)
        go_roundw
        case rel => exact ⟨u + 1, o ++ [nth l u], A4, c4, by omega, by simp; omega, by go_num, by simp, HR.out, by simpa using ho4, hb4⟩
        case measure => simp [intOf]; omega
    · have i1 : (l.length : Int) ≤ (u : Int) := by omega
      have hR : bar l = o := bar_stop HP.out (by omega)
      have HR := Lib.hid hR
      clear hR
      go_wp2_with fail
      go_ret
      rw [HR.out]
      exact ⟨_, _, rfl, HO.out, hb⟩
end Go.Proofs.Ytoclmeblbjpilaa
