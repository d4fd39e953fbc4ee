/- The contracts of bytes compared, and of bytes in memory of their own. -/
import Derived.Test.YtmdcdmgbillehaaOcA
import Derived.Test.YtmdcdmgbillehaaOws
namespace Go.Proofs.Ytmdcdmgbillehaa
open Go.RowKit
open Go.Tin
set_option linter.unusedVariables false
set_option linter.unusedSimpArgs false


theorem bt5 : ST Try.prog 25 5 .u8 1 := ST.of Try.underlying25 Try.underlying5 (by kernel_rfl)

/- Two slices of integers compared, number by number: tintyperef01.Same. -/
set_option maxRecDepth 100000 in
set_option maxHeartbeats 2000000 in
theorem same_any (A A' : Option Addr) (l m : List Int) (c d : Nat) (w : World) (hs : Sl .u8 w A l) (ht : Sl .u8 w A' m) (hl : l.length ≤ 1000000000) (hm : m.length ≤ 1000000000) :
    Calls Try.prog 22 #[.slice A l.length c, .slice A' m.length d] w fun e w' => e = .returned (.bool (decide (l = m))) ∧ Below w.heap.size w w' := by
  have HS := Lib.hid hs
  have HT := Lib.hid ht
  clear hs ht
  by_cases hlm : l.length = m.length
  · have hne : ((l.length : Int) != (m.length : Int)) = false := by simp [hlm]
    have HLM := Lib.hid hlm
    clear hlm
    go_enter Try.func22, Try.ntmps22
    go_wp2_with fail
    go_loopw [5] (fun s5 wr => ∃ i : Nat, i ≤ l.length ∧ s5 = .int .i64 (i : Int) ∧ l.take i = m.take i ∧ Below w.heap.size w wr) (fun s5 _ => l.length - (intOf s5).toNat)
    case atStart => exact ⟨0, by omega, rfl, by simp, brefl w⟩
    case round =>
      obtain ⟨i, hi, rfl, htk, hb⟩ := hrel
      have HTK := Lib.hid htk
      clear htk
      by_cases hil : i < l.length
      · have i1 : (i : Int) < (l.length : Int) := by omega
        have him : i < m.length := by have := HLM.out; omega
        have i2 : (i : Int) < (m.length : Int) := by omega
        obtain ⟨b, off, rfl, hlt, hcell⟩ := (HS.out.keep hb).at_ (by omega)
        obtain ⟨b', off', rfl, hlt', hcell'⟩ := (HT.out.keep hb).at_ (by omega)
        have k0 : wr.cell? ⟨b, off + i, none⟩ = some (.int .u8 (nth l i)) := hcell i hil
        have k1 : wr.cell? ⟨b', off' + i, none⟩ = some (.int .u8 (nth m i)) := hcell' i him
        have q0 : ∀ p : Bel wr.heap.size wr.drew, p.w'.cell? ⟨b, off + i, none⟩ = some (.int .u8 (nth l i)) := fun p => (p.h.cell (p := ⟨b, off + i, none⟩) hlt).trans k0
        have q1 : ∀ p : Bel wr.heap.size wr.drew, p.w'.cell? ⟨b', off' + i, none⟩ = some (.int .u8 (nth m i)) := fun p => (p.h.cell (p := ⟨b', off' + i, none⟩) hlt').trans k1
        clear hcell hcell' k0 k1
        go_wp2_with fail
        refine Tin.reg_begin wr.heap.size 9 (by rfl) (by kernel_rfl) ?_
        refine Tin.reg_quiets [0, 1, 2, 3, 4, 5, 6, 7, 8] _ 0 rfl (by simp only [Tin.pick, List.map_cons, List.map_nil, Array.getD_eq_getD_getElem?, List.getElem?_toArray, List.getElem?_cons_zero, List.getElem?_cons_succ, Option.getD_some]; rfl) (by kernel_rfl) (by kernel_rfl) ?_
        repeat (first | go_big_quiet_step (fail))
        refine wpQuiet_nil ?_
        refine Tin.reg_done (by kernel_rfl) ?_
        by_cases he : nth l i = nth m i
        · have e1 : (nth l i != nth m i) = false := by simp [he]
          have HE := Lib.hid he
          clear he
          go_wp2_with fail
          go_roundw
          case rel => exact ⟨i + 1, by omega, by go_num, take_eq_step HTK.out hil him HE.out, hb.drew⟩
          case measure => simp [intOf]; omega
        · have e1 : (nth l i != nth m i) = true := by simp [he]
          have HE := Lib.hid he
          clear he
          go_wp2_with fail
          go_ret
          exact ⟨ret_bool (by simp [nth_ne HE.out]), hb.drew⟩
      · obtain rfl : i = l.length := by omega
        go_wp2_with fail
        go_ret
        exact ⟨ret_bool (by have h := HTK.out; rw [List.take_length, HLM.out, List.take_length] at h; simp [h]), hb⟩
  · have hne : ((l.length : Int) != (m.length : Int)) = true := by simp; omega
    have HLM := Lib.hid hlm
    clear hlm
    go_enter Try.func22, Try.ntmps22
    go_wp2_with fail
    go_ret
    exact ⟨ret_bool (by simp; exact fun h => HLM.out (by rw [h])), brefl w⟩


theorem own_any (A : Option Addr) (l : List Int) (c : Nat) (w : World) (hs : Sl .u8 w A l) (hl : l.length ≤ 100000000) :
    Calls Try.prog 18 #[.slice A l.length c] w fun e w' => ∃ A' c', e = .returned (.slice A' l.length c') ∧ Own .u8 5 w' w.heap.size (.slice A' l.length c') l ∧ Below w.heap.size w w' := by
  have HS := Lib.hid hs
  clear hs
  go_enter Try.func18, Try.ntmps18
  have hown0 := Own.new0 (k := .u8) (e := 5) w
  have hb1 : Below w.heap.size w (w.alloc (.cells #[] 5)) := ba (brefl w) _
  go_wp2_with (at_builtin; refine Tin.wpl_app bt5 _ rfl (.tmp 3) (.tmp 4) rfl w.heap.size _ [] rfl hown0 A l.length c l rfl (HS.out.keep hb1) rfl (by rw [List.length_nil]; omega) (by rw [List.length_nil]; omega) (by simp) ?_; intro v6 w6 hown6 hg6 how6)
  simp only [List.nil_append] at hown6
  have hb6 := hown0.grown hb1 (by simp) hg6
  obtain ⟨A6, c6, rfl⟩ := own_form hown6
  go_ret
  exact ⟨A6, c6, rfl, hown6, hb6⟩
end Go.Proofs.Ytmdcdmgbillehaa
