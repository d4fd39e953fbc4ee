/- The contracts of strings.IndexByte, of rows of numbers compared, and of the reference's ratios. -/
import Derived.Test.YtmdcdmgbillehaaTzG
import Derived.Test.YtmdcdmgbillehaaTyJ
import Derived.Lib.Bytealg
namespace Go.Proofs.Ytmdcdmgbillehaa
open Go.RowKit
open Go.Tin
set_option linter.unusedVariables false
set_option linter.unusedSimpArgs false


/- Two slices of integers compared, number by number: tintyperef18.Ints. -/
set_option maxRecDepth 100000 in
set_option maxHeartbeats 2000000 in
theorem ints_any (A A' : Option Addr) (l m : List Int) (c d : Nat) (w : World) (hs : Sl .i64 w A l) (ht : Sl .i64 w A' m) (hl : l.length ≤ 1000000000) (hm : m.length ≤ 1000000000) :
    Calls Try.prog 15 #[.slice A l.length c, .slice A' m.length d] w fun e w' => e = .returned (.bool (decide (l = m))) ∧ Below w.heap.size w w' := by
  have HS := Lib.hid hs
  have HT := Lib.hid ht
  clear hs ht
  by_cases hlm : l.length = m.length
  · have hne : ((l.length : Int) != (m.length : Int)) = false := by simp [hlm]
    have HLM := Lib.hid hlm
    clear hlm
    go_enter Try.func15, Try.ntmps15
    go_wp2_with fail
    go_loopw [5] (fun s5 wr => ∃ i : Nat, i ≤ l.length ∧ s5 = .int .i64 (i : Int) ∧ l.take i = m.take i ∧ Below w.heap.size w wr) (fun s5 _ => l.length - (intOf s5).toNat)
    case atStart => exact ⟨0, by omega, rfl, by simp, brefl w⟩
    case round =>
      obtain ⟨i, hi, rfl, htk, hb⟩ := hrel
      have HTK := Lib.hid htk
      clear htk
      by_cases hil : i < l.length
      · have i1 : (i : Int) < (l.length : Int) := by omega
        have him : i < m.length := by have := HLM.out; omega
        have i2 : (i : Int) < (m.length : Int) := by omega
        obtain ⟨b, off, rfl, hlt, hcell⟩ := (HS.out.keep hb).at_ (by omega)
        obtain ⟨b', off', rfl, hlt', hcell'⟩ := (HT.out.keep hb).at_ (by omega)
        have k0 : wr.cell? ⟨b, off + i, none⟩ = some (.int .i64 (nth l i)) := hcell i hil
        have k1 : wr.cell? ⟨b', off' + i, none⟩ = some (.int .i64 (nth m i)) := hcell' i him
        have q0 : ∀ p : Bel wr.heap.size wr.drew, p.w'.cell? ⟨b, off + i, none⟩ = some (.int .i64 (nth l i)) := fun p => (p.h.cell (p := ⟨b, off + i, none⟩) hlt).trans k0
        have q1 : ∀ p : Bel wr.heap.size wr.drew, p.w'.cell? ⟨b', off' + i, none⟩ = some (.int .i64 (nth m i)) := fun p => (p.h.cell (p := ⟨b', off' + i, none⟩) hlt').trans k1
        clear hcell hcell' k0 k1
        go_wp2_with fail
        refine Tin.reg_begin wr.heap.size 9 (by rfl) (by kernel_rfl) ?_
        refine Tin.reg_quiets [0, 1, 2, 3, 4, 5, 6, 7, 8] _ 0 rfl (by simp only [Tin.pick, List.map_cons, List.map_nil, Array.getD_eq_getD_getElem?, List.getElem?_toArray, List.getElem?_cons_zero, List.getElem?_cons_succ, Option.getD_some]; rfl) (by kernel_rfl) (by kernel_rfl) ?_
        repeat (first | go_big_quiet_step (fail))
        refine wpQuiet_nil ?_
        refine Tin.reg_done (by kernel_rfl) ?_
        by_cases he : nth l i = nth m i
        · have e1 : (nth l i != nth m i) = false := by simp [he]
          have HE := Lib.hid he
          clear he
          go_wp2_with fail
          go_roundw
          case rel => exact ⟨i + 1, by omega, by go_num, take_eq_step HTK.out hil him HE.out, hb.drew⟩
          case measure => simp [intOf]; omega
        · have e1 : (nth l i != nth m i) = true := by simp [he]
          have HE := Lib.hid he
          clear he
          go_wp2_with fail
          go_ret
          exact ⟨ret_bool (by simp [nth_ne HE.out]), hb.drew⟩
      · obtain rfl : i = l.length := by omega
        go_wp2_with fail
        go_ret
        exact ⟨ret_bool (by have h := HTK.out; rw [List.take_length, HLM.out, List.take_length] at h; simp [h]), hb⟩
  · have hne : ((l.length : Int) != (m.length : Int)) = true := by simp; omega
    have HLM := Lib.hid hlm
    clear hlm
    go_enter Try.func15, Try.ntmps15
    go_wp2_with fail
    go_ret
    exact ⟨ret_bool (by simp; exact fun h => HLM.out (by rw [h])), brefl w⟩

theorem slx_any (s : ByteArray) (w : World) : Calls Try.prog 66 #[.string s, .int .u8 0] w fun e w' => e = .returned (.int .i64 (Lib.indexByte s.data.toList 0)) ∧ w = w' := by
  have HR := Lib.hid (Lib.run_indexByteString (P := Try.prog) s 0 w)
  go_enter Try.func66, Try.ntmps66
  go_wp2_with fail
  rw [run_callFunc_extern Try.func76 (by kernel_rfl) (by kernel_rfl) (by kernel_rfl) (e := Extern.BytealgIndexByte.indexByte) (by kernel_rfl), HR.out]
  simp only [Result.andThen]
  rw [Oper.upon_value]
  go_wp2_with fail
  go_ret
  exact ⟨rfl, rfl⟩
theorem stx_any (s : ByteArray) (w : World) : Calls Try.prog 46 #[.string s, .int .u8 0] w fun e w' => e = .returned (.int .i64 (Lib.indexByte s.data.toList 0)) ∧ w = w' := by
  go_enter Try.func46, Try.ntmps46
  go_wp2_with fail
  refine (slx_any s w).mono ?_
  rintro e w1 ⟨rfl, rfl⟩
  go_wp2_with fail
  go_ret
  exact ⟨rfl, rfl⟩
theorem put42 (a : Int) : putB a 4 2 = (decide (0 ≤ a) && decide (a < 4294967296)) := rfl
theorem pl4 (a : Int) : plB a 4 = (decide (-2147483648 ≤ a) && decide (a < 2147483648)) := rfl
set_option maxRecDepth 100000 in
theorem rrp_any (a b : Int) (w : World) : Calls Try.prog 44 #[.agg #[.int .i64 a, .int .i64 b]] w fun e w' => e = .returned (.bool (rpB a b)) ∧ Below w.heap.size w w' := by
  have HB := Lib.hid (ba (brefl w) (.cells #[.int .i64 a, .int .i64 b] 55))
  have HD := Lib.hid (show rpB a b = ((decide (0 ≤ a) && decide (a < 4294967296)) && (decide (0 ≤ b) && decide (b < 4294967296))) from rfl)
  cases h1 : decide (0 ≤ a) <;> cases h2 : decide (a < 4294967296) <;> cases h3 : decide (0 ≤ b) <;> cases h4 : decide (b < 4294967296)
  all_goals
    have HE := Lib.hid (by have h := HD.out; rw [h1, h2, h3, h4] at h; exact h)
    go_enter Try.func44, Try.ntmps44
    go_wp2_with fail
    go_ret
    exact ⟨by rw [HE.out]; rfl, HB.out⟩
set_option maxRecDepth 100000 in
theorem rrs_any (a b : Int) (w : World) : Calls Try.prog 45 #[.agg #[.int .i64 a, .int .i64 b]] w fun e w' => e = .returned (.bool (rsB a b)) ∧ Below w.heap.size w w' := by
  have HB := Lib.hid (ba (brefl w) (.cells #[.int .i64 a, .int .i64 b] 55))
  have HD := Lib.hid (show rsB a b = ((decide (-2147483648 ≤ a) && decide (a < 2147483648)) && (decide (-2147483648 ≤ b) && decide (b < 2147483648))) from rfl)
  cases h1 : decide (-2147483648 ≤ a) <;> cases h2 : decide (a < 2147483648) <;> cases h3 : decide (-2147483648 ≤ b) <;> cases h4 : decide (b < 2147483648)
  all_goals
    have HE := Lib.hid (by have h := HD.out; rw [h1, h2, h3, h4] at h; exact h)
    go_enter Try.func45, Try.ntmps45
    go_wp2_with fail
    go_ret
    exact ⟨by rw [HE.out]; rfl, HB.out⟩
set_option maxRecDepth 100000 in
theorem has_any (t c : Int) (A : Option Addr) (l : List Int) (cap : Nat) (t' c' : Int) (A' : Option Addr) (l' : List Int) (cap' : Nat) (w : World) (hs : Sl .u8 w A l) (ht : Sl .u8 w A' l') (hl : l.length ≤ 1000000000) (hl' : l'.length ≤ 1000000000) (hm : smV t c l t' c' l' = true) :
    Calls Try.prog 35 #[.agg (vrow t c A l.length cap), .bool true, .int .i64 t', .int .i64 c', .slice A' l'.length cap'] w fun e w' => e = .returned (.bool true) ∧ Below w.heap.size w w' := by
  have HB := Lib.hid (ba (brefl w) (.cells (vrow t c A l.length cap) 27))
  have HR := Lib.hid (heap_alloc_new w (.cells (vrow t c A l.length cap) 27))
  have HQ := Lib.hid (rvsame_any t c A l cap t' c' A' l' cap' (w.alloc (.cells (vrow t c A l.length cap) 27)) (hs.keep HB.out) (ht.keep HB.out) hl hl')
  rw [hm] at HQ
  clear hs ht
  go_enter Try.func35, Try.ntmps35
  go_wp2_with ((with_reducible refine wpl_load_row rtV ?_ (.tmp 5) ?_ (w.heap.size) ?_ 27 (vrow t c A l.length cap) ?_ HR.out ?_); rfl; rfl; rfl; rfl; simp only [Act.put, List.setIfInBounds_toArray, List.set_cons_succ, List.set_cons_zero])
  refine HQ.out.mono ?_
  rintro e w1 ⟨rfl, hb1⟩
  go_wp2_with fail
  go_ret
  exact ⟨rfl, HB.out.trans (hb1.mono HB.out.size)⟩
end Go.Proofs.Ytmdcdmgbillehaa
