/- The contracts of All: bytes are turned three by three. Conditions: at most a million bytes, each from 0 to 255. -/
import Derived.Test.YtknnmgbiondipaaC
import Derived.Test.YtknnmgbiondipaaD
import Derived.Test.YtknnmgbiondipaaByt
import Derived.Test.YtknnmgbiondipaaReg
namespace Go.Proofs.Ytknnmgbiondipaa
open Go.RowKit
open Go.Tin (Sl Own ST)
open Go.Tin
set_option linter.unusedVariables false

theorem bt : ST Try.prog 27 5 .u8 1 := ST.of Try.underlying27 Try.underlying5 (by kernel_rfl)

/-- Three bytes, turned. -/
def tri (p : Bool) (a b c : Int) : List Int := if p then [paiR a b c, paiG a b c, paiB a b c] else [lumY a b c, lumB a b c, lumR a b c]
/-- The first k threes of bytes, turned. -/
def threes (p : Bool) (l : List Int) : Nat → List Int
  | 0 => []
  | k + 1 => threes p l k ++ tri p (l.getD (3 * k) 0) (l.getD (3 * k + 1) 0) (l.getD (3 * k + 2) 0)
def allOf (p : Bool) (l : List Int) : List Int := if l.length % 3 = 0 then threes p l (l.length / 3) else []
theorem tri_len (p : Bool) (a b c : Int) : (tri p a b c).length = 3 := by cases p <;> rfl
theorem threes_snoc (p : Bool) (l : List Int) (k : Nat) : threes p l (k + 1) = threes p l k ++ tri p (l.getD (3 * k) 0) (l.getD (3 * k + 1) 0) (l.getD (3 * k + 2) 0) := rfl
theorem threes_len (p : Bool) (l : List Int) (k : Nat) : (threes p l k).length = 3 * k := by
  induction k with
  | zero => rfl
  | succ k ih => rw [threes, List.length_append, ih, tri_len]; omega
theorem tri_bd (p : Bool) (a b c : Int) : ∀ n ∈ tri p a b c, 0 ≤ n ∧ n ≤ 255 := by
  intro n hn
  cases p <;> simp [tri] at hn <;> rcases hn with rfl | rfl | rfl <;> exact clamp_bd _

def AllPost (w : World) (l : List Int) (e : Ending) (w' : World) : Prop := ∃ v, e = .returned v ∧ Own .u8 5 w' w.heap.size v l ∧ Below w.heap.size w w'

theorem all_luma (A : Option Addr) (c : Nat) (l : List Int) (w : World) (hr : Sl .u8 w A l) (hc : l.length ≤ c) (hl : l.length ≤ 1000000) (hb : ∀ i, 0 ≤ l.getD i 0 ∧ l.getD i 0 ≤ 255) (h3 : l.length % 3 = 0) :
    Calls Try.prog 14 #[.slice A l.length c, .bool false] w (AllPost w (threes false l (l.length / 3))) := by
  have hn3 : ((l.length : Int) % 3 != 0) = false := by simp; omega
  have H3 := Lib.hid h3
  clear h3
  go_enter Try.func14, Try.ntmps14
  go_wp2_with (at_make; go_loud (refine Tin.wpl_make0 bt _ rfl _ _ rfl w.heap.size .i64 .i64 _ l.length rfl rfl rfl (by omega) (by unfold maxLen; omega) (Nat.le_refl _) ?_); intro v w1 hown hg)
  have hb1 : Below w.heap.size w w1 := (Below.refl _ _).grown hg (Nat.le_refl _) (fun k h => by cases h)
  clear hg
  go_loopw [0, 6, 7, 8, 9] (fun s out _ _ _ wr => ∃ (k : Nat) (A' : Option Addr) (c' : Nat), 3 * k ≤ l.length ∧ s = .slice A' (l.length - 3 * k) c' ∧ l.length - 3 * k ≤ c' ∧ Sl .u8 w A' (l.drop (3 * k)) ∧ Own .u8 5 wr w.heap.size out (threes false l k) ∧ Below w.heap.size w wr) (fun s _ _ _ _ _ => match s with | .slice _ m _ => m | _ => 0)
  case atStart => exact ⟨0, A, c, by omega, rfl, hc, by simpa using hr, hown, hb1⟩
  case round =>
    obtain ⟨k, A', c', hk, rfl, hc', hsl, hown, hbel⟩ := hrel
    by_cases hlt : 3 * k < l.length
    · have hm3 : 3 * k + 3 ≤ l.length := by have := H3.out; omega
      obtain ⟨b, off, rfl, hblt, hcell⟩ := (hsl.keep hbel).at_ (by rw [List.length_drop]; omega)
      have c0 : wr.cell? ⟨b, off, none⟩ = some (.int .u8 (l.getD (3 * k) 0)) := by
        have h := hcell 0 (by rw [List.length_drop]; omega)
        simpa [List.getD_eq_getElem?_getD] using h
      have c1 : wr.cell? ⟨b, off + 1, none⟩ = some (.int .u8 (l.getD (3 * k + 1) 0)) := by
        have h := hcell 1 (by rw [List.length_drop]; omega)
        simpa [List.getD_eq_getElem?_getD] using h
      have c2 : wr.cell? ⟨b, off + 2, none⟩ = some (.int .u8 (l.getD (3 * k + 2) 0)) := by
        have h := hcell 2 (by rw [List.length_drop]; omega)
        simpa [List.getD_eq_getElem?_getD] using h
      have b0 := hb (3 * k)
      have b1 := hb (3 * k + 1)
      have b2 := hb (3 * k + 2)
      have k0 := cell_regrown c0
      have k1 := cell_regrown c1
      have k2 := cell_regrown c2
      have hT : threes false l (k + 1) = threes false l k ++ [lumY (l.getD (3 * k) 0) (l.getD (3 * k + 1) 0) (l.getD (3 * k + 2) 0), lumB (l.getD (3 * k) 0) (l.getD (3 * k + 1) 0) (l.getD (3 * k + 2) 0), lumR (l.getD (3 * k) 0) (l.getD (3 * k + 1) 0) (l.getD (3 * k + 2) 0)] := rfl
      have HT := Lib.hid hT
      have hC : Sl .u8 w (some ⟨b, off + 3, none⟩) (l.drop (3 * (k + 1))) := by
        have h := hsl.cut 3
        rw [List.drop_drop] at h
        simpa [add_none, Nat.mul_add] using h
      have HC := Lib.hid hC
      clear hC
      clear hT c0 c1 c2 hcell hb
      generalize l.getD (3 * k) 0 = x0 at *
      generalize l.getD (3 * k + 1) 0 = x1 at *
      generalize l.getD (3 * k + 2) 0 = x2 at *
      have bd := lum_bd x0 x1 x2
      go_wp2_with fail
      refine wp_region_quiet_below (by kernel_rfl) (by kernel_rfl) ?_
      repeat (go_big_quiet_step ((go_at_call 16; exact Calls.regrown_of (luma_any _ _ _ _))))
      refine wpQuiet_nil ?_
      intro W hw'
      have hb2 : Below wr.heap.size wr W := by
        obtain ⟨p, rfl⟩ := hw'
        exact below_regrown wr p.d p.os
      clear hw' k0 k1 k2
      have hown1 : Own .u8 5 W w.heap.size u6 (threes false l k) := hown.keep hb2
      have hbel1 : Below w.heap.size w W := hbel.trans (hb2.mono hbel.size)
      by_cases hc3 : c' = 3
      · subst hc3
        go_wp2_with (at_builtin; go_loud (refine Tin.wpl_app bt _ rfl _ _ rfl w.heap.size u6 (threes false l k) rfl (hown1.alloc _) (some ⟨W.heap.size, 0, none⟩) 3 3 [lumY x0 x1 x2, lumB x0 x1 x2, lumR x0 x1 x2] rfl (Sl.new_ _ _ _ _ rfl) rfl (by rw [threes_len]; simp; omega) (by rw [threes_len]; simp; omega) (by simp; have := hbel1.size; omega) ?_); intro v2 w2 hown2 hg2 _)
        go_roundw
        case rel => exact ⟨k + 1, some ⟨b, off, none⟩, 0, by omega, by rw [show l.length - 3 * (k + 1) = 0 from by omega], by omega, .inl (List.drop_eq_nil_of_le (by omega)), by rw [HT.out]; exact hown2, Own.grown (hown1.alloc _) (hbel1.alloc hbel1.size _) (by simp; have := hbel1.size; omega) hg2⟩
        case measure => show 0 < l.length - 3 * k; omega
      · go_wp2_with (at_builtin; go_loud (refine Tin.wpl_app bt _ rfl _ _ rfl w.heap.size u6 (threes false l k) rfl (hown1.alloc _) (some ⟨W.heap.size, 0, none⟩) 3 3 [lumY x0 x1 x2, lumB x0 x1 x2, lumR x0 x1 x2] rfl (Sl.new_ _ _ _ _ rfl) rfl (by rw [threes_len]; simp; omega) (by rw [threes_len]; simp; omega) (by simp; have := hbel1.size; omega) ?_); intro v2 w2 hown2 hg2 _)
        go_roundw
        case rel => exact ⟨k + 1, some ⟨b, off + 3, none⟩, c' - 3, by omega, by rw [show l.length - 3 * (k + 1) = l.length - 3 * k - 3 from by omega], by omega, HC.out, by rw [HT.out]; exact hown2, Own.grown (hown1.alloc _) (hbel1.alloc hbel1.size _) (by simp; have := hbel1.size; omega) hg2⟩
        case measure => show l.length - 3 * k - 3 < l.length - 3 * k; omega
    · have hE : 3 * k = l.length := by omega
      have hk' : l.length / 3 = k := by omega
      have HE := Lib.hid hk'
      clear hE hk' hb
      go_wp2_with fail
      go_ret
      exact ⟨_, rfl, by rw [HE.out]; exact hown, hbel⟩
theorem all_paint (A : Option Addr) (c : Nat) (l : List Int) (w : World) (hr : Sl .u8 w A l) (hc : l.length ≤ c) (hl : l.length ≤ 1000000) (hb : ∀ i, 0 ≤ l.getD i 0 ∧ l.getD i 0 ≤ 255) (h3 : l.length % 3 = 0) :
    Calls Try.prog 14 #[.slice A l.length c, .bool true] w (AllPost w (threes true l (l.length / 3))) := by
  have hn3 : ((l.length : Int) % 3 != 0) = false := by simp; omega
  have H3 := Lib.hid h3
  clear h3
  go_enter Try.func14, Try.ntmps14
  go_wp2_with (at_make; go_loud (refine Tin.wpl_make0 bt _ rfl _ _ rfl w.heap.size .i64 .i64 _ l.length rfl rfl rfl (by omega) (by unfold maxLen; omega) (Nat.le_refl _) ?_); intro v w1 hown hg)
  have hb1 : Below w.heap.size w w1 := (Below.refl _ _).grown hg (Nat.le_refl _) (fun k h => by cases h)
  clear hg
  go_loopw [0, 6, 7, 8, 9] (fun s out _ _ _ wr => ∃ (k : Nat) (A' : Option Addr) (c' : Nat), 3 * k ≤ l.length ∧ s = .slice A' (l.length - 3 * k) c' ∧ l.length - 3 * k ≤ c' ∧ Sl .u8 w A' (l.drop (3 * k)) ∧ Own .u8 5 wr w.heap.size out (threes true l k) ∧ Below w.heap.size w wr) (fun s _ _ _ _ _ => match s with | .slice _ m _ => m | _ => 0)
  case atStart => exact ⟨0, A, c, by omega, rfl, hc, by simpa using hr, hown, hb1⟩
  case round =>
    obtain ⟨k, A', c', hk, rfl, hc', hsl, hown, hbel⟩ := hrel
    by_cases hlt : 3 * k < l.length
    · have hm3 : 3 * k + 3 ≤ l.length := by have := H3.out; omega
      obtain ⟨b, off, rfl, hblt, hcell⟩ := (hsl.keep hbel).at_ (by rw [List.length_drop]; omega)
      have c0 : wr.cell? ⟨b, off, none⟩ = some (.int .u8 (l.getD (3 * k) 0)) := by
        have h := hcell 0 (by rw [List.length_drop]; omega)
        simpa [List.getD_eq_getElem?_getD] using h
      have c1 : wr.cell? ⟨b, off + 1, none⟩ = some (.int .u8 (l.getD (3 * k + 1) 0)) := by
        have h := hcell 1 (by rw [List.length_drop]; omega)
        simpa [List.getD_eq_getElem?_getD] using h
      have c2 : wr.cell? ⟨b, off + 2, none⟩ = some (.int .u8 (l.getD (3 * k + 2) 0)) := by
        have h := hcell 2 (by rw [List.length_drop]; omega)
        simpa [List.getD_eq_getElem?_getD] using h
      have b0 := hb (3 * k)
      have b1 := hb (3 * k + 1)
      have b2 := hb (3 * k + 2)
      have k0 := cell_regrown c0
      have k1 := cell_regrown c1
      have k2 := cell_regrown c2
      have hT : threes true l (k + 1) = threes true l k ++ [paiR (l.getD (3 * k) 0) (l.getD (3 * k + 1) 0) (l.getD (3 * k + 2) 0), paiG (l.getD (3 * k) 0) (l.getD (3 * k + 1) 0) (l.getD (3 * k + 2) 0), paiB (l.getD (3 * k) 0) (l.getD (3 * k + 1) 0) (l.getD (3 * k + 2) 0)] := rfl
      have HT := Lib.hid hT
      have hC : Sl .u8 w (some ⟨b, off + 3, none⟩) (l.drop (3 * (k + 1))) := by
        have h := hsl.cut 3
        rw [List.drop_drop] at h
        simpa [add_none, Nat.mul_add] using h
      have HC := Lib.hid hC
      clear hC
      clear hT c0 c1 c2 hcell hb
      generalize l.getD (3 * k) 0 = x0 at *
      generalize l.getD (3 * k + 1) 0 = x1 at *
      generalize l.getD (3 * k + 2) 0 = x2 at *
      have bd := pai_bd x0 x1 x2
      go_wp2_with fail
      refine wp_region_quiet_below (by kernel_rfl) (by kernel_rfl) ?_
      repeat (go_big_quiet_step ((go_at_call 18; exact Calls.regrown_of (paint_any _ _ _ _))))
      refine wpQuiet_nil ?_
      intro W hw'
      have hb2 : Below wr.heap.size wr W := by
        obtain ⟨p, rfl⟩ := hw'
        exact below_regrown wr p.d p.os
      clear hw' k0 k1 k2
      have hown1 : Own .u8 5 W w.heap.size u6 (threes true l k) := hown.keep hb2
      have hbel1 : Below w.heap.size w W := hbel.trans (hb2.mono hbel.size)
      by_cases hc3 : c' = 3
      · subst hc3
        go_wp2_with (at_builtin; go_loud (refine Tin.wpl_app bt _ rfl _ _ rfl w.heap.size u6 (threes true l k) rfl (hown1.alloc _) (some ⟨W.heap.size, 0, none⟩) 3 3 [paiR x0 x1 x2, paiG x0 x1 x2, paiB x0 x1 x2] rfl (Sl.new_ _ _ _ _ rfl) rfl (by rw [threes_len]; simp; omega) (by rw [threes_len]; simp; omega) (by simp; have := hbel1.size; omega) ?_); intro v2 w2 hown2 hg2 _)
        go_roundw
        case rel => exact ⟨k + 1, some ⟨b, off, none⟩, 0, by omega, by rw [show l.length - 3 * (k + 1) = 0 from by omega], by omega, .inl (List.drop_eq_nil_of_le (by omega)), by rw [HT.out]; exact hown2, Own.grown (hown1.alloc _) (hbel1.alloc hbel1.size _) (by simp; have := hbel1.size; omega) hg2⟩
        case measure => show 0 < l.length - 3 * k; omega
      · go_wp2_with (at_builtin; go_loud (refine Tin.wpl_app bt _ rfl _ _ rfl w.heap.size u6 (threes true l k) rfl (hown1.alloc _) (some ⟨W.heap.size, 0, none⟩) 3 3 [paiR x0 x1 x2, paiG x0 x1 x2, paiB x0 x1 x2] rfl (Sl.new_ _ _ _ _ rfl) rfl (by rw [threes_len]; simp; omega) (by rw [threes_len]; simp; omega) (by simp; have := hbel1.size; omega) ?_); intro v2 w2 hown2 hg2 _)
        go_roundw
        case rel => exact ⟨k + 1, some ⟨b, off + 3, none⟩, c' - 3, by omega, by rw [show l.length - 3 * (k + 1) = l.length - 3 * k - 3 from by omega], by omega, HC.out, by rw [HT.out]; exact hown2, Own.grown (hown1.alloc _) (hbel1.alloc hbel1.size _) (by simp; have := hbel1.size; omega) hg2⟩
        case measure => show l.length - 3 * k - 3 < l.length - 3 * k; omega
    · have hE : 3 * k = l.length := by omega
      have hk' : l.length / 3 = k := by omega
      have HE := Lib.hid hk'
      clear hE hk' hb
      go_wp2_with fail
      go_ret
      exact ⟨_, rfl, by rw [HE.out]; exact hown, hbel⟩
end Go.Proofs.Ytknnmgbiondipaa
