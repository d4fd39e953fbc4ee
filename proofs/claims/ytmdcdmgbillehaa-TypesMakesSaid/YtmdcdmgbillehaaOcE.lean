/- The contract of Reverse: a part of a row of the call's own is turned. -/
import Derived.Test.YtmdcdmgbillehaaOcC
import Derived.Maps.RangeWalk
import Derived.Maps.AppendAt
namespace Go.Proofs.Ytmdcdmgbillehaa
open Go.RowKit
open Go.Tin
set_option linter.unusedVariables false
set_option linter.unusedSimpArgs false


/-- A row of which a part is turned, so far from both of its ends. -/
def revP (l : List Int) (off n t : Nat) : List Int := (List.range l.length).map fun q => if off ≤ q ∧ q < off + n ∧ (q < off + t ∨ off + n ≤ q + t) then nth l (off + (off + n) - 1 - q) else nth l q
def revF (l : List Int) (off n : Nat) : List Int := revP l off n n
@[simp] theorem revP_len (l : List Int) (off n t : Nat) : (revP l off n t).length = l.length := by simp [revP]
theorem revP_nth (l : List Int) (off n t q : Nat) (hq : q < l.length) : nth (revP l off n t) q = if off ≤ q ∧ q < off + n ∧ (q < off + t ∨ off + n ≤ q + t) then nth l (off + (off + n) - 1 - q) else nth l q := by
  conv => lhs; unfold nth revP
  simp [List.getD_eq_getElem?_getD, hq]
theorem revP_zero (l : List Int) (off n : Nat) : revP l off n 0 = l := by
  refine ext_nth (by simp) fun i hi => ?_
  rw [revP_len] at hi
  rw [revP_nth l off n 0 i hi, if_neg (by omega)]
theorem revP_step (l : List Int) (off n t : Nat) (h : t + t + 1 < n) (hfit : off + n ≤ l.length) : ((revP l off n t).set (off + t) (nth l (off + (n - 1 - t)))).set (off + (n - 1 - t)) (nth l (off + t)) = revP l off n (t + 1) := by
  refine ext_nth (by simp) fun i hi => ?_
  simp only [List.length_set, revP_len] at hi
  rw [nth_set _ _ _ _ (by simp; omega), nth_set _ _ _ _ (by simp; omega), revP_nth l off n t i hi, revP_nth l off n (t + 1) i hi]
  by_cases h1 : i = off + (n - 1 - t)
  · rw [if_pos h1, if_pos (by omega)]
    congr 1
    omega
  · rw [if_neg h1]
    by_cases h2 : i = off + t
    · rw [if_pos h2, if_pos (by omega)]
      congr 1
      omega
    · rw [if_neg h2]
      by_cases h3 : off ≤ i ∧ i < off + n ∧ (i < off + t ∨ off + n ≤ i + t)
      · rw [if_pos h3, if_pos (by omega)]
      · rw [if_neg h3, if_neg (by omega)]
theorem revP_end (l : List Int) (off n t : Nat) (h : n ≤ t + t + 1) : revP l off n t = revF l off n := by
  refine ext_nth (by simp [revF]) fun i hi => ?_
  rw [revP_len] at hi
  unfold revF
  rw [revP_nth l off n t i hi, revP_nth l off n n i hi]
  by_cases h1 : off ≤ i ∧ i < off + n
  · rw [if_pos (show off ≤ i ∧ i < off + n ∧ (i < off + n ∨ off + n ≤ i + n) by omega)]
    by_cases h2 : i < off + t ∨ off + n ≤ i + t
    · rw [if_pos ⟨h1.1, h1.2, h2⟩]
    · rw [if_neg (by omega)]
      congr 1
      omega
  · rw [if_neg (by omega), if_neg (by omega)]
theorem revP_old (l : List Int) (off n t q : Nat) (hq : off + q < l.length) (h1 : t ≤ q) (h2 : q + t < n) : nth (revP l off n t) (off + q) = nth l (off + q) := by
  rw [revP_nth l off n t _ hq, if_neg (by omega)]
theorem gd {w w' : World} {r : Option Nat} (h : w.grownBy w' r) : w.grownBy w'.drew r := ⟨h.os, h.tape, h.output, h.size, h.block⟩
theorem gb0 {w w' : World} {r : Option Nat} (h : w.grownBy w' r) : Below 0 w w' := ⟨h.os, h.tape, h.output, h.size, fun k hk => absurd hk (Nat.not_lt_zero _)⟩

set_option maxRecDepth 100000 in
set_option maxHeartbeats 4000000 in
theorem rev_any (B g m c0 off n c : Nat) (l : List Int) (w : World) (hown : Own .u8 5 w B (.slice (some ⟨g, 0, none⟩) m c0) l) (hfit : off + n ≤ l.length) (hn : n ≤ c) (hl : l.length ≤ 1000000000) :
    Calls Try.prog 68 #[.slice (some ⟨g, off, none⟩) n c] w fun e w' => e = .returned (.tuple #[]) ∧ Own .u8 5 w' B (.slice (some ⟨g, 0, none⟩) m c0) (revF l off n) ∧ w.grownBy w' (some g) ∧ w'.heap.size = w.heap.size := by
  have HO := Lib.hid hown
  clear hown
  go_enter Try.func68, Try.ntmps68
  go_wp2_with fail
  go_loopw [2, 3] (fun s2 s3 wr => ∃ (t : Nat) (j : Int), t ≤ n ∧ s2 = .int .i64 (t : Int) ∧ s3 = .int .i64 j ∧ j = (n : Int) - 1 - (t : Int) ∧ (t = 0 ∨ t + t ≤ n) ∧ Own .u8 5 wr B (.slice (some ⟨g, 0, none⟩) m c0) (revP l off n t) ∧ w.grownBy wr (some g) ∧ wr.heap.size = w.heap.size) (fun s2 _ _ => n - (intOf s2).toNat)
  case atStart => exact ⟨0, _, by omega, rfl, rfl, by omega, .inl rfl, by rw [revP_zero]; exact HO.out, World.grownBy.refl w _, rfl⟩
  case round =>
    obtain ⟨t, j, ht, rfl, rfl, hj, ht2, ho, hg, hz⟩ := hrel
    by_cases hlt : t + t + 1 < n
    · obtain ⟨J, rfl⟩ := Int.eq_ofNat_of_zero_le (show 0 ≤ j by omega)
      have hJ : J = n - 1 - t := by omega
      have j1 : (t : Int) < (J : Int) := by omega
      have jn : (J : Int) < (n : Int) := by omega
      have tn : (t : Int) < (n : Int) := by omega
      have k0 := ho.cell_ (off + t) (by simp; omega)
      have k1 := ho.cell_ (off + J) (by simp; omega)
      rw [revP_old l off n t t (by omega) (by omega) (by omega)] at k0
      rw [revP_old l off n t J (by omega) (by omega) (by omega)] at k1
      have HR := Lib.hid ho
      have HG := Lib.hid hg
      have HZ := Lib.hid hz
      have HJ := Lib.hid hJ
      clear ho hg hz hJ hj ht2
      go_wp2_with fail
      refine Tin.reg_begin 0 16 (by rfl) (by kernel_rfl) ?_
      refine Tin.reg_quiets [0, 1, 2, 3, 4, 5, 6, 8, 9, 10] _ 6 rfl (by simp only [Tin.pick, List.map_cons, List.map_nil, Array.getD_eq_getD_getElem?, List.getElem?_toArray, List.getElem?_cons_zero, List.getElem?_cons_succ, Option.getD_some]; rfl) (by kernel_rfl) (by kernel_rfl) ?_
      repeat (first | go_big_quiet_step (fail))
      refine wpQuiet_nil ?_
      refine Tin.reg_two 7 11 _ _ rfl rfl (by kernel_rfl) ?_ ?_
      · go_wp2_with fail
        refine ⟨0, Below.refl _ _, Nat.le_refl _, ?_⟩
        refine Tin.reg_one 11 _ rfl (by kernel_rfl) ?_
        try simp only [List.getElem_toArray, List.getElem_cons_succ, List.getElem_cons_zero]
        go_wp2_with fail
        refine ⟨0, Below.refl _ _, Nat.le_refl _, ?_⟩
        refine Tin.reg_quiets [12] _ 3 rfl (by simp only [Tin.pick, List.map_cons, List.map_nil, Array.getD_eq_getD_getElem?, List.getElem?_toArray, List.getElem?_cons_zero, List.getElem?_cons_succ, Option.getD_some]; rfl) (by kernel_rfl) (by kernel_rfl) ?_
        repeat (first | go_big_quiet_step (fail))
        refine wpQuiet_nil ?_
        refine Tin.reg_one 13 _ rfl (by kernel_rfl) ?_
        try simp only [List.getElem_toArray, List.getElem_cons_succ, List.getElem_cons_zero]
        refine Tin.wpl_set bt5 _ rfl (.tmp 26) (.tmp 21) rfl B g m c0 _ HR.out.drew (off + t) (by simp; omega) (nth l (off + J)) rfl rfl ?_
        intro w2 ho2 hg2 hz2
        simp only [Act.put]
        refine ⟨0, gb0 hg2, Nat.le_refl _, ?_⟩
        refine Tin.reg_quiets [14] _ 1 rfl (by simp only [Tin.pick, List.map_cons, List.map_nil, Array.getD_eq_getD_getElem?, List.getElem?_toArray, List.getElem?_cons_zero, List.getElem?_cons_succ, Option.getD_some]; rfl) (by kernel_rfl) (by kernel_rfl) ?_
        repeat (first | go_big_quiet_step (fail))
        refine wpQuiet_nil ?_
        refine Tin.reg_one 15 _ rfl (by kernel_rfl) ?_
        try simp only [List.getElem_toArray, List.getElem_cons_succ, List.getElem_cons_zero]
        refine Tin.wpl_set bt5 _ rfl (.tmp 27) (.tmp 25) rfl B g m c0 _ ho2 (off + J) (by simp; omega) (nth l (off + t)) rfl rfl ?_
        intro w3 ho3 hg3 hz3
        simp only [Act.put]
        refine ⟨0, gb0 hg3, Nat.le_refl _, ?_⟩
        refine Tin.reg_done (by kernel_rfl) ?_
        have HO3 := Lib.hid (show Own .u8 5 w3 B (.slice (some ⟨g, 0, none⟩) m c0) (revP l off n (t + 1)) by rw [← revP_step l off n t (by omega) hfit]; rw [HJ.out] at ho3; exact ho3)
        have HG3 := Lib.hid ((gd HG.out).trans (hg2.trans hg3))
        have HZ3 := Lib.hid (show w3.heap.size = w.heap.size from hz3.trans (hz2.trans HZ.out))
        clear ho3 ho2 hg2 hg3 hz2 hz3 HR
        go_wp2_with fail
        go_roundw
        case rel => exact ⟨t + 1, _, by omega, by go_num, rfl, by have := HJ.out; omega, .inr (by omega), HO3.out, HG3.out, HZ3.out⟩
        case measure => simp [intOf]; omega
      · go_wp2_with fail
        refine ⟨0, Below.refl _ _, Nat.le_refl _, ?_⟩
        refine Tin.reg_one 7 _ rfl (by kernel_rfl) ?_
        try simp only [List.getElem_toArray, List.getElem_cons_succ, List.getElem_cons_zero]
        go_wp2_with fail
        refine ⟨0, Below.refl _ _, Nat.le_refl _, ?_⟩
        refine Tin.reg_quiets [12] _ 3 rfl (by simp only [Tin.pick, List.map_cons, List.map_nil, Array.getD_eq_getD_getElem?, List.getElem?_toArray, List.getElem?_cons_zero, List.getElem?_cons_succ, Option.getD_some]; rfl) (by kernel_rfl) (by kernel_rfl) ?_
        repeat (first | go_big_quiet_step (fail))
        refine wpQuiet_nil ?_
        refine Tin.reg_one 13 _ rfl (by kernel_rfl) ?_
        try simp only [List.getElem_toArray, List.getElem_cons_succ, List.getElem_cons_zero]
        refine Tin.wpl_set bt5 _ rfl (.tmp 26) (.tmp 21) rfl B g m c0 _ HR.out.drew (off + t) (by simp; omega) (nth l (off + J)) rfl rfl ?_
        intro w2 ho2 hg2 hz2
        simp only [Act.put]
        refine ⟨0, gb0 hg2, Nat.le_refl _, ?_⟩
        refine Tin.reg_quiets [14] _ 1 rfl (by simp only [Tin.pick, List.map_cons, List.map_nil, Array.getD_eq_getD_getElem?, List.getElem?_toArray, List.getElem?_cons_zero, List.getElem?_cons_succ, Option.getD_some]; rfl) (by kernel_rfl) (by kernel_rfl) ?_
        repeat (first | go_big_quiet_step (fail))
        refine wpQuiet_nil ?_
        refine Tin.reg_one 15 _ rfl (by kernel_rfl) ?_
        try simp only [List.getElem_toArray, List.getElem_cons_succ, List.getElem_cons_zero]
        refine Tin.wpl_set bt5 _ rfl (.tmp 27) (.tmp 25) rfl B g m c0 _ ho2 (off + J) (by simp; omega) (nth l (off + t)) rfl rfl ?_
        intro w3 ho3 hg3 hz3
        simp only [Act.put]
        refine ⟨0, gb0 hg3, Nat.le_refl _, ?_⟩
        refine Tin.reg_done (by kernel_rfl) ?_
        have HO3 := Lib.hid (show Own .u8 5 w3 B (.slice (some ⟨g, 0, none⟩) m c0) (revP l off n (t + 1)) by rw [← revP_step l off n t (by omega) hfit]; rw [HJ.out] at ho3; exact ho3)
        have HG3 := Lib.hid ((gd HG.out).trans (hg2.trans hg3))
        have HZ3 := Lib.hid (show w3.heap.size = w.heap.size from hz3.trans (hz2.trans HZ.out))
        clear ho3 ho2 hg2 hg3 hz2 hz3 HR
        go_wp2_with fail
        go_roundw
        case rel => exact ⟨t + 1, _, by omega, by go_num, rfl, by have := HJ.out; omega, .inr (by omega), HO3.out, HG3.out, HZ3.out⟩
        case measure => simp [intOf]; omega
    · have hj1 : j ≤ (t : Int) := by omega
      rw [revP_end l off n t (by omega)] at ho
      have HR := Lib.hid ho
      have HG := Lib.hid hg
      have HZ := Lib.hid hz
      clear ho hg hz hj ht2
      go_wp2_with fail
      exact bodyPost_end (by simp [results, go_sem]) rfl ⟨rfl, HR.out, HG.out, HZ.out⟩
end Go.Proofs.Ytmdcdmgbillehaa
