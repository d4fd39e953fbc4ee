/- The law ColourAll of the law file, walked: it returns true for any bytes. No condition beyond the types. -/
import Derived.Test.YtknnmgbiondipaaH
namespace Go.Proofs.Ytknnmgbiondipaa
open Go.RowKit
open Go.Tin
set_option linter.unusedVariables false

theorem zeroU8 : ∀ w, (zeroValue 5).run Try.prog w = .ok (.int .u8 0) w := fun w => by kernel_rfl

/-- Bytes. -/
def AllB (l : List Int) : Prop := ∀ i, 0 ≤ l.getD i 0 ∧ l.getD i 0 ≤ 255
theorem allB_of_wf {l : List Int} (h : ∀ n ∈ l, (Lit.int .u8 n).wf = true) : AllB l := by
  intro i
  by_cases hi : i < l.length
  · rw [List.getD_eq_getElem?_getD, List.getElem?_eq_getElem hi]
    exact bounds_u8 (h _ (List.getElem_mem hi))
  · rw [List.getD_eq_getElem?_getD, List.getElem?_eq_none (by omega)]
    exact ⟨by decide, by decide⟩

/-- All, whatever the bytes and the way. -/
theorem all_any (A : Option Addr) (c : Nat) (l : List Int) (p : Bool) (w : World) (hr : Sl .u8 w A l) (hc : l.length ≤ c) (hl : l.length ≤ 1000000) (hb : AllB l) :
    Calls Try.prog 14 #[.slice A l.length c, .bool p] w (AllPost w (allOf p l)) := by
  unfold allOf
  split
  · rename_i h3
    cases p
    · exact all_luma A c l w hr hc hl hb h3
    · exact all_paint A c l w hr hc hl hb h3
  · rename_i h3
    refine (all_no A l.length c p w hl (by simp; omega)).mono ?_
    rintro e w' ⟨rfl, rfl⟩
    exact ⟨_, rfl, Own.nil_ _ _ _ _, Below.refl _ _⟩
theorem rall_no (A : Option Addr) (n c : Nat) (p : Bool) (w : World) (hn : n ≤ 1000000) (h : ((n : Int) % 3 != 0) = true) :
    Calls Try.prog 15 #[.slice A n c, .bool p] w fun e w' => e = .returned (.slice none 0 0) ∧ w = w' := by
  go_enter Try.func15, Try.ntmps15
  go_wp2
  go_ret
  exact ⟨rfl, rfl⟩
theorem rall_any (A : Option Addr) (c : Nat) (l : List Int) (p : Bool) (w : World) (hr : Sl .u8 w A l) (hc : l.length ≤ c) (hl : l.length ≤ 1000000) (hb : AllB l) :
    Calls Try.prog 15 #[.slice A l.length c, .bool p] w (AllPost w (allOf p l)) := by
  unfold allOf
  split
  · rename_i h3
    cases p
    · exact rall_luma A c l w hr hc hl hb h3
    · exact rall_paint A c l w hr hc hl hb h3
  · rename_i h3
    refine (rall_no A l.length c p w hl (by simp; omega)).mono ?_
    rintro e w' ⟨rfl, rfl⟩
    exact ⟨_, rfl, Own.nil_ _ _ _ _, Below.refl _ _⟩

theorem walkAll (A : Option Addr) (len c : Nat) (zs : List Int) (w : World) (h : IsRow .u8 w A len c zs) :
    Calls Try.prog 4 #[.slice A len c] w fun e w' => e = .returned (.bool true) ∧ Below w.heap.size w w' := by
  obtain ⟨hr, hlen, hc, hm, hwf⟩ := Sl.of_row h
  clear h
  generalize zs.take len = l at *
  subst hlen
  have hb := allB_of_wf hwf
  clear hwf
  by_cases h300 : 300 < l.length
  · go_enter Try.func4, Try.ntmps4
    go_wp2_with fail
    refine (awake_any _).mono ?_
    rintro e w1 ⟨rfl, hb1⟩
    go_wp2_with fail
    go_ret
    exact ⟨rfl, hb1⟩
  · have h30 : l.length ≤ 300 := by omega
    go_enter Try.func4, Try.ntmps4
    go_wp2_with (at_builtin; go_loud (refine Tin.wpl_app bt _ rfl _ _ rfl w.heap.size (.slice (some ⟨w.heap.size, 0, none⟩) 0 0) [] rfl (Own.new0 w) A l.length c l rfl (hr.keep ((Below.refl _ _).alloc (Nat.le_refl _) _)) rfl (by simp; omega) (by simp; omega) (by simp) ?_); intro v1 w1 hown1 hg1 _)
    simp only [List.nil_append] at hown1
    have hb1 : Below w.heap.size w w1 := Own.grown (k := .u8) (e := 5) (l := []) (Own.new0 w) ((Below.refl _ _).alloc (Nat.le_refl _) _) (by simp) hg1
    clear hg1
    obtain ⟨A1, c1, rfl, hs1, hc1, hm1, _⟩ := hown1.sl
    refine (all_any A1 c1 l false w1 hs1 hc1 (by omega) hb).mono ?_
    rintro e w2 ⟨v2, rfl, hown2, hb2⟩
    go_wp2_with fail
    refine (all_any A1 c1 l true w2 (hs1.keep hb2) hc1 (by omega) hb).mono ?_
    rintro e w3 ⟨v3, rfl, hown3, hb3⟩
    obtain ⟨A2, c2, rfl, hs2, hc2, hm2, _⟩ := hown2.sl
    obtain ⟨A3, c3, rfl, hs3, hc3, hm3, _⟩ := hown3.sl
    go_wp2_with fail
    have kA : ∀ (W : World) (n c : Nat), Below w3.heap.size w3 W → n = (allOf false l).length → (convert 27 9 (.slice A2 n c)).run Try.prog W = .ok (.string (strOf (allOf false l))) W := fun W n c hB hn => str_bel Try.underlying27 Try.underlying5 Try.underlying9 (hs2.keep hb3) hB n c hn
    have q1 : ∀ p : Bel w3.heap.size w3.drew, (convert 27 9 (.slice A2 (allOf false l).length c2)).run Try.prog p.w' = .ok (.string (strOf (allOf false l))) p.w' := fun p => kA _ _ _ ⟨p.h.os, p.h.tape, p.h.output, p.h.size, p.h.block⟩ rfl
    clear kA
    refine Tin.reg_begin w3.heap.size 15 (by rfl) (by kernel_rfl) ?_
    refine Tin.reg_quiets [0, 1, 2] _ 12 rfl (by simp only [Tin.pick, List.map_cons, List.map_nil, Array.getD_eq_getD_getElem?, List.getElem?_toArray, List.getElem?_cons_zero, List.getElem?_cons_succ, Option.getD_some]; rfl) (by kernel_rfl) (by kernel_rfl) ?_
    repeat (go_big_quiet_step (fail))
    refine wpQuiet_nil ?_
    clear q1
    refine Tin.reg_one 3 _ rfl (by kernel_rfl) ?_
    have hbw3 : Below w.heap.size w w3 := Tin.bt (Tin.bt hb1 hb2) hb3
    go_wp2_with (go_at_call 15; refine (rall_any A c l false _ (hr.keep hbw3.drew) hc (by omega) hb).mono ?_; rintro e w4 ⟨v4, rfl, hown4, hb4⟩)
    have hb4' : Below w3.heap.size w3 w4 := ⟨hb4.os, hb4.tape, hb4.output, hb4.size, hb4.block⟩
    obtain ⟨A4, c4, rfl, hs4, hc4, hm4, _⟩ := hown4.sl
    refine ⟨w4.heap.size, hb4, hb4.size, ?_⟩
    have q2 : ∀ p : Bel w4.heap.size w4, (convert 27 9 (.slice A4 (allOf false l).length c4)).run Try.prog p.w' = .ok (.string (strOf (allOf false l))) p.w' := fun p => str_bel Try.underlying27 Try.underlying5 Try.underlying9 hs4 p.h _ _ rfl
    have q3 : ∀ p : Bel w4.heap.size w4, (convert 27 9 (.slice A3 (allOf true l).length c3)).run Try.prog p.w' = .ok (.string (strOf (allOf true l))) p.w' := fun p => str_bel Try.underlying27 Try.underlying5 Try.underlying9 (hs3.keep hb4') p.h _ _ rfl
    refine Tin.reg_quiets [4, 5, 6, 7, 8, 9] _ 5 rfl (by simp only [Tin.pick, List.map_cons, List.map_nil, Array.getD_eq_getD_getElem?, List.getElem?_toArray, List.getElem?_cons_zero, List.getElem?_cons_succ, Option.getD_some]; rfl) (by kernel_rfl) (by kernel_rfl) ?_
    repeat (go_big_quiet_step (fail))
    refine wpQuiet_nil ?_
    clear q2 q3
    refine Tin.reg_one 10 _ rfl (by kernel_rfl) ?_
    go_wp2_with (go_at_call 15; refine (rall_any A c l true _ (hr.keep (Tin.bt hbw3 hb4')) hc (by omega) hb).mono ?_; rintro e w5 ⟨v5, rfl, hown5, hb5⟩)
    obtain ⟨A5, c5, rfl, hs5, hc5, hm5, _⟩ := hown5.sl
    refine ⟨w5.heap.size, hb5, hb5.size, ?_⟩
    have q4 : ∀ p : Bel w5.heap.size w5, (convert 27 9 (.slice A5 (allOf true l).length c5)).run Try.prog p.w' = .ok (.string (strOf (allOf true l))) p.w' := fun p => str_bel Try.underlying27 Try.underlying5 Try.underlying9 hs5 p.h _ _ rfl
    refine Tin.reg_quiets [11, 12, 13, 14] _ 0 rfl (by simp only [Tin.pick, List.map_cons, List.map_nil, Array.getD_eq_getD_getElem?, List.getElem?_toArray, List.getElem?_cons_zero, List.getElem?_cons_succ, Option.getD_some]; rfl) (by kernel_rfl) (by kernel_rfl) ?_
    repeat (go_big_quiet_step (fail))
    refine wpQuiet_nil ?_
    refine Tin.reg_done (by kernel_rfl) ?_
    clear q4
    have hb35 : Below w3.heap.size w3 w5 := Tin.bt hb4' hb5
    have o2 : Own .u8 5 w5 w1.heap.size (.slice A2 (allOf false l).length c2) (allOf false l) := (hown2.keep hb3).keep hb35
    have o3 : Own .u8 5 w5 w2.heap.size (.slice A3 (allOf true l).length c3) (allOf true l) := hown3.keep hb35
    have o1 : Own .u8 5 w5 w.heap.size (.slice A1 l.length c1) l := ((hown1.keep hb2).keep hb3).keep hb35
    have ap32 := Own.apart hown2 o3 (Nat.le_refl _)
    have ap12 := Own.apart' hown1 o2 (Nat.le_refl _)
    have ap13 := Own.apart' hown1 o3 hb2.size
    have hbw5 : Below w.heap.size w w5 := Tin.bt hbw3 hb35
    have bw5 : w.heap.size ≤ w1.heap.size := hb1.size
    clear hown2 hown3 hown4 hown5 hb4 hb4' hb5 hs4 hs5 hs2 hs3
    go_wp2_with (first | (with_reducible refine Tin.wpl_clear bt zeroU8 w5 rfl (.tmp 32) rfl w1.heap.size (.slice A2 (allOf false l).length c2) (allOf false l) rfl o2 ?_; intro w6 hg6; have o3' := o3.kept hg6 ap32; have o1' := o1.kept hg6 ap12; have hb6 := Own.grown (o2.mono bw5) hbw5 hbw5.size hg6; clear o2 o3 o1 hg6 hbw5) | (with_reducible refine Tin.wpl_clear bt zeroU8 w6 rfl (.tmp 33) rfl w2.heap.size (.slice A3 (allOf true l).length c3) (allOf true l) rfl o3' ?_; intro w7 hg7; have o1'' := o1'.kept hg7 ap13; have hb7 := Own.grown (o3'.mono (Nat.le_trans bw5 hb2.size)) hb6 hb6.size hg7; clear o3' o1' hg7 hb6; have s1 := str_run (w := w7) Try.underlying27 Try.underlying5 Try.underlying9 o1''.sl'.2 l.length c1 rfl; have s2 := str_bel Try.underlying27 Try.underlying5 Try.underlying9 hr hb7 l.length c rfl))
    refine (awake_any _).mono ?_
    rintro e w8 ⟨rfl, hb8⟩
    go_wp2_with fail
    go_ret
    exact ⟨rfl, Tin.bt hb7 hb8⟩
end Go.Proofs.Ytknnmgbiondipaa
