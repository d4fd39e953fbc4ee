/- The walk of OctetGets. -/
import Derived.Test.YtpjdhjkbfdmgpaaOcN
namespace Go.Proofs.Ytpjdhjkbfdmgpaa
open Go.RowKit
open Go.Tin
set_option linter.unusedVariables false
set_option linter.unusedSimpArgs false


theorem zero8 : ∀ w, (zeroValue 5).run Try.prog w = .ok (.int .u8 0) w := by intro w; kernel_rfl
set_option maxRecDepth 100000 in
set_option maxHeartbeats 4000000 in
theorem gets_any (A : Option Addr) (len cap : Nat) (zs : List Int) (a s o : Int) (w : World) (hr : IsRow .u8 w A len cap zs) (wa : (Lit.int .i64 a).wf = true) (wsz : (Lit.int .i64 s).wf = true) (wo : (Lit.int .i64 o).wf = true) :
    Calls Try.prog 3 #[.slice A len cap, .int .i64 a, .int .i64 s, .int .i64 o] w fun e w' => e = .returned (.bool true) ∧ Below w.heap.size w w' := by
  obtain ⟨hs, hlen, hlc, hcm, hwf⟩ := Sl.of_row hr
  have hby := byts_wf hwf
  generalize zs.take len = l at *
  subst hlen
  clear hwf hr hlc wa wsz wo
  unfold maxLen at hcm
  have HS := Lib.hid hs
  have HB := Lib.hid hby
  clear hs hby
  by_cases h300 : 300 < l.length
  · have h3 : (300 : Int) < (l.length : Int) := by omega
    go_enter Try.func3, Try.ntmps3
    go_wp2_with fail
    refine (awake_any w).mono ?_
    rintro e w1 ⟨rfl, hb⟩
    go_wp2_with fail
    go_ret
    exact ⟨rfl, hb⟩
  · have h3 : (l.length : Int) ≤ 300 := by omega
    go_enter Try.func3, Try.ntmps3
    go_wp2_with fail
    refine (own_any A l cap w HS.out (by omega)).mono ?_
    rintro e w1 ⟨A1, c1, rfl, ho1, hB⟩
    have S1 := Lib.hid ho1.sl'.2
    clear ho1
    have hC := brefl w1
    go_wp2_with fail
    refine (get_any A1 l c1 a s o w1 S1.out (by omega) HB.out).mono ?_
    rintro e w2 ⟨rfl, hb⟩
    replace hC := bt hC hb
    clear hb
    go_wp2_with fail
    refine (rget_any A l cap a s o w2 (HS.out.keep (bt hB hC)) (by omega) HB.out).mono ?_
    rintro e w3 ⟨rfl, hb⟩
    replace hC := bt hC hb
    clear hb
    go_wp2_with fail
    refine (turn_any A1 l c1 s o w3 (S1.out.keep hC) (by omega)).mono ?_
    rintro e w4 ⟨A4, c4, rfl, ho4, hb4⟩
    have HO4 := Lib.hid ho4
    clear ho4
    have hD := brefl w4
    go_wp2_with fail
    refine (rturn_any A l cap s o w4 (HS.out.keep (bt hB (bt hC hb4))) (by omega)).mono ?_
    rintro e w5 ⟨A5, c5, rfl, ho5, hb5⟩
    have HS5 := Lib.hid ho5.sl'.2
    clear ho5
    replace hD := bt hD hb5
    clear hb5
    have hL : (turnL l s o).length ≤ 300 := by
      unfold turnL
      split <;> simp
      omega
    go_wp2_with fail
    refine (same_any A4 A5 (turnL l s o) (turnL l s o) c4 c5 w5 (HO4.out.sl'.2.keep hD) HS5.out (by omega) (by omega)).mono ?_
    rw [show decide (turnL l s o = turnL l s o) = true by simp]
    rintro e w6 ⟨rfl, hb6⟩
    replace hD := bt hD hb6
    clear hb6 HS5
    have HO6 := Lib.hid (HO4.out.keep hD)
    have hE := bt hb4 hD
    clear HO4 hD hb4
    go_wp2_with ((with_reducible refine Tin.wpl_clear bt5 zero8 w6 ?_ (.tmp 58) ?_ w3.heap.size _ _ ?_ HO6.out ?_); rfl; rfl; rfl; intro w7 hg7; simp only [Act.put])
    have hE7 : Below w3.heap.size w3 w7 := HO6.out.grown hE hE.size hg7
    replace hC := bt hC hE7
    clear hg7 HO6 hE hE7
    go_wp2_with fail
    refine (same_any A1 A l l c1 cap w7 (S1.out.keep hC) (HS.out.keep (bt hB hC)) (by omega) (by omega)).mono ?_
    rw [show decide (l = l) = true by simp]
    rintro e w8 ⟨rfl, hb8⟩
    replace hB := bt (bt hB hC) hb8
    clear hC hb8 S1
    go_wp2_with fail
    refine (awake_any w8).mono ?_
    rintro e w9 ⟨rfl, hb9⟩
    go_wp2_with fail
    go_ret
    exact ⟨rfl, bt hB hb9⟩
end Go.Proofs.Ytpjdhjkbfdmgpaa
