/- Rows of planes looked at; pictures compared; the reference's factors and parts. -/
import Derived.Test.YtajobboldjgidaaSmL
namespace Go.Proofs.Ytajobboldjgidaa
open Go.RowKit
open Go.Tin
set_option linter.unusedVariables false
set_option linter.unusedSimpArgs false


theorem any_notP (p : Pn → Bool) {l : List Pn} (h : (l.take l.length).any p = false) : l.any p = false := by rwa [List.take_length] at h
theorem any_nextP (p : Pn → Bool) {l : List Pn} {i : Nat} {x : Pn} (hx : l[i]? = some x) : (l.take (i + 1)).any p = ((l.take i).any p || p x) := by
  rw [take_nextP hx, List.any_append]
  simp
theorem any_atP (p : Pn → Bool) {l : List Pn} {i : Nat} {x : Pn} (hx : l[i]? = some x) (h : p x = true) : l.any p = true := by
  rw [List.any_eq_true]
  exact ⟨x, List.mem_of_getElem? hx, h⟩
def badP (p : Pn) : Bool := !mayP p.W p.H p.v
set_option maxRecDepth 100000 in
theorem paint1_any (W H : Int) (A : Option Addr) (c : Nat) (v : List Int) (w : World) (hs : Sl .i64 w A v) (hn : v.length ≤ 1000000000) : Calls Try.prog 42 #[plA W H A v.length c] w fun e w' => e = .returned (.bool (!mayP W H v)) ∧ Below w.heap.size w w' := by
  obtain ⟨r0, hb, hz⟩ := alloc1 w (.cells (plrow W H A v.length c) 24)
  have R0 := Lib.hid r0
  have HV := Lib.hid (hs.keep hb)
  have HB := Lib.hid hb
  clear hs r0 hb
  go_enter Try.func42, Try.ntmps42
  go_wp2_with ((with_reducible refine wpl_load_row rtP ?_ (.tmp 1) ?_ (w.heap.size) ?_ 24 (plrow W H A v.length c) ?_ R0.out ?_); rfl; rfl; rfl; rfl; simp only [Act.put, List.setIfInBounds_toArray, List.set_cons_succ, List.set_cons_zero])
  refine (right_any W H A c v _ HV.out hn).mono ?_
  rintro e w1 ⟨rfl, hb1⟩
  replace HB := Lib.hid (HB.out.trans (hb1.mono HB.out.size))
  clear hb1
  go_wp2_with fail
  go_ret
  exact ⟨rfl, HB.out⟩
set_option maxRecDepth 100000 in
set_option maxHeartbeats 4000000 in
theorem indexP_any (A : Option Addr) (c : Nat) (L : List Pn) (w : World) (hs : PlS w A L) (hn : L.length ≤ 1000000) :
    Calls Try.prog 58 #[.slice A L.length c, .func (.func 42) #[] #[]] w fun e w' => ∃ r : Int, e = .returned (.int .i64 r) ∧ decide (0 ≤ r) = L.any badP ∧ Below w.heap.size w w' := by
  have HS := Lib.hid hs
  have hcf : ∀ (vs : Array Value) (W : World), (callFunc 42 vs).run Try.prog W = .ok (.enter 42 vs) W := fun _ _ => by rfl
  clear hs
  go_enter Try.func58, Try.ntmps58
  go_wp2_with fail
  go_loopw [8] (fun s8 wr => ∃ (i : Nat), i ≤ L.length ∧ s8 = .int .i64 (i : Int) ∧ (L.take i).any badP = false ∧ Below w.heap.size w wr) (fun s8 _ => L.length - (intOf s8).toNat)
  case atStart => exact ⟨0, by omega, rfl, rfl, Below.refl _ _⟩
  case round =>
    obtain ⟨i, hi, rfl, hno, hb⟩ := hrel
    have HN := Lib.hid hno
    have HB := Lib.hid hb
    clear hno hb
    by_cases hil : i < L.length
    case neg =>
      obtain rfl : i = L.length := by omega
      go_wp2_with fail
      go_ret
      exact ⟨_, rfl, by rw [any_notP badP HN.out]; rfl, HB.out⟩
    have i1 : (i : Int) < (L.length : Int) := by omega
    have HSW := Lib.hid (HS.out.keep HB.out)
    obtain ⟨b, off, rfl, hlt, hc⟩ := HSW.out.at_ (by omega)
    obtain ⟨x, y, d, A1, c1, hx, _, _, _, hrg, hp⟩ := hc i hil
    have HRG := Lib.hid hrg
    have HP := Lib.hid hp
    have HX := Lib.hid hx
    clear hc hrg hp hx
    go_wp2_with ((with_reducible refine wpl_loadv rtP ?_ (.tmp 14) ?_ b (off + i * 3) ?_ [.int .i64 x, .int .i64 y, .slice A1 d.length c1] ?_ HRG.out ?_); rfl; rfl; rfl; rfl; simp only [Act.put, List.setIfInBounds_toArray, List.set_cons_succ, List.set_cons_zero])
    refine (paint1_any x y A1 c1 d _ HP.out.sl.2.1 HP.out.sl.2.2.2).mono ?_
    rintro e w1 ⟨rfl, hb1⟩
    replace HB := Lib.hid (HB.out.trans (hb1.mono HB.out.size))
    clear hb1
    have HE := Lib.hid (show badP ⟨x, y, d⟩ = !mayP x y d from rfl)
    cases hq : mayP x y d with
    | false =>
      rw [hq] at HE
      have HA := Lib.hid (any_atP badP HX.out HE.out)
      clear hq
      go_wp2_with fail
      go_ret
      exact ⟨_, rfl, by rw [HA.out]; simp, HB.out⟩
    | true =>
      rw [hq] at HE
      have HA := Lib.hid (any_nextP badP HX.out)
      clear hq
      go_wp2_with fail
      exact ⟨⟨i + 1, by omega, rfl, by rw [HA.out, HN.out, HE.out]; rfl, HB.out⟩, by simp only [intOf]; omega⟩
set_option maxRecDepth 100000 in
theorem containsP_any (A : Option Addr) (c : Nat) (L : List Pn) (w : World) (hs : PlS w A L) (hn : L.length ≤ 1000000) :
    Calls Try.prog 41 #[.slice A L.length c, .func (.func 42) #[] #[]] w fun e w' => e = .returned (.bool (L.any badP)) ∧ Below w.heap.size w w' := by
  have HI := Lib.hid (indexP_any A c L w hs hn)
  clear hs
  go_enter Try.func41, Try.ntmps41
  go_wp2_with fail
  refine Calls.mono HI.out ?_
  rintro e w' ⟨r, rfl, hr, hb⟩
  have HR := Lib.hid hr
  have HB := Lib.hid hb
  clear hr hb
  go_wp2_with fail
  go_ret
  exact ⟨ret_bool (by rw [HR.out]), HB.out⟩
set_option maxRecDepth 100000 in
set_option maxHeartbeats 4000000 in
theorem rows_eq (A A' : Option Addr) (c c' : Nat) (L : List Pn) (w : World) (hs : PlS w A L) (ht : PlS w A' L) (hn : L.length ≤ 1000000) :
    Calls Try.prog 20 #[.slice A L.length c, .slice A' L.length c'] w fun e w' => e = .returned (.bool true) ∧ Below w.heap.size w w' := by
  have HS := Lib.hid hs
  have HT := Lib.hid ht
  clear hs ht
  go_enter Try.func20, Try.ntmps20
  go_wp2_with fail
  go_loopw [5] (fun s5 wr => ∃ (i : Nat), i ≤ L.length ∧ s5 = .int .i64 (i : Int) ∧ Below w.heap.size w wr) (fun s5 _ => L.length - (intOf s5).toNat)
  case atStart => exact ⟨0, by omega, rfl, Below.refl _ _⟩
  case round =>
    obtain ⟨i, hi, rfl, hb⟩ := hrel
    have HB := Lib.hid hb
    clear hb
    by_cases hil : i < L.length
    case neg =>
      obtain rfl : i = L.length := by omega
      go_wp2_with fail
      go_ret
      exact ⟨rfl, HB.out⟩
    have i1 : (i : Int) < (L.length : Int) := by omega
    have HSW := Lib.hid (HS.out.keep (ud' HB.out))
    have HTW := Lib.hid (HT.out.keep (ud' HB.out))
    obtain ⟨b, off, rfl, hlt, hc⟩ := HSW.out.at_ (by omega)
    obtain ⟨x, y, d, A1, c1, hx, _, _, _, hrg, hp⟩ := hc i hil
    obtain ⟨b', off', rfl, hlt', hc'⟩ := HTW.out.at_ (by omega)
    obtain ⟨x', y', d', A1', c1', hx', _, _, _, hrg', hp'⟩ := hc' i hil
    rw [hx] at hx'
    have e := Option.some.inj hx'
    injection e with e1 e2 e3
    subst e1; subst e2; subst e3
    have HRG := Lib.hid (fun (Y : World) (h : Below wr.heap.size wr.drew Y) => show Y.rangeAt b (off + i * 3) [.int .i64 x, .int .i64 y, .slice A1 d.length c1] from fun j u hj => by rw [h.cell (p := ⟨b, off + i * 3 + j, none⟩) hlt]; exact hrg j u hj)
    have HRH := Lib.hid (fun (Y : World) (h : Below wr.heap.size wr.drew Y) => show Y.rangeAt b' (off' + i * 3) [.int .i64 x, .int .i64 y, .slice A1' d.length c1'] from fun j u hj => by rw [h.cell (p := ⟨b', off' + i * 3 + j, none⟩) hlt']; exact hrg' j u hj)
    have HP := Lib.hid hp
    have HQ := Lib.hid hp'
    have HBD := Lib.hid (ud' HB.out)
    clear hc hrg hp hx hc' hrg' hp' hx'
    go_wp2_with fail
    refine Tin.reg_begin wr.heap.size 10 (by rfl) (by kernel_rfl) ?_
    refine Tin.reg_quiets [0, 1, 2, 3, 4, 5, 6, 7] _ 2 rfl (by simp only [Tin.pick, List.map_cons, List.map_nil, Array.getD_eq_getD_getElem?, List.getElem?_toArray, List.getElem?_cons_zero, List.getElem?_cons_succ, Option.getD_some]; rfl) (by kernel_rfl) (by kernel_rfl) ?_
    repeat (first | ((with_reducible refine wpq_loadv rtP ?_ (.tmp 19) ?_ b (off + i * 3) ?_ [.int .i64 x, .int .i64 y, .slice A1 d.length c1] ?_ (fun Y h => by obtain ⟨p, rfl⟩ := h; exact HRG.out _ p.h) ?_); rfl; rfl; rfl; rfl; simp only [Act.put, List.setIfInBounds_toArray, List.set_cons_succ, List.set_cons_zero]) | ((with_reducible refine wpq_loadv rtP ?_ (.tmp 23) ?_ b' (off' + i * 3) ?_ [.int .i64 x, .int .i64 y, .slice A1' d.length c1'] ?_ (fun Y h => by obtain ⟨p, rfl⟩ := h; exact HRH.out _ p.h) ?_); rfl; rfl; rfl; rfl; simp only [Act.put, List.setIfInBounds_toArray, List.set_cons_succ, List.set_cons_zero]) | go_big_quiet_step (fail))
    refine wpQuiet_nil ?_
    refine Tin.reg_one 8 _ rfl (by kernel_rfl) ?_
    try simp only [List.getElem_toArray, List.getElem_cons_succ, List.getElem_cons_zero]
    go_wp2_with fail
    refine (sameP_any x y x y A1 A1' c1 c1' d d _ HP.out.sl.2.1 HQ.out.sl.2.1 HP.out.sl.2.2.2 HP.out.sl.2.2.2).mono ?_
    rintro e w1 ⟨rfl, hb1⟩
    rw [show sameP x y d x y d = true by unfold sameP; simp]
    go_wp2_with fail
    refine ⟨wr.heap.size, hb1, Nat.le_refl _, ?_⟩
    replace HBD := Lib.hid (HBD.out.trans (hb1.mono HBD.out.size))
    clear hb1
    refine Tin.reg_quiets [9] _ 0 rfl (by simp only [Tin.pick, List.map_cons, List.map_nil, Array.getD_eq_getD_getElem?, List.getElem?_toArray, List.getElem?_cons_zero, List.getElem?_cons_succ, Option.getD_some]; rfl) (by kernel_rfl) (by kernel_rfl) ?_
    repeat (first | go_big_quiet_step (fail))
    refine wpQuiet_nil ?_
    refine Tin.reg_done (by kernel_rfl) ?_
    go_wp2_with fail
    exact ⟨⟨i + 1, by omega, rfl, HBD.out⟩, by simp only [intOf]; omega⟩
/-- Planes of which the lengths are looked at alone. -/
def PtM (v : Value) (d : List Int) : Prop := ∃ A c, v = .slice A d.length c ∧ d.length ≤ 140737488355328
def largeB (L : List Pn) : Bool := (L.any fun p => decide (1500 < p.v.length)) || decide (4 < L.length)
set_option maxRecDepth 100000 in
set_option maxHeartbeats 4000000 in
theorem large_any (A : Option Addr) (c : Nat) (L : List Pn) (xs : List Value) (w : World) (h1 : SlV w A xs) (h2 : PnV PtM xs L) (hn : L.length ≤ 140737488355328) :
    Calls Try.prog 18 #[.slice A L.length c] w fun e w' => e = .returned (.bool (largeB L)) ∧ w = w' := by
  have H1 := Lib.hid h1
  have H2 := Lib.hid h2
  have HR := Lib.hid (show largeB L = ((L.any fun p => decide (1500 < p.v.length)) || decide (4 < L.length)) from rfl)
  clear h1 h2
  go_enter Try.func18, Try.ntmps18
  go_wp2_with fail
  go_loop [3] (fun s3 => ∃ (i : Nat), i ≤ L.length ∧ s3 = .int .i64 (i : Int) ∧ (L.take i).any (fun p => decide (1500 < p.v.length)) = false) (fun s3 => L.length - (intOf s3).toNat)
  case atStart => exact ⟨0, by omega, rfl, rfl⟩
  case round =>
    obtain ⟨i, hi, rfl, hno⟩ := hrel
    have HN := Lib.hid hno
    clear hno
    by_cases hil : i < L.length
    case neg =>
      obtain rfl : i = L.length := by omega
      have HE := Lib.hid (any_notP _ HN.out)
      go_wp2_with fail
      go_ret
      exact ⟨ret_bool (by rw [HR.out, HE.out, Bool.false_or, Bool.eq_iff_iff]; simp; omega), rfl⟩
    have i1 : (i : Int) < (L.length : Int) := by omega
    have hxl := H2.out.len
    obtain ⟨b, off, rfl, hb, hc⟩ := H1.out.at_ (by omega)
    obtain ⟨u, hx, A1, c1, rfl, hu⟩ := H2.out.at_ i hil
    have q2 : w.cell? ⟨b, off + i * 3 + 2, none⟩ = some (.slice A1 (L[i].v).length c1) := by
      have hr := H1.out.rng (i * 3) 3 (by omega)
      rw [hx] at hr
      exact hr 2 _ rfl
    have hli : L[i]? = some L[i] := List.getElem?_eq_getElem hil
    have HNX := Lib.hid (any_nextP (fun p => decide (1500 < p.v.length)) hli)
    have HAT := Lib.hid (fun h => any_atP (fun p => decide (1500 < p.v.length)) hli h)
    clear hc hx hxl hli
    generalize L[i] = x at *
    by_cases hbig : 1500 < x.v.length
    · have HE := Lib.hid (HAT.out (decide_eq_true hbig))
      have j1 : (1500 : Int) < (x.v.length : Int) := by omega
      clear hbig
      go_wp2_with fail
      go_ret
      exact ⟨ret_bool (by rw [HR.out, HE.out, Bool.true_or]), rfl⟩
    · have HE := Lib.hid (decide_eq_false hbig)
      have j1 : (x.v.length : Int) ≤ 1500 := by omega
      clear hbig
      go_wp2_with fail
      go_round
      case rel => exact ⟨i + 1, by omega, by go_num, by rw [HNX.out, HN.out, HE.out]; rfl⟩
      case measure => simp only [intOf]; omega
theorem ptV_eq {n s k : Int} (hs : 1 ≤ s) (h1 : n ≤ k * s) (h2 : k * s ≤ n + s - 1) : ptV n s = k := by
  unfold ptV
  apply Int.le_antisymm
  · apply Int.le_of_lt_add_one
    apply Int.ediv_lt_of_lt_mul (by omega)
    rw [Int.add_mul]
    omega
  · exact (Int.le_ediv_iff_mul_le (by omega)).2 h2
set_option maxRecDepth 100000 in
set_option maxHeartbeats 1000000 in
theorem rparts_any (n s : Int) (w : World) (hn : 0 ≤ n ∧ n ≤ 1000000) (hs : 1 ≤ s ∧ s ≤ 1000) : Calls Try.prog 28 #[.int .i64 n, .int .i64 s] w fun e w' => e = .returned (.int .i64 (ptV n s)) ∧ w = w' := by
  obtain ⟨n0, n1⟩ := hn
  obtain ⟨s0, s1⟩ := hs
  go_enter Try.func28, Try.ntmps28
  go_wp2_with fail
  go_loop [5] (fun s5 => ∃ (k : Nat), s5 = .int .i64 (k : Int) ∧ (k : Int) * s ≤ n + s - 1 ∧ k ≤ 1001000) (fun s5 => 1001001 - (intOf s5).toNat)
  case atStart => exact ⟨0, rfl, by omega, by omega⟩
  case round =>
    obtain ⟨k, rfl, hk, hkb⟩ := hrel
    have m0 : 0 ≤ (k : Int) * s := Int.mul_nonneg (by omega) (by omega)
    have m1 : (k : Int) ≤ (k : Int) * s := by
      have := Int.mul_le_mul_of_nonneg_left s0 (show (0 : Int) ≤ k by omega)
      omega
    by_cases hlt : (k : Int) * s < n
    · have HM := Lib.hid (show ((k + 1 : Nat) : Int) * s = (k : Int) * s + s by rw [Int.natCast_add, Int.add_mul]; simp)
      go_wp2_with fail
      go_round
      case rel => exact ⟨k + 1, by go_num, by rw [HM.out]; omega, by omega⟩
      case measure => simp only [intOf]; omega
    · have HE := Lib.hid (ptV_eq s0 (show n ≤ (k : Int) * s by omega) hk)
      have hge : n ≤ (k : Int) * s := by omega
      clear hlt
      go_wp2_with fail
      go_ret
      exact ⟨ret_int HE.out.symm, rfl⟩
theorem rfactors_any (k : Int) (w : World) : Calls Try.prog 25 #[.int .i64 k] w fun e w' => e = .returned (.tuple #[.int .i64 (fH k), .int .i64 (fV k)]) ∧ w = w' := by
  by_cases h1 : k = 1
  · subst h1
    go_enter Try.func25, Try.ntmps25
    go_wp2_with fail
    go_ret2
    exact ⟨rfl, rfl⟩
  by_cases h2 : k = 2
  · subst h2
    go_enter Try.func25, Try.ntmps25
    go_wp2_with fail
    go_ret2
    exact ⟨rfl, rfl⟩
  by_cases h3 : k = 3
  · subst h3
    go_enter Try.func25, Try.ntmps25
    go_wp2_with fail
    go_ret2
    exact ⟨rfl, rfl⟩
  have HE := Lib.hid (show fH k = 0 ∧ fV k = 0 by unfold fH fV; simp only [if_neg h1, if_neg h2, if_neg h3]; simp)
  have j1 : (k == 1) = false := by simpa using h1
  have j2 : (k == 2) = false := by simpa using h2
  have j3 : (k == 3) = false := by simpa using h3
  go_enter Try.func25, Try.ntmps25
  go_wp2_with fail
  go_ret2
  exact ⟨by rw [HE.out.1, HE.out.2]; rfl, rfl⟩
abbrev rsA (W H : Int) (A : Option Addr) (n c : Nat) : Value := .agg #[.int .i64 W, .int .i64 H, .slice A n c]
abbrev rsrow (W H : Int) (A : Option Addr) (n c : Nat) : Array Value := #[.int .i64 W, .int .i64 H, .slice A n c]
theorem rtR : RT Try.prog 44 3 := RT.of Try.underlying44 rfl (by kernel_rfl)
set_option maxRecDepth 100000 in
set_option maxHeartbeats 1000000 in
theorem sameR_eq (W H : Int) (A A' : Option Addr) (l : List Int) (c c' : Nat) (w : World) (hs : Sl .u8 w A l) (hs' : Sl .u8 w A' l) :
    Calls Try.prog 22 #[rsA W H A l.length c, rsA W H A' l.length c'] w fun e w' => e = .returned (.bool true) ∧ Below w.heap.size w w' := by
  have h1 : ∀ Wd : World, Below w.heap.size w Wd → (convert 42 9 (.slice A l.length c)).run Try.prog Wd = .ok (.string (strOf l)) Wd := fun Wd hb => str_bel Try.underlying42 Try.underlying5 Try.underlying9 hs hb _ _ rfl
  have h2 : ∀ Wd : World, Below w.heap.size w Wd → (convert 42 9 (.slice A' l.length c')).run Try.prog Wd = .ok (.string (strOf l)) Wd := fun Wd hb => str_bel Try.underlying42 Try.underlying5 Try.underlying9 hs' hb _ _ rfl
  have hb0 := ba (ba (brefl w) (.cells (rsrow W H A l.length c) 44)) (.cells (rsrow W H A' l.length c') 44)
  have k1 := h1 _ hb0
  have k2 := h2 _ hb0
  clear h1 h2 hs hs'
  generalize strOf l = s at *
  go_enter Try.func22, Try.ntmps22
  go_wp2_with fail
  go_ret
  exact ⟨rfl, hb0⟩
end Go.Proofs.Ytajobboldjgidaa
