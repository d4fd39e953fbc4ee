/- Rows of segments compared; vast. -/
import Derived.Test.YtfohajgljjffgaaMkG
namespace Go.Proofs.Ytfohajgljjffgaa
open Go.RowKit
open Go.Tin
set_option linter.unusedVariables false
set_option linter.unusedSimpArgs false


theorem PtS.sl {w : World} {A : Option Addr} {n c : Nat} {d : List Int} (h : PtS w (.slice A n c) d) : n = d.length ∧ Sl .u8 w A d ∧ d.length ≤ c ∧ Byts d ∧ d.length ≤ 1000000 := by
  obtain ⟨A', c', hv, r⟩ := h
  injection hv with h1 h2 h3
  subst h1; subst h3
  exact ⟨h2, r⟩
def sgE (a b : Sg) : Bool := a.m == b.m && (decide (a.d = b.d) && decide (a.s = b.s))
theorem sgE_iff {a b : Sg} : sgE a b = true ↔ a = b := by
  obtain ⟨m, d, s⟩ := a
  obtain ⟨m', d', s'⟩ := b
  simp [sgE, Bool.and_eq_true]
def eqG : List Sg → List Sg → Bool
  | [], [] => true
  | a :: L, b :: M => sgE a b && eqG L M
  | _, _ => false
theorem eqG_iff : ∀ {L M : List Sg}, eqG L M = true ↔ L = M
  | [], [] => by simp [eqG]
  | [], b :: M => by simp [eqG]
  | a :: L, [] => by simp [eqG]
  | a :: L, b :: M => by simp [eqG, Bool.and_eq_true, sgE_iff, eqG_iff (L := L) (M := M)]
theorem eqG_refl (L : List Sg) : eqG L L = true := eqG_iff.2 rfl
theorem eqG_no {L M : List Sg} (h : L ≠ M) : eqG L M = false := by
  cases he : eqG L M with
  | false => rfl
  | true => exact absurd (eqG_iff.1 he) h
theorem take_nextG {L : List Sg} {i : Nat} {x : Sg} (h : L[i]? = some x) : L.take (i + 1) = L.take i ++ [x] := by
  rw [List.take_add_one, h]; rfl
theorem bB {w wr W : World} (hb : Below w.heap.size w wr) (h : Below wr.heap.size wr W) : Below w.heap.size w W := hb.trans (h.mono hb.size)
section
variable {P : Program} {s e st : TypeId}
theorem wpq_str (us : P.underlying s = some (.slice e)) (ue : P.underlying e = some (.int .u8)) (ust : P.underlying st = some .string) {ops : Array Oper} {C : World → Prop} {Q : Act → Prop} {a : Act} {o : Oper} {rest : List Oper} (hw : Region.wanted o (yielded ops a.tmps) = true) (x : Operand)
    (ho : o.op = .convert s st x) (A : Option Addr) (l : List Int) (n c : Nat) (hn : n = l.length) (hx : a.eval x = .slice A n c) (hs : ∀ w, C w → Sl .u8 w A l) (h : wpQuiet P ops C Q rest (a.put o.dst (.string (strOf l)))) : wpQuiet P ops C Q (o :: rest) a := by
  refine wpq_value _ hw (fun w hC => ?_) h
  have hr := str_run us ue ust (hs w hC) n c hn
  unfold execOp
  simp only [ho, hx, Sem.run_bind, hr, Result.andThen_ok, Sem.run_pure]
end
theorem str_ne {l m : List Int} (h : Byts l) (h' : Byts m) (hn : l ≠ m) : ((strOf l).toList == (strOf m).toList) = false := by
  rw [str_eq h h']; exact decide_eq_false hn
set_option maxRecDepth 100000 in
set_option maxHeartbeats 8000000 in
theorem same_any (A A' : Option Addr) (c d : Nat) (L M : List Sg) (w : World) (hs : SegS w A L) (ht : SegS w A' M) (hn : L.length ≤ 1000000) (hm : M.length ≤ 1000000) :
    Calls Try.prog 17 #[.slice A L.length c, .slice A' M.length d] w fun e w' => e = .returned (.bool (eqG L M)) ∧ Below w.heap.size w w' := by
  have HS := Lib.hid hs
  have HT := Lib.hid ht
  clear hs ht
  by_cases hLM : L.length = M.length
  case neg =>
    have HE := Lib.hid (eqG_no (show L ≠ M from fun e => hLM (by rw [e])))
    have n1 : ((L.length : Int) != (M.length : Int)) = true := by rw [bne_iff_ne]; omega
    clear hLM
    go_enter Try.func17, Try.ntmps17
    go_wp2_with fail
    go_ret
    exact ⟨ret_bool HE.out.symm, Below.refl _ _⟩
  obtain ⟨N, hN⟩ : ∃ N, L.length = N := ⟨_, rfl⟩
  have hN2 : M.length = N := by omega
  rw [hN] at hn ⊢
  rw [hN2] at hm ⊢
  have HN := Lib.hid hN
  have HN2 := Lib.hid hN2
  clear hN hN2 hLM hm
  go_enter Try.func17, Try.ntmps17
  go_wp2_with fail
  go_loopw [5] (fun s5 wr => ∃ i : Nat, i ≤ N ∧ s5 = .int .i64 (i : Int) ∧ L.take i = M.take i ∧ Below w.heap.size w wr) (fun s5 _ => N - (intOf s5).toNat)
  case atStart => exact ⟨0, by omega, rfl, by simp, Below.refl _ _⟩
  case round =>
    obtain ⟨i, hi, rfl, htk, hb⟩ := hrel
    have HTK := Lib.hid htk
    have HB := Lib.hid hb
    clear htk hb
    by_cases hil : i < N
    case neg =>
      obtain rfl : i = N := by omega
      have HE := Lib.hid (show eqG L M = true from eqG_iff.2 (by have := HTK.out; rwa [List.take_of_length_le (Nat.le_of_eq HN.out), List.take_of_length_le (Nat.le_of_eq HN2.out)] at this))
      go_wp2_with fail
      go_ret
      exact ⟨ret_bool HE.out.symm, HB.out⟩
    have i1 : (i : Int) < (N : Int) := by omega
    obtain ⟨b, off, rfl, hlt, hc⟩ := (HS.out.keep HB.out).at_ (by rw [HN.out]; omega)
    obtain ⟨m1, d1, s1, B1, e1, B2, e2, hx, h0, h1, h2, _, hp1, hp2⟩ := hc i (by rw [HN.out]; exact hil)
    obtain ⟨b', off', rfl, hlt', hc'⟩ := (HT.out.keep HB.out).at_ (by rw [HN2.out]; omega)
    obtain ⟨m2, d2, s2, C1, f1, C2, f2, hy, g0, g1, g2, _, hq1, hq2⟩ := hc' i (by rw [HN2.out]; exact hil)
    have HX := Lib.hid hx
    have HY := Lib.hid hy
    have HNO := Lib.hid (show (⟨m1, d1, s1⟩ : Sg) ≠ ⟨m2, d2, s2⟩ → eqG L M = false from fun h => eqG_no fun e => h (by rw [e, hy] at hx; exact (Option.some.inj hx).symm))
    have HYES := Lib.hid (show (⟨m1, d1, s1⟩ : Sg) = ⟨m2, d2, s2⟩ → L.take (i + 1) = M.take (i + 1) from fun h => by rw [take_nextG hx, take_nextG hy, HTK.out, h])
    obtain ⟨_, HD1, _, HY1, _⟩ := hp1.sl
    obtain ⟨_, HS1, _, HZ1, _⟩ := hp2.sl
    obtain ⟨_, HD2, _, HY2, _⟩ := hq1.sl
    obtain ⟨_, HS2, _, HZ2, _⟩ := hq2.sl
    clear hp1 hp2 hq1 hq2
    replace HD1 := Lib.hid HD1
    replace HD2 := Lib.hid HD2
    replace HS1 := Lib.hid HS1
    replace HS2 := Lib.hid HS2
    replace HY1 := Lib.hid HY1
    replace HY2 := Lib.hid HY2
    replace HZ1 := Lib.hid HZ1
    replace HZ2 := Lib.hid HZ2
    clear hx hy hc hc'
    have k0 : ∀ p : Bel wr.heap.size wr.drew, p.w'.cell? ⟨b, off + i * 3, none⟩ = some (.int .i64 m1) := fun p => (p.h.cell (p := ⟨b, off + i * 3, none⟩) hlt).trans h0
    have k1 : ∀ p : Bel wr.heap.size wr.drew, p.w'.cell? ⟨b, off + i * 3 + 1, none⟩ = some (.slice B1 d1.length e1) := fun p => (p.h.cell (p := ⟨b, off + i * 3 + 1, none⟩) hlt).trans h1
    have k2 : ∀ p : Bel wr.heap.size wr.drew, p.w'.cell? ⟨b, off + i * 3 + 2, none⟩ = some (.slice B2 s1.length e2) := fun p => (p.h.cell (p := ⟨b, off + i * 3 + 2, none⟩) hlt).trans h2
    have k3 : ∀ p : Bel wr.heap.size wr.drew, p.w'.cell? ⟨b', off' + i * 3, none⟩ = some (.int .i64 m2) := fun p => (p.h.cell (p := ⟨b', off' + i * 3, none⟩) hlt').trans g0
    have k4 : ∀ p : Bel wr.heap.size wr.drew, p.w'.cell? ⟨b', off' + i * 3 + 1, none⟩ = some (.slice C1 d2.length f1) := fun p => (p.h.cell (p := ⟨b', off' + i * 3 + 1, none⟩) hlt').trans g1
    have k5 : ∀ p : Bel wr.heap.size wr.drew, p.w'.cell? ⟨b', off' + i * 3 + 2, none⟩ = some (.slice C2 s2.length f2) := fun p => (p.h.cell (p := ⟨b', off' + i * 3 + 2, none⟩) hlt').trans g2
    clear h0 h1 h2 g0 g1 g2
    replace HD1 := Lib.hid (show Sl .u8 wr.drew _ _ from HD1.out)
    replace HD2 := Lib.hid (show Sl .u8 wr.drew _ _ from HD2.out)
    replace HS1 := Lib.hid (show Sl .u8 wr.drew _ _ from HS1.out)
    replace HS2 := Lib.hid (show Sl .u8 wr.drew _ _ from HS2.out)
    have HB2 := Lib.hid (show Below w.heap.size w wr.drew from ud' HB.out)
    by_cases hm : m1 = m2
    case neg =>
      have n1 : (m1 != m2) = true := by rw [bne_iff_ne]; exact hm
      have HE := Lib.hid (HNO.out fun e => hm (congrArg Sg.m e))
      clear hm
      go_wp2_with fail
      refine Tin.reg_begin wr.heap.size 39 (by rfl) (by kernel_rfl) ?_
      refine Tin.reg_quiets [0, 1, 2, 3, 4, 5, 6, 7, 8, 9, 10, 11, 12, 13, 14, 15, 16, 17, 18, 19, 20, 21] _ 17 rfl (by simp only [Tin.pick, List.map_cons, List.map_nil, Array.getD_eq_getD_getElem?, List.getElem?_toArray, List.getElem?_cons_zero, List.getElem?_cons_succ, Option.getD_some]; rfl) (by kernel_rfl) (by kernel_rfl) ?_
      repeat (first | go_big_quiet_step (fail))
      refine wpQuiet_nil ?_
      refine Tin.reg_one 22 _ rfl (by kernel_rfl) ?_
      try simp only [List.getElem_toArray, List.getElem_cons_succ, List.getElem_cons_zero]
      go_wp2_with fail
      refine ⟨wr.heap.size, Below.refl _ _, Nat.le_refl _, ?_⟩
      refine Tin.reg_quiets [23, 24, 25, 26, 27, 28, 29, 30, 31, 32, 33, 34, 35] _ 3 rfl (by simp only [Tin.pick, List.map_cons, List.map_nil, Array.getD_eq_getD_getElem?, List.getElem?_toArray, List.getElem?_cons_zero, List.getElem?_cons_succ, Option.getD_some]; rfl) (by kernel_rfl) (by kernel_rfl) ?_
      repeat (first | go_big_quiet_step (fail))
      refine wpQuiet_nil ?_
      refine Tin.reg_one 36 _ rfl (by kernel_rfl) ?_
      try simp only [List.getElem_toArray, List.getElem_cons_succ, List.getElem_cons_zero]
      go_wp2_with fail
      refine ⟨wr.heap.size, Below.refl _ _, Nat.le_refl _, ?_⟩
      refine Tin.reg_quiets [37, 38] _ 0 rfl (by simp only [Tin.pick, List.map_cons, List.map_nil, Array.getD_eq_getD_getElem?, List.getElem?_toArray, List.getElem?_cons_zero, List.getElem?_cons_succ, Option.getD_some]; rfl) (by kernel_rfl) (by kernel_rfl) ?_
      repeat (first | go_big_quiet_step (fail))
      refine wpQuiet_nil ?_
      refine Tin.reg_done (by kernel_rfl) ?_
      go_wp2_with fail
      go_ret
      exact ⟨ret_bool HE.out.symm, HB2.out⟩
    subst hm
    by_cases hd : d1 = d2
    case neg =>
      have HE := Lib.hid (HNO.out fun e => hd (congrArg Sg.d e))
      have HDD := Lib.hid (decide_eq_false hd)
      clear hd
      go_wp2_with fail
      refine Tin.reg_begin wr.heap.size 39 (by rfl) (by kernel_rfl) ?_
      refine Tin.reg_quiets [0, 1, 2, 3, 4, 5, 6, 7, 8, 9, 10, 11, 12, 13, 14, 15, 16, 17, 18, 19, 20, 21] _ 17 rfl (by simp only [Tin.pick, List.map_cons, List.map_nil, Array.getD_eq_getD_getElem?, List.getElem?_toArray, List.getElem?_cons_zero, List.getElem?_cons_succ, Option.getD_some]; rfl) (by kernel_rfl) (by kernel_rfl) ?_
      repeat (first | go_big_quiet_step (fail))
      refine wpQuiet_nil ?_
      refine Tin.reg_one 22 _ rfl (by kernel_rfl) ?_
      try simp only [List.getElem_toArray, List.getElem_cons_succ, List.getElem_cons_zero]
      go_wp2_with fail
      refine (same3_any _ _ _ _ _ _ _ HD1.out HD2.out HY1.out HY2.out).mono ?_
      rintro e w2 ⟨rfl, rfl⟩
      rw [HDD.out]
      go_wp2_with fail
      refine ⟨wr.heap.size, Below.refl _ _, Nat.le_refl _, ?_⟩
      refine Tin.reg_quiets [23, 24, 25, 26, 27, 28, 29, 30, 31, 32, 33, 34, 35] _ 3 rfl (by simp only [Tin.pick, List.map_cons, List.map_nil, Array.getD_eq_getD_getElem?, List.getElem?_toArray, List.getElem?_cons_zero, List.getElem?_cons_succ, Option.getD_some]; rfl) (by kernel_rfl) (by kernel_rfl) ?_
      repeat (first | go_big_quiet_step (fail))
      refine wpQuiet_nil ?_
      refine Tin.reg_one 36 _ rfl (by kernel_rfl) ?_
      try simp only [List.getElem_toArray, List.getElem_cons_succ, List.getElem_cons_zero]
      go_wp2_with fail
      refine ⟨wr.heap.size, Below.refl _ _, Nat.le_refl _, ?_⟩
      refine Tin.reg_quiets [37, 38] _ 0 rfl (by simp only [Tin.pick, List.map_cons, List.map_nil, Array.getD_eq_getD_getElem?, List.getElem?_toArray, List.getElem?_cons_zero, List.getElem?_cons_succ, Option.getD_some]; rfl) (by kernel_rfl) (by kernel_rfl) ?_
      repeat (first | go_big_quiet_step (fail))
      refine wpQuiet_nil ?_
      refine Tin.reg_done (by kernel_rfl) ?_
      go_wp2_with fail
      go_ret
      exact ⟨ret_bool HE.out.symm, HB2.out⟩
    subst hd
    by_cases hs : s1 = s2
    case neg =>
      have HE := Lib.hid (HNO.out fun e => hs (congrArg Sg.s e))
      have HSS := Lib.hid (decide_eq_false hs)
      clear hs
      go_wp2_with fail
      refine Tin.reg_begin wr.heap.size 39 (by rfl) (by kernel_rfl) ?_
      refine Tin.reg_quiets [0, 1, 2, 3, 4, 5, 6, 7, 8, 9, 10, 11, 12, 13, 14, 15, 16, 17, 18, 19, 20, 21] _ 17 rfl (by simp only [Tin.pick, List.map_cons, List.map_nil, Array.getD_eq_getD_getElem?, List.getElem?_toArray, List.getElem?_cons_zero, List.getElem?_cons_succ, Option.getD_some]; rfl) (by kernel_rfl) (by kernel_rfl) ?_
      repeat (first | go_big_quiet_step (fail))
      refine wpQuiet_nil ?_
      refine Tin.reg_one 22 _ rfl (by kernel_rfl) ?_
      try simp only [List.getElem_toArray, List.getElem_cons_succ, List.getElem_cons_zero]
      go_wp2_with fail
      refine (same3_any _ _ _ _ _ _ _ HD1.out HD2.out HY1.out HY2.out).mono ?_
      rintro e w2 ⟨rfl, rfl⟩
      rw [decide_eq_true (Eq.refl d1)]
      go_wp2_with fail
      refine ⟨wr.heap.size, Below.refl _ _, Nat.le_refl _, ?_⟩
      refine Tin.reg_quiets [23, 24, 25, 26, 27, 28, 29, 30, 31, 32, 33, 34, 35] _ 3 rfl (by simp only [Tin.pick, List.map_cons, List.map_nil, Array.getD_eq_getD_getElem?, List.getElem?_toArray, List.getElem?_cons_zero, List.getElem?_cons_succ, Option.getD_some]; rfl) (by kernel_rfl) (by kernel_rfl) ?_
      repeat (first | go_big_quiet_step (fail))
      refine wpQuiet_nil ?_
      refine Tin.reg_one 36 _ rfl (by kernel_rfl) ?_
      try simp only [List.getElem_toArray, List.getElem_cons_succ, List.getElem_cons_zero]
      go_wp2_with fail
      refine (same3_any _ _ _ _ _ _ _ HS1.out HS2.out HZ1.out HZ2.out).mono ?_
      rintro e w2 ⟨rfl, rfl⟩
      rw [HSS.out]
      go_wp2_with fail
      refine ⟨wr.heap.size, Below.refl _ _, Nat.le_refl _, ?_⟩
      refine Tin.reg_quiets [37, 38] _ 0 rfl (by simp only [Tin.pick, List.map_cons, List.map_nil, Array.getD_eq_getD_getElem?, List.getElem?_toArray, List.getElem?_cons_zero, List.getElem?_cons_succ, Option.getD_some]; rfl) (by kernel_rfl) (by kernel_rfl) ?_
      repeat (first | go_big_quiet_step (fail))
      refine wpQuiet_nil ?_
      refine Tin.reg_done (by kernel_rfl) ?_
      go_wp2_with fail
      go_ret
      exact ⟨ret_bool HE.out.symm, HB2.out⟩
    subst hs
    go_wp2_with fail
    refine Tin.reg_begin wr.heap.size 39 (by rfl) (by kernel_rfl) ?_
    refine Tin.reg_quiets [0, 1, 2, 3, 4, 5, 6, 7, 8, 9, 10, 11, 12, 13, 14, 15, 16, 17, 18, 19, 20, 21] _ 17 rfl (by simp only [Tin.pick, List.map_cons, List.map_nil, Array.getD_eq_getD_getElem?, List.getElem?_toArray, List.getElem?_cons_zero, List.getElem?_cons_succ, Option.getD_some]; rfl) (by kernel_rfl) (by kernel_rfl) ?_
    repeat (first | go_big_quiet_step (fail))
    refine wpQuiet_nil ?_
    refine Tin.reg_one 22 _ rfl (by kernel_rfl) ?_
    try simp only [List.getElem_toArray, List.getElem_cons_succ, List.getElem_cons_zero]
    go_wp2_with fail
    refine (same3_any _ _ _ _ _ _ _ HD1.out HD2.out HY1.out HY2.out).mono ?_
    rintro e w2 ⟨rfl, rfl⟩
    rw [decide_eq_true (Eq.refl d1)]
    go_wp2_with fail
    refine ⟨wr.heap.size, Below.refl _ _, Nat.le_refl _, ?_⟩
    refine Tin.reg_quiets [23, 24, 25, 26, 27, 28, 29, 30, 31, 32, 33, 34, 35] _ 3 rfl (by simp only [Tin.pick, List.map_cons, List.map_nil, Array.getD_eq_getD_getElem?, List.getElem?_toArray, List.getElem?_cons_zero, List.getElem?_cons_succ, Option.getD_some]; rfl) (by kernel_rfl) (by kernel_rfl) ?_
    repeat (first | go_big_quiet_step (fail))
    refine wpQuiet_nil ?_
    refine Tin.reg_one 36 _ rfl (by kernel_rfl) ?_
    try simp only [List.getElem_toArray, List.getElem_cons_succ, List.getElem_cons_zero]
    go_wp2_with fail
    refine (same3_any _ _ _ _ _ _ _ HS1.out HS2.out HZ1.out HZ2.out).mono ?_
    rintro e w2 ⟨rfl, rfl⟩
    rw [decide_eq_true (Eq.refl s1)]
    go_wp2_with fail
    refine ⟨wr.heap.size, Below.refl _ _, Nat.le_refl _, ?_⟩
    refine Tin.reg_quiets [37, 38] _ 0 rfl (by simp only [Tin.pick, List.map_cons, List.map_nil, Array.getD_eq_getD_getElem?, List.getElem?_toArray, List.getElem?_cons_zero, List.getElem?_cons_succ, Option.getD_some]; rfl) (by kernel_rfl) (by kernel_rfl) ?_
    repeat (first | go_big_quiet_step (fail))
    refine wpQuiet_nil ?_
    refine Tin.reg_done (by kernel_rfl) ?_
    go_wp2_with fail
    exact ⟨⟨i + 1, by omega, rfl, HYES.out (by first | rfl | trivial), HB2.out⟩, by simp only [intOf]; omega⟩
end Go.Proofs.Ytfohajgljjffgaa
