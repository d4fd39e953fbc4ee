/- slices.Grow and slices.Concat of segments. -/
import Derived.Test.YtfohajgljjffgaaCoB
namespace Go.Proofs.Ytfohajgljjffgaa
open Go.RowKit
open Go.Tin
set_option linter.unusedVariables false
set_option linter.unusedSimpArgs false


section
variable {P : Program} {s e : TypeId} {sz by_ : Nat} (bt : SV P s e sz by_)
include bt
/-- append(nil, make([]T, m)...), T of many cells; then [:0]. -/
theorem appzv_run {u : TypeId} {ku : IntKind} (hu : P.underlying u = some (.int ku)) (w : World) (ty : TypeId) (m : Nat) (h0 : 0 < m) (hmb : m * by_ ≤ 140737488355328) (hlen' : m ≤ 140737488355328) :
    ∃ A c w', (Builtin.append_ #[s, u] ty #[.slice none 0 0, .int .i64 (m : Int)]).run P w = .ok (.slice A m c) w' ∧ OwnV e sz w' w.heap.size (.slice A 0 c) 0 [] ∧ Below w.heap.size w w' := by
  obtain ⟨i, z, hi, hz, hzs, hsz, hby⟩ := bt.info
  have hwm : IntKind.i64.wrap (m : Int) = (m : Int) := by rw [wrap_i64]; omega
  have hm0 : ¬ ((m : Int) < 0) := by omega
  have hmb' : ¬ (281474976710656 < (m : Int) * (by_ : Int)) := by
    have h := Int.ofNat_le.2 hmb
    rw [Int.natCast_mul] at h
    generalize (m : Int) * (by_ : Int) = x at *
    omega
  have hmp : ¬ ((m : Int) ≤ 0) := by omega
  have hroom : ¬ (0 + m ≤ 0) := by omega
  have hm : m ≠ 0 := by omega
  have hge := grownCap_ge w (0 + m) 0 e
  have hcm' : grownCap w (0 + m) 0 e ≤ maxLen := grownCap_le_maxLen w (0 + m) 0 e (by unfold maxLen; omega)
  have h63' : ¬ (9223372036854775807 < ((m : Int))) := by omega
  have h48' : ¬ (281474976710656 < Builtin.nextslicecap (m) 0 * by_) := by
    have := growslice_fits (need := m) (old := 0) (bytes := by_) (by omega) hmb
    omega
  simp only [Nat.zero_add] at hge hcm'
  refine ⟨some ⟨w.heap.size, 0, none⟩, grownCap w m 0 e, w.drew.alloc (.cells (Builtin.zeroCells z.cells m ++ Builtin.zeroCells z.cells (grownCap w m 0 e - m)) e), ?_, ?_, ⟨rfl, rfl, rfl, by simp, fun q hq => heap_alloc_old w.drew _ hq⟩⟩
  · simp [Builtin.append_, run_underlying bt.us, run_underlying hu, sizeOf, typeInfo, hi, hz, zeroValue, hroom, asInt, asIntOf, hwm, hm0, hby, hmb', hsz, hmp, hm, h63', h48', Question.forced, newRow, grownCap, Builtin.firstCells]
    exact fun h => absurd h (Nat.mul_ne_zero hm (by have := bt.pos; omega))
  · refine ⟨by simp, .inr ⟨w.heap.size, _, _, rfl, Nat.le_refl _, heap_alloc_new w.drew _, Nat.zero_le _, hcm', ?_, by simp⟩⟩
    rw [Array.size_append, size_zeroCells, size_zeroCells, hzs, ← Nat.add_mul]
    congr 1
    omega
theorem wpl_appzv {u : TypeId} {ku : IntKind} (hu : P.underlying u = some (.int ku)) {ops : Array Oper} {rest : List Oper} {o : Oper} {a : Act} {Q : Exit → Act → World → Prop} (w : World) (hgd : o.guard = none) (x y : Operand)
    (ho : o.op = .call { callee := .builtin .append, args := #[x, y], argTypes := #[s, u] }) (hs : a.eval x = .slice none 0 0)
    (m : Nat) (hx : a.eval y = .int .i64 (m : Int)) (h0 : 0 < m) (hmb : m * by_ ≤ 140737488355328) (hlen' : m ≤ 140737488355328)
    (h : ∀ A c w', OwnV e sz w' w.heap.size (.slice A 0 c) 0 [] → Below w.heap.size w w' → wpList P ops Q rest (a.put o.dst (.slice A m c)) w') : wpList P ops Q (o :: rest) a w := by
  refine wpList_plain hgd fun K hK => ?_
  obtain ⟨A, c, w', hrun, h2, h3⟩ := appzv_run bt hu w o.type m h0 hmb hlen'
  unfold Oper.wp execOp
  simp only [ho, resolve, invoke, builtin, Sem.run_bind, Sem.run_pure, Result.andThen_ok, List.map_toArray, List.map_cons, List.map_nil, hs, hx, hrun]
  exact hK _ _ (h A c w' h2 h3)
end
theorem growv_any (n : Nat) (w : World) (hn : n ≤ 1000000000) :
    Calls Try.prog 44 #[.slice none 0 0, .int .i64 (n : Int)] w fun e w' => ∃ A c, e = .returned (.slice A 0 c) ∧ OwnV 36 3 w' w.heap.size (.slice A 0 c) 0 [] ∧ Below w.heap.size w w' := by
  rcases Nat.eq_zero_or_pos n with h | h
  · subst h
    go_enter Try.func44, Try.ntmps44
    go_wp2_with fail
    go_ret
    exact ⟨none, 0, rfl, OwnV.nil_ _ _ _ _, Below.refl _ _⟩
  · have i1 : 0 < (n : Int) := by omega
    go_enter Try.func44, Try.ntmps44
    go_wp2_with (at_builtin; refine wpl_appzv svG Try.underlying3 _ rfl (.tmp 20) (.tmp 21) rfl rfl n rfl h (by omega) (by omega) ?_; intro A1 c1 w1 ho1 hb1; have HO := Lib.hid ho1; have HB := Lib.hid hb1; clear ho1 hb1)
    go_ret
    exact ⟨A1, c1, rfl, HO.out, HB.out⟩
/-- Slices of segments, one behind the other; their cells. -/
inductive PtG (w : World) : List Value → List (List Sg) → Prop
  | nil : PtG w [] []
  | cons {A : Option Addr} {c : Nat} {L : List Sg} {vs : List Value} {Ls : List (List Sg)} : SegS w A L → PtG w vs Ls → PtG w (.slice A L.length c :: vs) (L :: Ls)
theorem PtG.keep {w w' : World} {vs : List Value} {ds : List (List Sg)} (h : PtG w vs ds) (hb : Below w.heap.size w w') : PtG w' vs ds := by
  induction h with
  | nil => exact .nil
  | cons h1 _ ih => exact .cons (h1.keep hb) ih
theorem PtG.len {w : World} {vs : List Value} {ds : List (List Sg)} (h : PtG w vs ds) : vs.length = ds.length := by
  induction h with
  | nil => rfl
  | cons _ _ ih => simp [ih]
theorem PtG.at_ {w : World} {vs : List Value} {ds : List (List Sg)} (h : PtG w vs ds) : ∀ (i : Nat), i < ds.length → ∃ A c L, vs[i]? = some (.slice A L.length c) ∧ ds[i]? = some L ∧ SegS w A L := by
  induction h with
  | nil => intro i hi; simp at hi
  | cons h1 _ ih =>
    intro i hi
    cases i with
    | zero => exact ⟨_, _, _, rfl, rfl, h1⟩
    | succ i =>
      obtain ⟨A, c, d, h2, h3, h4⟩ := ih i (by simpa using hi)
      exact ⟨A, c, d, by simpa using h2, by simpa using h3, h4⟩
theorem flatg_next {ds : List (List Sg)} {i : Nat} {d : List Sg} (h : ds[i]? = some d) : (ds.take (i + 1)).flatten = (ds.take i).flatten ++ d := by
  rw [List.take_add_one, h]
  simp
theorem flatg_le {ds : List (List Sg)} : ∀ (i : Nat), (ds.take i).flatten.length ≤ ds.flatten.length := fun i => by
  conv => rhs; rw [← List.take_append_drop i ds]
  rw [List.flatten_append, List.length_append]
  omega
theorem sgv_one {w : World} {xs : List Value} {L : List Sg} (h : SgV (PtS w) xs L) : ∀ u ∈ xs, u.oneCell' = true := by
  induction h with
  | nil => intro u hu; cases hu
  | cons h1 h2 _ ih =>
    obtain ⟨A, c, rfl, _⟩ := h1
    obtain ⟨B, e, rfl, _⟩ := h2
    intro u hu
    simp only [List.mem_cons] at hu
    rcases hu with rfl | rfl | rfl | hu
    · rfl
    · rfl
    · rfl
    · exact ih u hu
set_option maxRecDepth 100000 in
set_option maxHeartbeats 4000000 in
theorem concatg_any (g c : Nat) (vs : List Value) (ds : List (List Sg)) (w : World) (hr : SlV w (some ⟨g, 0, none⟩) vs) (hp : PtG w vs ds) (hn : ds.length ≤ 100) (hl : ds.flatten.length ≤ 1000000) :
    Calls Try.prog 31 #[.slice (some ⟨g, 0, none⟩) ds.length c] w fun e w' => ∃ A c xs, e = .returned (.slice A ds.flatten.length c) ∧ OwnV 36 3 w' w.heap.size (.slice A ds.flatten.length c) ds.flatten.length xs ∧ SgV (PtS w') xs ds.flatten ∧ Below w.heap.size w w' := by
  have HR := Lib.hid hr
  have HP := Lib.hid hp
  have HPL := Lib.hid hp.len
  clear hr hp
  go_enter Try.func31, Try.ntmps31
  go_wp2_with fail
  go_loopw [3, 11] (fun s3 s11 wr => ∃ i : Nat, i ≤ ds.length ∧ s11 = .int .i64 (i : Int) ∧ s3 = .int .i64 ((ds.take i).flatten.length : Int) ∧ w = wr) (fun _ s11 _ => ds.length - (intOf s11).toNat)
  case atStart => exact ⟨0, by omega, rfl, rfl, rfl⟩
  case round =>
    obtain ⟨i, hi, rfl, rfl, rfl⟩ := hrel
    by_cases hil : i < ds.length
    · have i1 : (i : Int) < (ds.length : Int) := by omega
      obtain ⟨A, c0, d, hv, hd, hpt⟩ := HP.out.at_ i hil
      obtain ⟨b, off, hA, _, hc⟩ := HR.out.at_ (by rw [HPL.out]; omega)
      injection hA with hA
      injection hA with hb ho _
      subst hb; subst ho
      have kq : w.cell? ⟨g, i, none⟩ = some (.slice A d.length c0) := by have := hc i (by rw [HPL.out]; exact hil); rw [Nat.zero_add] at this; rw [this, hv]
      have HN := Lib.hid (flatg_next hd)
      have hN := congrArg List.length (flatg_next hd)
      rw [List.length_append] at hN
      have h1 := flatg_le (ds := ds) (i + 1)
      rw [hN] at h1
      have HN2 := Lib.hid hN
      clear hv hd hpt hc hN
      obtain ⟨M, hM⟩ : ∃ M, (ds.take i).flatten.length = M := ⟨_, rfl⟩
      rw [hM] at h1 HN2 ⊢
      clear hM
      go_wp2_with fail
      exact ⟨⟨i + 1, by omega, rfl, congrArg (Value.int .i64) (by rw [HN2.out]; omega), by first | rfl | trivial⟩, by simp only [intOf]; omega⟩
    · obtain rfl : i = ds.length := by omega
      rw [List.take_length]
      obtain ⟨L, hL⟩ : ∃ L, ds.flatten = L := ⟨_, rfl⟩
      rw [hL] at hl ⊢
      go_wp2_with fail
      refine (growv_any L.length _ (by omega)).mono ?_
      rintro e w1 ⟨A1, c1, rfl, ho, hb⟩
      have HO := Lib.hid ho
      have HB := Lib.hid hb
      clear ho hb
      go_wp2_with fail
      go_loopw [6, 27] (fun s6 s27 w2 => ∃ (i : Nat) (A2 : Option Addr) (c2 : Nat) (xs : List Value), i ≤ ds.length ∧ s27 = .int .i64 (i : Int) ∧ s6 = .slice A2 (ds.take i).flatten.length c2 ∧ OwnV 36 3 w2 w.heap.size (.slice A2 (ds.take i).flatten.length c2) (ds.take i).flatten.length xs ∧ SgV (PtS w) xs (ds.take i).flatten ∧ Below w.heap.size w w2) (fun _ s27 _ => ds.length - (intOf s27).toNat)
      case atStart => exact ⟨0, A1, c1, [], by omega, rfl, rfl, HO.out, .nil, HB.out⟩
      case round =>
        obtain ⟨i, A2, c2, xs, hi, rfl, rfl, ho, hsv, hb⟩ := hrel
        replace HO := Lib.hid ho
        replace HB := Lib.hid hb
        have HSV := Lib.hid hsv
        clear ho hb hsv
        by_cases hil : i < ds.length
        · have i1 : (i : Int) < (ds.length : Int) := by omega
          obtain ⟨A, c0, d, hv, hd, hpt⟩ := HP.out.at_ i hil
          obtain ⟨b, off, hA, _, hc⟩ := (HR.out.keep HB.out).at_ (by rw [HPL.out]; omega)
          injection hA with hA
          injection hA with hb ho _
          subst hb; subst ho
          have kq : wr.cell? ⟨g, i, none⟩ = some (.slice A d.length c0) := by have := hc i (by rw [HPL.out]; exact hil); rw [Nat.zero_add] at this; rw [this, hv]
          have HN := Lib.hid (flatg_next hd)
          have h1 := flatg_le (ds := ds) (i + 1)
          rw [HN.out, List.length_append, hL] at h1
          obtain ⟨zs, hz1, hz2⟩ := hpt
          have HZ1 := Lib.hid (hz1.keep HB.out)
          have HZ2 := Lib.hid hz2
          have HZN := Lib.hid (show zs.length = d.length * 3 from hz2.len)
          have HZO := Lib.hid (sgv_one hz2)
          obtain ⟨M, hM⟩ : ∃ M, (ds.take i).flatten = M := ⟨_, rfl⟩
          rw [hM] at h1 HN HO HSV ⊢
          clear hv hd hc hM hz1 hz2
          go_wp2_with (at_builtin; refine Tin.wplv_app svG _ rfl (.tmp 31) (.tmp 32) rfl w.heap.size (.slice A2 M.length c2) M.length xs rfl HO.out A d.length _ zs rfl HZN.out HZ1.out HZO.out (by omega) (by omega) HB.out.size ?_; intro A3 c3 w3 ho3 hg3 hw3; have HO3 := Lib.hid ho3; have HB3 := Lib.hid (HO.out.grown HB.out HB.out.size hg3); clear ho3 hg3 hw3)
          exact ⟨⟨i + 1, A3, c3, _, by omega, rfl, by rw [HN.out, List.length_append], by rw [HN.out, List.length_append]; exact HO3.out, by rw [HN.out]; exact HSV.out.app HZ2.out, HB3.out⟩, by simp only [intOf]; omega⟩
        · obtain rfl : i = ds.length := by omega
          rw [List.take_length] at HO HSV ⊢
          rw [hL] at HO HSV ⊢
          go_wp2_with fail
          go_ret
          rw [hL]
          exact ⟨A2, c2, xs, rfl, HO.out, SgV.mono (fun _ _ h => h.keep HB.out) HSV.out, HB.out⟩
end Go.Proofs.Ytfohajgljjffgaa
