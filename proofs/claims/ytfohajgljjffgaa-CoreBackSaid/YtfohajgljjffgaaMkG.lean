/- Slices of segments; slices.Grow, slices.Concat of bytes. -/
import Derived.Test.YtfohajgljjffgaaMkH
namespace Go.Proofs.Ytfohajgljjffgaa
open Go.RowKit
open Go.Tin
set_option linter.unusedVariables false
set_option linter.unusedSimpArgs false


/-- A slice of bytes as told. -/
def PtS (w : World) (v : Value) (d : List Int) : Prop := ∃ A c, v = .slice A d.length c ∧ Sl .u8 w A d ∧ d.length ≤ c ∧ Byts d ∧ d.length ≤ 1000000
theorem PtS.keep {w w' : World} {v : Value} {d : List Int} (h : PtS w v d) (hb : Below w.heap.size w w') : PtS w' v d := by
  obtain ⟨A, c, rfl, hs, hc, hy, hl⟩ := h
  exact ⟨A, c, rfl, hs.keep hb, hc, hy, hl⟩
theorem PtS.own {w : World} {B : Nat} {v : Value} {d : List Int} (h : Own .u8 5 w B v d) (hy : Byts d) (hl : d.length ≤ 1000000) : PtS w v d := by
  obtain ⟨A, c, rfl, hs, hc, _⟩ := h.sl
  exact ⟨A, c, rfl, hs, hc, hy, hl⟩
/-- A slice of segments as told. -/
def SegS (w : World) (A : Option Addr) (L : List Sg) : Prop := ∃ xs, SlV w A xs ∧ SgV (PtS w) xs L
theorem SegS.keep {w w' : World} {A : Option Addr} {L : List Sg} (h : SegS w A L) (hb : Below w.heap.size w w') : SegS w' A L := by
  obtain ⟨xs, h1, h2⟩ := h
  exact ⟨xs, h1.keep hb, SgV.mono (fun _ _ h => h.keep hb) h2⟩
theorem SegS.nil_ {w : World} {A : Option Addr} : SegS w A [] := ⟨[], .inl rfl, .nil⟩
theorem SegS.take {w : World} {A : Option Addr} {L : List Sg} (h : SegS w A L) (j : Nat) : SegS w A (L.take j) := by
  obtain ⟨xs, h1, h2⟩ := h
  exact ⟨_, h1.take (j * 3), h2.take j⟩
theorem SegS.cutA {w : World} {A : Option Addr} {L : List Sg} (h : SegS w A L) {c : Nat} (hc : L.length ≤ c) (j : Nat) : SegS w (Go.Tin.cutA A c j 3) (L.drop j) := by
  obtain ⟨xs, h1, h2⟩ := h
  exact ⟨_, h1.cutA (by rw [h2.len]; omega), h2.drop j⟩
/-- All that segments tell are bytes. -/
def BySg (L : List Sg) : Prop := ∀ s ∈ L, Byts s.d ∧ Byts s.s ∧ s.d.length ≤ 1000000 ∧ s.s.length ≤ 1000000
theorem SgV.own {w : World} {B : Nat} {xs : List Value} {L : List Sg} (h : SgV (fun v l => Own .u8 5 w B v l) xs L) (hy : BySg L) : SgV (PtS w) xs L := by
  induction h with
  | nil => exact .nil
  | cons h1 h2 _ ih =>
    have h0 := hy _ (List.mem_cons_self ..)
    exact .cons (PtS.own h1 h0.1 h0.2.2.1) (PtS.own h2 h0.2.1 h0.2.2.2) (ih fun s hs => hy s (List.mem_cons_of_mem _ hs))
theorem SegS.own {w : World} {B B' n c : Nat} {A : Option Addr} {xs : List Value} {L : List Sg} (ho : OwnV 36 3 w B (.slice A n c) n xs) (h : SgV (fun v l => Own .u8 5 w B' v l) xs L) (hy : BySg L) : SegS w A L :=
  ⟨xs, ho.sl'.2.1, h.own hy⟩
theorem SegS.at_ {w : World} {A : Option Addr} {L : List Sg} (h : SegS w A L) (hl : 0 < L.length) : ∃ b off, A = some ⟨b, off, none⟩ ∧ b < w.heap.size ∧ ∀ i, i < L.length → ∃ m d s A1 c1 A2 c2, L[i]? = some ⟨m, d, s⟩ ∧
    w.cell? ⟨b, off + i * 3, none⟩ = some (.int .i64 m) ∧ w.cell? ⟨b, off + i * 3 + 1, none⟩ = some (.slice A1 d.length c1) ∧ w.cell? ⟨b, off + i * 3 + 2, none⟩ = some (.slice A2 s.length c2) ∧
    w.rangeAt b (off + i * 3) [.int .i64 m, .slice A1 d.length c1, .slice A2 s.length c2] ∧ PtS w (.slice A1 d.length c1) d ∧ PtS w (.slice A2 s.length c2) s := by
  obtain ⟨xs, h1, h2⟩ := h
  have hxl := h2.len
  obtain ⟨b, off, rfl, hb, hc⟩ := h1.at_ (by omega)
  refine ⟨b, off, rfl, hb, fun i hi => ?_⟩
  obtain ⟨v, u, hx, hv, hu⟩ := h2.at_ i hi
  obtain ⟨A1, c1, hv1, r1⟩ := hv
  obtain ⟨A2, c2, hu1, r2⟩ := hu
  subst hv1; subst hu1
  have hr := h1.rng (i * 3) 3 (by omega)
  rw [hx] at hr
  refine ⟨L[i].m, L[i].d, L[i].s, A1, c1, A2, c2, by rw [List.getElem?_eq_getElem hi], hr 0 _ rfl, hr 1 _ rfl, hr 2 _ rfl, hr, ⟨A1, c1, rfl, r1⟩, ⟨A2, c2, rfl, r2⟩⟩

section
variable {P : Program} {s e : TypeId} {k : IntKind} {by_ : Nat} (bt : ST P s e k by_)
include bt
/-- append(nil, make([]T, m)...). -/
theorem appz0_run {u : TypeId} {ku : IntKind} (hu : P.underlying u = some (.int ku)) (w : World) (ty : TypeId) (m : Nat) (h0 : 0 < m) (hmb : m * by_ ≤ 140737488355328) (hlen' : m ≤ 140737488355328) :
    ∃ v' w', (Builtin.append_ #[s, u] ty #[.slice none 0 0, .int .i64 (m : Int)]).run P w = .ok v' w' ∧ Own k e w' w.heap.size v' (List.replicate m 0) ∧ Below w.heap.size w w' := by
  obtain ⟨i, hi, hz, hsz, hby⟩ := bt.info
  have hmap : (List.replicate m (0 : Int)).map (Value.int k) = List.replicate m (Value.int k 0) := List.map_replicate
  have hwm : IntKind.i64.wrap (m : Int) = (m : Int) := by rw [wrap_i64]; omega
  have hm0 : ¬ ((m : Int) < 0) := by omega
  have hmb' : ¬ (281474976710656 < (m : Int) * (by_ : Int)) := by
    have h := Int.ofNat_le.2 hmb
    rw [Int.natCast_mul] at h
    generalize (m : Int) * (by_ : Int) = x at *
    omega
  have hmp : ¬ ((m : Int) ≤ 0) := by omega
  have hroom : ¬ (0 + m ≤ 0) := by omega
  have hm : m ≠ 0 := by omega
  have hge := grownCap_ge w (0 + m) 0 e
  have hcm' : grownCap w (0 + m) 0 e ≤ maxLen := grownCap_le_maxLen w (0 + m) 0 e (by unfold maxLen; omega)
  have h63' : ¬ (9223372036854775807 < ((m : Int))) := by omega
  have h48' : ¬ (281474976710656 < Builtin.nextslicecap (m) 0 * by_) := by
    have := growslice_fits (need := m) (old := 0) (bytes := by_) (by omega) hmb
    omega
  simp only [Nat.zero_add] at hge hcm'
  refine ⟨.slice (some ⟨w.heap.size, 0, none⟩) m (grownCap w m 0 e), w.drew.alloc (.cells ((List.replicate m (Value.int k 0)).toArray ++ Builtin.zeroCells (Value.int k 0).cells (grownCap w m 0 e - m)) e), ?_, ?_, ⟨rfl, rfl, rfl, by simp, fun q hq => heap_alloc_old w.drew _ hq⟩⟩
  · simp [Builtin.append_, run_underlying bt.us, run_underlying hu, sizeOf, typeInfo, hi, hz, zeroValue, hroom, asInt, asIntOf, hwm, hm0, hby, hmb', hsz, hmp, hm, h63', h48', Question.forced, newRow, grownCap, zeroCells_int, Builtin.firstCells]
  · unfold Own
    rw [List.length_replicate, hmap]
    refine ⟨by simp, .inr ⟨w.heap.size, _, _, rfl, Nat.le_refl _, heap_alloc_new w.drew _, hge, hcm', ?_, ?_⟩⟩
    · simp only [Array.size_append, List.size_toArray, size_zeroCells, Value.cells, List.length_replicate, Nat.mul_one]
      simp
      omega
    · simp only [Array.toList_append, Nat.mul_one]
      have : m = (List.replicate m (Value.int k 0)).length := by simp
      conv => lhs; arg 1; rw [this]
      exact List.take_left
theorem wpl_appz0 {u : TypeId} {ku : IntKind} (hu : P.underlying u = some (.int ku)) {ops : Array Oper} {rest : List Oper} {o : Oper} {a : Act} {Q : Exit → Act → World → Prop} (w : World) (hgd : o.guard = none) (x y : Operand)
    (ho : o.op = .call { callee := .builtin .append, args := #[x, y], argTypes := #[s, u] }) (hs : a.eval x = .slice none 0 0)
    (m : Nat) (hx : a.eval y = .int .i64 (m : Int)) (h0 : 0 < m) (hmb : m * by_ ≤ 140737488355328) (hlen' : m ≤ 140737488355328)
    (h : ∀ v' w', Own k e w' w.heap.size v' (List.replicate m 0) → Below w.heap.size w w' → wpList P ops Q rest (a.put o.dst v') w') : wpList P ops Q (o :: rest) a w := by
  refine wpList_plain hgd fun K hK => ?_
  obtain ⟨v', w', hrun, h2, h3⟩ := appz0_run bt hu w o.type m h0 hmb hlen'
  unfold Oper.wp execOp
  simp only [ho, resolve, invoke, builtin, Sem.run_bind, Sem.run_pure, Result.andThen_ok, List.map_toArray, List.map_cons, List.map_nil, hs, hx, hrun]
  exact hK _ _ (h v' w' h2 h3)
end
theorem own_cut0 {k : IntKind} {e : TypeId} {w : World} {B n c : Nat} {A : Option Addr} {l : List Int} (h : Own k e w B (.slice A n c) l) : Own k e w B (.slice A 0 c) [] := by
  obtain ⟨h1, h2⟩ := h
  refine ⟨rfl, ?_⟩
  rcases h2 with ⟨hv, _⟩ | ⟨g, cap, cur, hv, hb, hh, hn, hc, hs, _⟩
  · injection hv with h1 h2 h3
    subst h1; subst h3
    exact .inl ⟨rfl, rfl⟩
  · injection hv with h1 h2 h3
    subst h1; subst h3
    exact .inr ⟨g, _, cur, rfl, hb, hh, Nat.zero_le _, hc, hs, by simp⟩
theorem grow_any (n : Nat) (w : World) (hn : n ≤ 100000000000) :
    Calls Try.prog 56 #[.slice none 0 0, .int .i64 (n : Int)] w fun e w' => ∃ A c, e = .returned (.slice A 0 c) ∧ Own .u8 5 w' w.heap.size (.slice A 0 c) [] ∧ Below w.heap.size w w' := by
  rcases Nat.eq_zero_or_pos n with h | h
  · subst h
    go_enter Try.func56, Try.ntmps56
    go_wp2_with fail
    go_ret
    exact ⟨none, 0, rfl, Own.nil_ _ _ _ _, Below.refl _ _⟩
  · have i1 : 0 < (n : Int) := by omega
    go_enter Try.func56, Try.ntmps56
    go_wp2_with (at_builtin; refine wpl_appz0 bt5 Try.underlying3 _ rfl (.tmp 20) (.tmp 21) rfl rfl n rfl h (by omega) (by omega) ?_; intro x1 w1 ho1 hb1; obtain ⟨A1, c1, rfl⟩ := own_form ho1; have HO := Lib.hid ho1; have HB := Lib.hid hb1; clear ho1 hb1; rw [List.length_replicate] at HO ⊢)
    go_ret
    exact ⟨A1, c1, rfl, own_cut0 HO.out, HB.out⟩
/-- Slices of bytes, one behind the other. -/
inductive PtL (w : World) : List Value → List (List Int) → Prop
  | nil : PtL w [] []
  | cons {v : Value} {d : List Int} {vs : List Value} {ds : List (List Int)} : PtS w v d → PtL w vs ds → PtL w (v :: vs) (d :: ds)
theorem PtL.keep {w w' : World} {vs : List Value} {ds : List (List Int)} (h : PtL w vs ds) (hb : Below w.heap.size w w') : PtL w' vs ds := by
  induction h with
  | nil => exact .nil
  | cons h1 _ ih => exact .cons (h1.keep hb) ih
theorem PtL.len {w : World} {vs : List Value} {ds : List (List Int)} (h : PtL w vs ds) : vs.length = ds.length := by
  induction h with
  | nil => rfl
  | cons _ _ ih => simp [ih]
theorem PtL.at_ {w : World} {vs : List Value} {ds : List (List Int)} (h : PtL w vs ds) : ∀ (i : Nat), i < ds.length → ∃ A c d, vs[i]? = some (.slice A d.length c) ∧ ds[i]? = some d ∧ PtS w (.slice A d.length c) d := by
  induction h with
  | nil => intro i hi; simp at hi
  | cons h1 _ ih =>
    intro i hi
    cases i with
    | zero =>
      obtain ⟨A, c, rfl, r⟩ := h1
      exact ⟨A, c, _, rfl, rfl, A, c, rfl, r⟩
    | succ i =>
      obtain ⟨A, c, d, h2, h3, h4⟩ := ih i (by simpa using hi)
      exact ⟨A, c, d, by simpa using h2, by simpa using h3, h4⟩
theorem flat_next {ds : List (List Int)} {i : Nat} {d : List Int} (h : ds[i]? = some d) : (ds.take (i + 1)).flatten = (ds.take i).flatten ++ d := by
  rw [List.take_add_one, h]
  simp
theorem flat_le {ds : List (List Int)} : ∀ (i : Nat), (ds.take i).flatten.length ≤ ds.flatten.length := fun i => by
  conv => rhs; rw [← List.take_append_drop i ds]
  rw [List.flatten_append, List.length_append]
  omega
set_option maxRecDepth 100000 in
set_option maxHeartbeats 4000000 in
theorem concat_any (g c : Nat) (vs : List Value) (ds : List (List Int)) (w : World) (hr : SlV w (some ⟨g, 0, none⟩) vs) (hp : PtL w vs ds) (hn : ds.length ≤ 100) (hl : ds.flatten.length ≤ 100000000) :
    Calls Try.prog 40 #[.slice (some ⟨g, 0, none⟩) ds.length c] w fun e w' => ∃ A c, e = .returned (.slice A ds.flatten.length c) ∧ Own .u8 5 w' w.heap.size (.slice A ds.flatten.length c) ds.flatten ∧ Below w.heap.size w w' := by
  have HR := Lib.hid hr
  have HP := Lib.hid hp
  have HPL := Lib.hid hp.len
  clear hr hp
  go_enter Try.func40, Try.ntmps40
  go_wp2_with fail
  go_loopw [3, 11] (fun s3 s11 wr => ∃ i : Nat, i ≤ ds.length ∧ s11 = .int .i64 (i : Int) ∧ s3 = .int .i64 ((ds.take i).flatten.length : Int) ∧ w = wr) (fun _ s11 _ => ds.length - (intOf s11).toNat)
  case atStart => exact ⟨0, by omega, rfl, rfl, rfl⟩
  case round =>
    obtain ⟨i, hi, rfl, rfl, rfl⟩ := hrel
    by_cases hil : i < ds.length
    · have i1 : (i : Int) < (ds.length : Int) := by omega
      obtain ⟨A, c0, d, hv, hd, hpt⟩ := HP.out.at_ i hil
      obtain ⟨b, off, hA, _, hc⟩ := HR.out.at_ (by rw [HPL.out]; omega)
      injection hA with hA
      injection hA with hb ho _
      subst hb; subst ho
      have kq : w.cell? ⟨g, i, none⟩ = some (.slice A d.length c0) := by have := hc i (by rw [HPL.out]; exact hil); rw [Nat.zero_add] at this; rw [this, hv]
      have HN := Lib.hid (flat_next hd)
      have hN := congrArg List.length (flat_next hd)
      rw [List.length_append] at hN
      have h1 := flat_le (ds := ds) (i + 1)
      rw [hN] at h1
      have HN2 := Lib.hid hN
      clear hv hd hpt hc hN
      obtain ⟨M, hM⟩ : ∃ M, (ds.take i).flatten.length = M := ⟨_, rfl⟩
      rw [hM] at h1 HN2 ⊢
      clear hM
      go_wp2_with fail
      exact ⟨⟨i + 1, by omega, rfl, congrArg (Value.int .i64) (by rw [HN2.out]; omega), by first | rfl | trivial⟩, by simp only [intOf]; omega⟩
    · obtain rfl : i = ds.length := by omega
      rw [List.take_length]
      obtain ⟨L, hL⟩ : ∃ L, ds.flatten = L := ⟨_, rfl⟩
      rw [hL] at hl ⊢
      go_wp2_with fail
      refine (grow_any L.length _ (by omega)).mono ?_
      rintro e w1 ⟨A1, c1, rfl, ho, hb⟩
      have HO := Lib.hid ho
      have HB := Lib.hid hb
      clear ho hb
      go_wp2_with fail
      go_loopw [6, 27] (fun s6 s27 w2 => ∃ (i : Nat) (A2 : Option Addr) (c2 : Nat), i ≤ ds.length ∧ s27 = .int .i64 (i : Int) ∧ s6 = .slice A2 (ds.take i).flatten.length c2 ∧ Own .u8 5 w2 w.heap.size (.slice A2 (ds.take i).flatten.length c2) (ds.take i).flatten ∧ Below w.heap.size w w2) (fun _ s27 _ => ds.length - (intOf s27).toNat)
      case atStart => exact ⟨0, A1, c1, by omega, rfl, rfl, HO.out, HB.out⟩
      case round =>
        obtain ⟨i, A2, c2, hi, rfl, rfl, ho, hb⟩ := hrel
        replace HO := Lib.hid ho
        replace HB := Lib.hid hb
        clear ho hb
        by_cases hil : i < ds.length
        · have i1 : (i : Int) < (ds.length : Int) := by omega
          obtain ⟨A, c0, d, hv, hd, hpt⟩ := (HP.out.keep HB.out).at_ i hil
          obtain ⟨b, off, hA, _, hc⟩ := (HR.out.keep HB.out).at_ (by rw [HPL.out]; omega)
          injection hA with hA
          injection hA with hb ho _
          subst hb; subst ho
          have kq : wr.cell? ⟨g, i, none⟩ = some (.slice A d.length c0) := by have := hc i (by rw [HPL.out]; exact hil); rw [Nat.zero_add] at this; rw [this, hv]
          have HN := Lib.hid (flat_next hd)
          have h1 := flat_le (ds := ds) (i + 1)
          rw [HN.out, List.length_append, hL] at h1
          obtain ⟨A', c', hv', hsd, _⟩ := hpt
          injection hv' with e1 _ _
          subst e1
          have HSD := Lib.hid hsd
          obtain ⟨M, hM⟩ : ∃ M, (ds.take i).flatten = M := ⟨_, rfl⟩
          rw [hM] at h1 HN HO ⊢
          clear hv hd hc hsd hM
          go_wp2_with (at_builtin; refine Tin.wpl_app bt5 _ rfl (.tmp 31) (.tmp 32) rfl w.heap.size (.slice A2 M.length c2) M rfl HO.out A d.length _ d rfl HSD.out rfl (by omega) (by omega) HB.out.size ?_; intro x1 w3 ho3 hg3 hw3; obtain ⟨A3, c3, rfl⟩ := own_form ho3; have HO3 := Lib.hid ho3; have HB3 := Lib.hid (HO.out.grown HB.out HB.out.size hg3); clear ho3 hg3 hw3)
          exact ⟨⟨i + 1, A3, c3, by omega, rfl, by rw [HN.out, List.length_append], by rw [HN.out]; exact HO3.out, HB3.out⟩, by simp only [intOf]; omega⟩
        · obtain rfl : i = ds.length := by omega
          rw [List.take_length] at HO ⊢
          rw [hL] at HO ⊢
          go_wp2_with fail
          go_ret
          rw [hL]
          exact ⟨A2, c2, rfl, HO.out, HB.out⟩
end Go.Proofs.Ytfohajgljjffgaa
