/- The contract of the value in an entry's slot. -/
import Derived.Test.YthjmnahmejagmaaEnC
import Derived.Test.YthjmnahmejagmaaTyH
import Derived.Test.YthjmnahmejagmaaRwq
namespace Go.Proofs.Ythjmnahmejagmaa
open Go.RowKit
open Go.Tin
set_option linter.unusedVariables false
set_option linter.unusedSimpArgs false


/- slices.ContainsFunc of integers ([]byte), with a function that has captured no places. -/
set_option maxRecDepth 100000 in
set_option maxHeartbeats 2000000 in
theorem index_0 (F : FuncId) (fn : Func) (cd : Code) (hfn : Try.prog.funcs[F]? = some fn) (hname : (fn.name == "runtime.NumGoroutine") = false) (hbd : fn.body = some cd) (q : Int → Bool) (A : Option Addr) (l : List Int) (c : Nat) (w : World) (hs : Sl .u8 w A l) (hl : l.length ≤ 1000000000)
    (hq : ∀ j, j < l.length → Calls Try.prog F #[.int .u8 (nth l j)] w fun e w' => e = .returned (.bool (q (nth l j))) ∧ w = w') :
    Calls Try.prog 55 #[.slice A l.length c, .func (.func F) #[] #[]] w fun e w' => ∃ r : Int, e = .returned (.int .i64 r) ∧ decide (0 ≤ r) = l.any q ∧ w = w' := by
  have HS := Lib.hid hs
  have HQ := Lib.hid hq
  clear hs hq
  have hf := hcf F fn cd hfn hname hbd
  clear hfn hname hbd
  go_enter Try.func55, Try.ntmps55
  go_wp2_with fail
  go_loopw [8] (fun s8 wr => ∃ (i : Nat), i ≤ l.length ∧ s8 = .int .i64 (i : Int) ∧ (∀ j, j < i → q (nth l j) = false) ∧ w = wr) (fun s8 _ => l.length - (intOf s8).toNat)
  case atStart => exact ⟨0, by omega, rfl, fun j h => absurd h (Nat.not_lt_zero _), rfl⟩
  case round =>
    obtain ⟨i, hi, rfl, hno, rfl⟩ := hrel
    have HN := Lib.hid hno
    clear hno
    by_cases hil : i < l.length
    · have i1 : (i : Int) < (l.length : Int) := by omega
      obtain ⟨b, off, rfl, hlt, hcell⟩ := HS.out.at_ (by omega)
      have k0 := hcell i hil
      rw [show l.getD i 0 = nth l i from rfl] at k0
      clear hcell
      go_wp2_with fail
      refine Calls.mono (HQ.out i hil) ?_
      by_cases hq : q (nth l i) = true
      · rw [hq]
        rintro e w' ⟨rfl, rfl⟩
        go_wp2_with fail
        go_ret
        exact ⟨_, rfl, by rw [any_at l q i hil hq]; simp, rfl⟩
      · have hq' : q (nth l i) = false := by simpa using hq
        rw [hq']
        rintro e w' ⟨rfl, rfl⟩
        go_wp2_with fail
        go_roundw
        case rel => exact ⟨i + 1, by omega, by go_num, fun j hj => by rcases (by omega : j < i ∨ j = i) with h | rfl; exact HN.out j h; exact hq', by simp⟩
        case measure => simp [intOf]; omega
    · obtain rfl : i = l.length := by omega
      go_wp2_with fail
      go_ret
      exact ⟨_, rfl, by rw [any_not l q HN.out]; rfl, rfl⟩
set_option maxRecDepth 100000 in
theorem contains_0 (F : FuncId) (fn : Func) (cd : Code) (hfn : Try.prog.funcs[F]? = some fn) (hname : (fn.name == "runtime.NumGoroutine") = false) (hbd : fn.body = some cd) (q : Int → Bool) (A : Option Addr) (l : List Int) (c : Nat) (w : World) (hs : Sl .u8 w A l) (hl : l.length ≤ 1000000000)
    (hq : ∀ j, j < l.length → Calls Try.prog F #[.int .u8 (nth l j)] w fun e w' => e = .returned (.bool (q (nth l j))) ∧ w = w') :
    Calls Try.prog 36 #[.slice A l.length c, .func (.func F) #[] #[]] w fun e w' => e = .returned (.bool (l.any q)) ∧ w = w' := by
  have HI := Lib.hid (index_0 F fn cd hfn hname hbd  q A l c w hs hl hq)
  clear hs hq hfn hname hbd
  go_enter Try.func36, Try.ntmps36
  go_wp2_with fail
  refine Calls.mono HI.out ?_
  rintro e w' ⟨r, rfl, hr, rfl⟩
  have HR := Lib.hid hr
  clear hr
  go_wp2_with fail
  go_ret
  exact ⟨ret_bool (by rw [HR.out]), rfl⟩

def nz (x : Int) : Bool := x != 0
theorem some_any (x : Int) (w : World) : Calls Try.prog 35 #[.int .u8 x] w fun e w' => e = .returned (.bool (nz x)) ∧ w = w' := by
  have HN := Lib.hid (show nz x = (x != 0) from rfl)
  go_enter Try.func35, Try.ntmps35
  go_wp2_with fail
  go_ret
  exact ⟨ret_bool HN.out.symm, rfl⟩
theorem own_cap {k : IntKind} {e : TypeId} {w : World} {B n c : Nat} {A : Option Addr} {l : List Int} (h : Own k e w B (.slice A n c) l) : l.length ≤ c := by
  obtain ⟨A', c', he, _, h1, _⟩ := h.sl
  injection he with _ _ hc
  subst hc
  exact h1
theorem same_store {w w' : World} {g B : Nat} {o : Obj} (h : w.heap[g]? = some o) (h' : w'.heap[g]? = some o) (hg : w.grownBy w' (some g)) (hB : B ≤ w.heap.size) : Below B w w' :=
  ⟨hg.os, hg.tape, hg.output, hg.size, fun k hk => by
    by_cases he : k = g
    · subst he; rw [h, h']
    · exact hg.block k (by omega) (fun e => he (Option.some.inj e))⟩
theorem res_row_tmp2 {P : Program} {t : TypeId} {n : Nat} (rt : RT P t n) {fn : Func} {p q r : Tmp} (h : fn.results = #[.cell p t, .tmp q, .tmp r]) (tmps : Array Value) (w : World) (g : Nat) (ty : TypeId) (cs : Array Value) (hp : tmps.getD p undef = .pointer (some ⟨g, 0, none⟩)) (v u : Value) (hv : tmps.getD q undef = v) (hu : tmps.getD r undef = u) (hn : cs.size = n) (hg : w.heap[g]? = some (.cells cs ty (0, 0))) :
    (results fn tmps).run P w = .ok (.tuple #[.agg cs, v, u]) w := by
  subst hv
  subst hu
  obtain ⟨d, hud, hd⟩ := rt.ut
  have hp' : tmps[p]?.getD undef = .pointer (some ⟨g, 0, none⟩) := by simpa using hp
  cases d <;> first | (cases hd; done) | simp [results, h, hp', asAddr, run_loadVar_row w g ty t cs (0, 0) _ hg hud rfl (by rw [rt.it, hn])]
def evB (b c d o : Int) : Bool := putB d 4 o && (inE b c && ofB b c (putL d 4 o) o)
def evL (b c d o : Int) : List Int := if evB b c d o then ofL b c (putL d 4 o) o else []
def evC (b c d o : Int) : Bool := evB b c d o && !((putL d 4 o).drop (evL b c d o).length).any nz
theorem putL_len {n o : Int} {s : Int} (h : putB n s o = true) : (putL n s o).length = s.toNat := by
  unfold putL
  rw [if_pos h]
  unfold ordL
  split
  · rw [List.length_reverse, bytesOf_len]
  · rw [bytesOf_len]
theorem putL_byts (n s o : Int) : Byts (putL n s o) := by
  have hb : ∀ (k : Nat) (n : Int), Byts (bytesOf k n) := by
    intro k
    induction k with
    | zero => intro n x hx; simp [bytesOf] at hx
    | succ k ih =>
      intro n x hx
      rw [bytesOf_cons] at hx
      rcases List.mem_cons.1 hx with rfl | hx
      · omega
      · exact ih n x hx
  unfold putL
  split
  · unfold ordL
    split
    · exact (hb _ _).sub fun x hx => List.mem_reverse.1 hx
    · exact hb _ _
  · intro x hx; simp at hx
theorem ofL_len {k c : Int} {l : List Int} {o : Int} (h : ofB k c l o = true) : ((ofL k c l o).length : Int) = c * szT k := by
  unfold ofL
  rw [if_pos h]
  unfold ofB at h
  simp only [Bool.and_eq_true] at h
  exact (((mayV_iff _ _ _).1 h.2.2.2.2).2.2.2.1)
theorem ofL_byts {l : List Int} (h : Byts l) (k c o : Int) : Byts (ofL k c l o) := by
  unfold ofL
  split
  · exact turn_byts (h.take _) _ _
  · intro x hx; simp at hx
theorem inE_len {b c : Int} (h : inE b c = true) : 0 < c * szT b ∧ c * szT b ≤ 4 ∧ lgE b c = c * szT b := by
  unfold inE at h
  simp only [Bool.and_eq_true, decide_eq_true_eq] at h
  have : lgE b c = c * szT b := by
    unfold lgE at h ⊢
    split
    · rename_i hh
      rw [if_pos hh] at h
      omega
    · rfl
  omega
set_option maxRecDepth 100000 in
set_option maxHeartbeats 8000000 in
theorem eval_any (a b c d o : Int) (w : World) :
    Calls Try.prog 11 #[.agg (erow a b c d), .int .i64 o] w fun e w' => ∃ A' c', e = .returned (.tuple #[.agg (vrow (on (evB b c d o) b) (on (evB b c d o) c) A' (evL b c d o).length c'), .bool (evC b c d o), .bool (evB b c d o)]) ∧ Own .u8 5 w' w.heap.size (.slice A' (evL b c d o).length c') (evL b c d o) ∧ Below w.heap.size w w' := by
  obtain ⟨W, hW⟩ : ∃ W, W = (w.alloc (.cells (erow a b c d) 26)).alloc (.cells (vrow 0 0 none 0 0) 24) := ⟨_, rfl⟩
  have HB := Lib.hid (show Below w.heap.size w W by rw [hW]; exact ba (ba (brefl w) _) _)
  have HX := Lib.hid (show W.heap[w.heap.size]? = some (.cells (erow a b c d) 26 (0, 0)) by rw [hW, Below.heap_alloc _ _ _ (by simp)]; exact heap_alloc_new w _)
  have HR := Lib.hid (show W.heap[w.heap.size + 1]? = some (.cells (vrow 0 0 none 0 0) 24 (0, 0)) by
    have := heap_alloc_new (w.alloc (.cells (erow a b c d) 26)) (.cells (vrow 0 0 none 0 0) 24)
    rw [hW]
    simpa using this)
  have hsz : W.heap.size = w.heap.size + 2 := by rw [hW]; simp
  have HED := Lib.hid (show evB b c d o = (putB d 4 o && (inE b c && ofB b c (putL d 4 o) o)) ∧ evL b c d o = (if evB b c d o then ofL b c (putL d 4 o) o else []) ∧ evC b c d o = (evB b c d o && !((putL d 4 o).drop (evL b c d o).length).any nz) from ⟨rfl, rfl, rfl⟩)
  have HE0 := Lib.hid (show evB b c d o = false → evL b c d o = [] ∧ evC b c d o = false ∧ on (evB b c d o) b = 0 ∧ on (evB b c d o) c = 0 from fun h => ⟨by unfold evL; rw [h]; rfl, by unfold evC; rw [h]; rfl, by rw [h]; rfl, by rw [h]; rfl⟩)
  have k3 : ((w.alloc (.cells (erow a b c d) 26)).alloc (.cells (vrow 0 0 none 0 0) 24)).cell? ⟨w.heap.size, 3, none⟩ = some (.int .i64 d) := by rw [← hW]; exact row_cell HX.out 3 rfl
  go_enter Try.func11, Try.ntmps11
  go_wp2_with fail
  rw [← hW]
  clear hW k3
  refine (put_any d 4 o W).mono ?_
  rintro e w1 ⟨A1, c1, rfl, ho1, hb1⟩
  have HX1 := Lib.hid ((hb1.block _ (row_lt HX.out)).trans HX.out)
  have HR1 := Lib.hid ((hb1.block _ (row_lt HR.out)).trans HR.out)
  have HB1 := Lib.hid (HB.out.trans (hb1.mono HB.out.size))
  have HO1 := Lib.hid ho1
  have hs1 : W.heap.size ≤ w1.heap.size := hb1.size
  have HPB := Lib.hid (putL_byts d 4 o)
  have HPL := Lib.hid (fun h => putL_len (n := d) (s := 4) (o := o) h)
  clear ho1 hb1 HX HR HB
  generalize putL d 4 o = PL at *
  have k1 := row_cell (v := .int .i64 b) HX1.out 1 rfl
  have k2 := row_cell (v := .int .i64 c) HX1.out 2 rfl
  cases hp : putB d 4 o with
  | false =>
    have HE := Lib.hid (show evB b c d o = false by rw [HED.out.1, hp]; rfl)
    have HEz := Lib.hid (HE0.out HE.out)
    clear hp
    go_wp2_with ((with_reducible refine wpl_store_row rtV ?_ (.tmp 4) (.tmp 26) ?_ (w.heap.size + 1) ?_ (vrow 0 0 none 0 0) ?_ (vrow_one _ _ _ _ _) 24 ?_ _ ?_ HR1.out ?_); rfl; rfl; rfl; rfl; rfl; rfl; intro w7 hr7 hg7 hs7; (try simp only [Act.put]))
    rw [HEz.out.2.2.1, HEz.out.2.2.2, HEz.out.1, HEz.out.2.1, HE.out]
    exact bodyPost_ret (res_row_tmp2 rtV rfl _ _ (w.heap.size + 1) 24 (vrow 0 0 none 0 0) rfl (.bool false) (.bool false) rfl rfl rfl hr7) rfl ⟨none, 0, rfl, Own.nil_ _ _ _ _, HB1.out.grown hg7 HB1.out.size (fun k hk => by have e' : w.heap.size + 1 = k := Option.some.inj hk; omega)⟩

  | true =>
    have HP := Lib.hid hp
    clear hp
    go_wp2_with fail
    refine (inl_any b c w1).mono ?_
    rintro e w2 ⟨rfl, hb2⟩
    have HX2 := Lib.hid ((hb2.block _ (row_lt HX1.out)).trans HX1.out)
    have HR2 := Lib.hid ((hb2.block _ (row_lt HR1.out)).trans HR1.out)
    have HB2 := Lib.hid (HB1.out.trans (hb2.mono HB1.out.size))
    have HO2 := Lib.hid (HO1.out.keep hb2)
    have hs2 : w1.heap.size ≤ w2.heap.size := hb2.size
    clear hb2 HX1 HR1 HB1 HO1 k1 k2
    have k1 := row_cell (v := .int .i64 b) HX2.out 1 rfl
    have k2 := row_cell (v := .int .i64 c) HX2.out 2 rfl
    cases hi : inE b c with
    | false =>
      have HE := Lib.hid (show evB b c d o = false by rw [HED.out.1, HP.out, hi]; rfl)
      have HEz := Lib.hid (HE0.out HE.out)
      clear hi
      go_wp2_with ((with_reducible refine wpl_store_row rtV ?_ (.tmp 4) (.tmp 26) ?_ (w.heap.size + 1) ?_ (vrow 0 0 none 0 0) ?_ (vrow_one _ _ _ _ _) 24 ?_ _ ?_ HR2.out ?_); rfl; rfl; rfl; rfl; rfl; rfl; intro w7 hr7 hg7 hs7; (try simp only [Act.put]))
      rw [HEz.out.2.2.1, HEz.out.2.2.2, HEz.out.1, HEz.out.2.1, HE.out]
      exact bodyPost_ret (res_row_tmp2 rtV rfl _ _ (w.heap.size + 1) 24 (vrow 0 0 none 0 0) rfl (.bool false) (.bool false) rfl rfl rfl hr7) rfl ⟨none, 0, rfl, Own.nil_ _ _ _ _, HB2.out.grown hg7 HB2.out.size (fun k hk => by have e' : w.heap.size + 1 = k := Option.some.inj hk; omega)⟩

    | true =>
      have HI := Lib.hid (inE_len hi)
      have HED2 := Lib.hid (show evB b c d o = ofB b c PL o by rw [HED.out.1, HP.out, hi]; rfl)
      have HPL4 := Lib.hid (HPL.out HP.out)
      clear hi
      go_wp2_with fail
      refine (vof_any b c A1 PL c1 o w2 HO2.out.sl'.2 (by have := HPL4.out; omega) (own_cap HO2.out) HPB.out).mono ?_
      rintro e w3 ⟨A3, c3, rfl, ho3, hb3⟩
      have HX3 := Lib.hid ((hb3.block _ (row_lt HX2.out)).trans HX2.out)
      have HR3 := Lib.hid ((hb3.block _ (row_lt HR2.out)).trans HR2.out)
      have HB3 := Lib.hid (HB2.out.trans (hb3.mono HB2.out.size))
      have HO3 := Lib.hid (HO2.out.keep hb3)
      have HV3 := Lib.hid ho3
      have hs3 : w2.heap.size ≤ w3.heap.size := hb3.size
      clear ho3 hb3 HX2 HR2 HB2 HO2 k1 k2
      have HOFL := Lib.hid (fun h => ofL_len (k := b) (c := c) (l := PL) (o := o) h)
      cases hof : ofB b c PL o with
      | false =>
        have HE := Lib.hid (HED2.out.trans hof)
        have HEz := Lib.hid (HE0.out HE.out)
        have e0 : on false b = 0 := rfl
        have e1 : on false c = 0 := rfl
        rw [e0, e1]
        have hO0 : ofL b c PL o = [] := by unfold ofL; rw [hof]; rfl
        rw [hO0]
        clear hof e0 e1 hO0 HV3
        go_wp2_with (first | ((with_reducible refine wpl_store_row rtV ?_ (.tmp 4) (.tmp 35) ?_ (w.heap.size + 1) ?_ (vrow 0 0 A3 0 c3) ?_ (vrow_one _ _ _ _ _) 24 ?_ _ ?_ HR3.out ?_); rfl; rfl; rfl; rfl; rfl; rfl; intro w4 hr4 hg4 hs4; have HR4 := Lib.hid hr4; have HB4 := Lib.hid (HB3.out.grown hg4 HB3.out.size (fun k hk => by have e' : w.heap.size + 1 = k := Option.some.inj hk; omega)); clear hr4 hg4 hs4; (try simp only [Act.put])) | ((with_reducible refine wpl_store_row rtV ?_ (.tmp 4) (.tmp 39) ?_ (w.heap.size + 1) ?_ (vrow 0 0 none 0 0) ?_ (vrow_one _ _ _ _ _) 24 ?_ _ ?_ HR4.out ?_); rfl; rfl; rfl; rfl; rfl; rfl; intro w7 hr7 hg7 hs7; (try simp only [Act.put])))
        rw [HEz.out.2.2.1, HEz.out.2.2.2, HEz.out.1, HEz.out.2.1, HE.out]
        exact bodyPost_ret (res_row_tmp2 rtV rfl _ _ (w.heap.size + 1) 24 (vrow 0 0 none 0 0) rfl (.bool false) (.bool false) rfl rfl rfl hr7) rfl ⟨none, 0, rfl, Own.nil_ _ _ _ _, HB4.out.grown hg7 HB4.out.size (fun k hk => by have e' : w.heap.size + 1 = k := Option.some.inj hk; omega)⟩
      | true =>
        have HE := Lib.hid (HED2.out.trans hof)
        have HLN := Lib.hid (HOFL.out hof)
        have HEL := Lib.hid (show evL b c d o = ofL b c PL o by rw [HED.out.2.1, HE.out]; rfl)
        have HEC := Lib.hid (show evC b c d o = !((PL.drop (ofL b c PL o).length).any nz) by rw [HED.out.2.2, HE.out, HEL.out]; rfl)
        have e0 : on true b = b := rfl
        have e1 : on true c = c := rfl
        rw [e0, e1]
        clear hof e0 e1 HED2 HOFL
        generalize ofL b c PL o = OL at *
        have hol : OL.length ≤ PL.length := by have := HI.out; have := HPL4.out; have := HLN.out; omega
        have hpc := own_cap HO3.out
        have i1 : (OL.length : Int) ≤ (PL.length : Int) := by omega
        have i2 : (PL.length : Int) ≤ (c1 : Int) := by omega
        go_wp2_with ((with_reducible refine wpl_store_row rtV ?_ (.tmp 4) (.tmp 35) ?_ (w.heap.size + 1) ?_ (vrow b c A3 OL.length c3) ?_ (vrow_one _ _ _ _ _) 24 ?_ _ ?_ HR3.out ?_); rfl; rfl; rfl; rfl; rfl; rfl; intro w4 hr4 hg4 hs4; have HR4 := Lib.hid hr4; have HB4 := Lib.hid (HB3.out.grown hg4 HB3.out.size (fun k hk => by have e' : w.heap.size + 1 = k := Option.some.inj hk; omega)); have HO4 := Lib.hid (HO3.out.kept hg4 (by right; intro e; have h1 := (World.ownsRow.lt HO3.out _ e).1; omega)); have HV4 := Lib.hid (HV3.out.kept hg4 (by right; intro e; have h1 := (World.ownsRow.lt HV3.out _ e).1; omega)); have hs4' : w3.heap.size ≤ w4.heap.size := hg4.size; clear hr4 hg4 hs4 HR3 HB3 HO3 HV3; (try simp only [Act.put]))
        have hg1 : w.heap.size + 1 < w4.heap.size := row_lt HR4.out
        have HKR := Lib.hid (show ∀ W, Below w4.heap.size w4 W → W.heap[w.heap.size + 1]? = some (.cells (vrow b c A3 OL.length c3) 24 (0, 0)) from fun W h => (h.block _ hg1).trans HR4.out)
        have kb2 : ∀ p : Bel w4.heap.size w4.drew, p.w'.cell? ⟨w.heap.size + 1, 2, none⟩ = some (.slice A3 OL.length c3) := fun p => row_cell (((ud p.h).block _ hg1).trans HR4.out) 2 rfl
        have HC := Lib.hid (fun A' cap' (h : Sl .u8 w4.drew A' (PL.drop OL.length)) => contains_0 35 _ _ Try.func35 (by kernel_rfl) rfl nz A' (PL.drop OL.length) cap' w4.drew h (by rw [List.length_drop]; have := HPL4.out; omega) (fun j _ => some_any _ w4.drew))
        rw [List.length_drop] at HC
        by_cases hcc : c1 = OL.length
        · have HSC := Lib.hid (show Sl .u8 w4.drew A1 (PL.drop OL.length) from .inl (List.drop_eq_nil_of_le (by omega)))
          refine Tin.reg_begin w4.heap.size 12 (by rfl) (by kernel_rfl) ?_
          refine Tin.reg_quiets [0, 1, 2, 3, 4, 5, 6] _ 5 rfl (by simp only [Tin.pick, List.map_cons, List.map_nil, Array.getD_eq_getD_getElem?, List.getElem?_toArray, List.getElem?_cons_zero, List.getElem?_cons_succ, Option.getD_some]; rfl) (by kernel_rfl) (by kernel_rfl) ?_
          repeat (first | ((with_reducible refine wpq_load_row rtV ?_ (.tmp 4) ?_ (w.heap.size + 1) ?_ 24 (vrow b c A3 OL.length c3) ?_ (fun W h => by obtain ⟨p, rfl⟩ := h; exact HKR.out _ (ud p.h)) ?_); rfl; rfl; rfl; rfl; simp only [Act.put, List.setIfInBounds_toArray, List.set_cons_succ, List.set_cons_zero]) | go_big_quiet_step (fail))
          refine wpQuiet_nil ?_
          refine Tin.reg_one 7 _ rfl (by kernel_rfl) ?_
          try simp only [List.getElem_toArray, List.getElem_cons_succ, List.getElem_cons_zero]
          go_wp2_with fail
          refine (HC.out _ _ HSC.out).mono ?_
          rintro e w5 ⟨rfl, rfl⟩
          go_wp2_with fail
          refine ⟨w4.heap.size, brefl w4.drew, Nat.le_refl _, ?_⟩
          refine Tin.reg_quiets [8] _ 3 rfl (by simp only [Tin.pick, List.map_cons, List.map_nil, Array.getD_eq_getD_getElem?, List.getElem?_toArray, List.getElem?_cons_zero, List.getElem?_cons_succ, Option.getD_some]; rfl) (by kernel_rfl) (by kernel_rfl) ?_
          repeat (first | go_big_quiet_step (fail))
          refine wpQuiet_nil ?_
          refine Tin.reg_one 9 _ rfl (by kernel_rfl) ?_
          try simp only [List.getElem_toArray, List.getElem_cons_succ, List.getElem_cons_zero]
          refine wpl_store_row rtV rfl (.tmp 4) (.tmp 40) rfl (w.heap.size + 1) rfl (vrow b c A3 OL.length c3) rfl (vrow_one _ _ _ _ _) 24 rfl _ rfl (show w4.drew.heap[w.heap.size + 1]? = _ from HR4.out) ?_
          intro w6 hr6 hg6 hs6
          try simp only [Act.put]
          refine ⟨w4.heap.size, same_store (show w4.drew.heap[w.heap.size + 1]? = _ from HR4.out) hr6 hg6 (Nat.le_refl _), Nat.le_refl _, ?_⟩
          refine Tin.reg_quiets [10, 11] _ 0 rfl (by simp only [Tin.pick, List.map_cons, List.map_nil, Array.getD_eq_getD_getElem?, List.getElem?_toArray, List.getElem?_cons_zero, List.getElem?_cons_succ, Option.getD_some]; rfl) (by kernel_rfl) (by kernel_rfl) ?_
          repeat (first | go_big_quiet_step (fail))
          refine wpQuiet_nil ?_
          refine Tin.reg_done (by kernel_rfl) ?_
          go_wp2_with fail
          have HBZ := (ud' HB4.out).grown hg6 HB4.out.size (fun k hk => by have e' : w.heap.size + 1 = k := Option.some.inj hk; omega)
          have HOZ := (Own.drew HV4.out).kept hg6 (by right; intro e; have h1 := (World.ownsRow.lt HV4.out _ e).1; omega)
          rw [HEC.out, HEL.out, HE.out]
          exact bodyPost_ret (res_row_tmp2 rtV rfl _ _ (w.heap.size + 1) 24 (vrow b c A3 OL.length c3) rfl _ (.bool true) rfl rfl rfl hr6) rfl ⟨A3, c3, rfl, HOZ.mono (by omega), HBZ⟩
        · have HSC := Lib.hid ((Sl.cut (HO4.out.sl'.2) OL.length).keep (ud' (brefl w4)))
          refine Tin.reg_begin w4.heap.size 12 (by rfl) (by kernel_rfl) ?_
          refine Tin.reg_quiets [0, 1, 2, 3, 4, 5, 6] _ 5 rfl (by simp only [Tin.pick, List.map_cons, List.map_nil, Array.getD_eq_getD_getElem?, List.getElem?_toArray, List.getElem?_cons_zero, List.getElem?_cons_succ, Option.getD_some]; rfl) (by kernel_rfl) (by kernel_rfl) ?_
          repeat (first | ((with_reducible refine wpq_load_row rtV ?_ (.tmp 4) ?_ (w.heap.size + 1) ?_ 24 (vrow b c A3 OL.length c3) ?_ (fun W h => by obtain ⟨p, rfl⟩ := h; exact HKR.out _ (ud p.h)) ?_); rfl; rfl; rfl; rfl; simp only [Act.put, List.setIfInBounds_toArray, List.set_cons_succ, List.set_cons_zero]) | go_big_quiet_step (fail))
          refine wpQuiet_nil ?_
          refine Tin.reg_one 7 _ rfl (by kernel_rfl) ?_
          try simp only [List.getElem_toArray, List.getElem_cons_succ, List.getElem_cons_zero]
          go_wp2_with fail
          refine (HC.out _ _ HSC.out).mono ?_
          rintro e w5 ⟨rfl, rfl⟩
          go_wp2_with fail
          refine ⟨w4.heap.size, brefl w4.drew, Nat.le_refl _, ?_⟩
          refine Tin.reg_quiets [8] _ 3 rfl (by simp only [Tin.pick, List.map_cons, List.map_nil, Array.getD_eq_getD_getElem?, List.getElem?_toArray, List.getElem?_cons_zero, List.getElem?_cons_succ, Option.getD_some]; rfl) (by kernel_rfl) (by kernel_rfl) ?_
          repeat (first | go_big_quiet_step (fail))
          refine wpQuiet_nil ?_
          refine Tin.reg_one 9 _ rfl (by kernel_rfl) ?_
          try simp only [List.getElem_toArray, List.getElem_cons_succ, List.getElem_cons_zero]
          refine wpl_store_row rtV rfl (.tmp 4) (.tmp 40) rfl (w.heap.size + 1) rfl (vrow b c A3 OL.length c3) rfl (vrow_one _ _ _ _ _) 24 rfl _ rfl (show w4.drew.heap[w.heap.size + 1]? = _ from HR4.out) ?_
          intro w6 hr6 hg6 hs6
          try simp only [Act.put]
          refine ⟨w4.heap.size, same_store (show w4.drew.heap[w.heap.size + 1]? = _ from HR4.out) hr6 hg6 (Nat.le_refl _), Nat.le_refl _, ?_⟩
          refine Tin.reg_quiets [10, 11] _ 0 rfl (by simp only [Tin.pick, List.map_cons, List.map_nil, Array.getD_eq_getD_getElem?, List.getElem?_toArray, List.getElem?_cons_zero, List.getElem?_cons_succ, Option.getD_some]; rfl) (by kernel_rfl) (by kernel_rfl) ?_
          repeat (first | go_big_quiet_step (fail))
          refine wpQuiet_nil ?_
          refine Tin.reg_done (by kernel_rfl) ?_
          go_wp2_with fail
          have HBZ := (ud' HB4.out).grown hg6 HB4.out.size (fun k hk => by have e' : w.heap.size + 1 = k := Option.some.inj hk; omega)
          have HOZ := (Own.drew HV4.out).kept hg6 (by right; intro e; have h1 := (World.ownsRow.lt HV4.out _ e).1; omega)
          rw [HEC.out, HEL.out, HE.out]
          exact bodyPost_ret (res_row_tmp2 rtV rfl _ _ (w.heap.size + 1) 24 (vrow b c A3 OL.length c3) rfl _ (.bool true) rfl rfl rfl hr6) rfl ⟨A3, c3, rfl, HOZ.mono (by omega), HBZ⟩
end Go.Proofs.Ythjmnahmejagmaa
