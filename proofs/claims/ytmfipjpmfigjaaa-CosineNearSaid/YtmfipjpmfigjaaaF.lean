/- The contracts of ContainsFunc, and of done. -/
import Derived.Test.YtmfipjpmfigjaaaE
import Derived.Test.YtmfipjpmfigjaaaC
namespace Go.Proofs.Ytmfipjpmfigjaaa
open Go.RowKit
open Go.Tin
set_option linter.unusedVariables false
set_option linter.unusedSimpArgs false

theorem hcf (f : FuncId) (fn : Func) (c : Code) (hf : Try.prog.funcs[f]? = some fn) (hname : (fn.name == "runtime.NumGoroutine") = false) (hb : fn.body = some c) (vs : Array Value) (W : World) : (callFunc f vs).run Try.prog W = .ok (.enter f vs) W := by
  have hne : ¬ fn.name = "runtime.NumGoroutine" := by simpa using hname
  simp [callFunc, Sem.run_bind, run_program, hf, hb, hne]

/-- Is a number beyond what is served? -/
def bigB (n : Int) : Bool := decide (n < -32768) || decide (32768 < n)
theorem big_any (n : Int) (w : World) : Calls Try.prog 26 #[.int .i64 n] w fun e w' => e = .returned (.bool (bigB n)) ∧ w = w' := by
  by_cases h1 : n < -32768
  · have hb : bigB n = true := by simp [bigB, h1]
    rw [hb]
    go_enter Try.func26, Try.ntmps26
    go_wp2_with fail
    go_ret
    exact ⟨ret_bool (by simp), rfl⟩
  · have hb : bigB n = decide (32768 < n) := by simp [bigB, h1]
    have HB := Lib.hid hb
    clear hb
    go_enter Try.func26, Try.ntmps26
    go_wp2_with fail
    go_ret
    exact ⟨ret_bool (by rw [HB.out]), rfl⟩

theorem any_at (l : List Int) (q : Int → Bool) (j : Nat) (hj : j < l.length) (h : q (nth l j) = true) : l.any q = true := by
  rw [List.any_eq_true]
  exact ⟨l[j], List.getElem_mem hj, by simpa [nth, List.getD_eq_getElem?_getD, hj] using h⟩
theorem any_not (l : List Int) (q : Int → Bool) (h : ∀ j, j < l.length → q (nth l j) = false) : l.any q = false := by
  rw [List.any_eq_false]
  intro z hz
  obtain ⟨j, hj, rfl⟩ := List.mem_iff_getElem.1 hz
  have := h j hj
  simpa [nth, List.getD_eq_getElem?_getD, hj] using this

set_option maxRecDepth 100000 in
set_option maxHeartbeats 2000000 in
theorem index_any (A : Option Addr) (l : List Int) (c : Nat) (w : World) (hs : Sl .i64 w A l) (hl : l.length ≤ 1000000) :
    Calls Try.prog 28 #[.slice A l.length c, .func (.func 26) #[] #[]] w fun e w' => ∃ r : Int, e = .returned (.int .i64 r) ∧ decide (0 ≤ r) = l.any bigB ∧ w = w' := by
  have HS := Lib.hid hs
  clear hs
  have hf := hcf 26 Try.f26 _ Try.func26 (by kernel_rfl) rfl
  go_enter Try.func28, Try.ntmps28
  go_wp2_with fail
  go_loopw [8] (fun s8 wr => ∃ (i : Nat), i ≤ l.length ∧ s8 = .int .i64 (i : Int) ∧ (∀ j, j < i → bigB (nth l j) = false) ∧ w = wr) (fun s8 _ => l.length - (intOf s8).toNat)
  case atStart => exact ⟨0, by omega, rfl, fun j h => absurd h (Nat.not_lt_zero _), rfl⟩
  case round =>
    obtain ⟨i, hi, rfl, hno, rfl⟩ := hrel
    have HN := Lib.hid hno
    clear hno
    by_cases hil : i < l.length
    · have i1 : (i : Int) < (l.length : Int) := by omega
      obtain ⟨b, off, rfl, hlt, hcell⟩ := HS.out.at_ (by omega)
      have k0 := hcell i hil
      rw [show l.getD i 0 = nth l i from rfl] at k0
      clear hcell
      go_wp2_with fail
      refine Calls.mono (big_any (nth l i) w) ?_
      by_cases hq : bigB (nth l i) = true
      · rw [hq]
        rintro e w' ⟨rfl, rfl⟩
        go_wp2_with fail
        go_ret
        exact ⟨_, rfl, by rw [any_at l bigB i hil hq]; simp, rfl⟩
      · have hq' : bigB (nth l i) = false := by simpa using hq
        rw [hq']
        rintro e w' ⟨rfl, rfl⟩
        go_wp2_with fail
        go_roundw
        case rel => exact ⟨i + 1, by omega, by go_num, fun j hj => by rcases (by omega : j < i ∨ j = i) with h | rfl; exact HN.out j h; exact hq', by simp⟩
        case measure => simp [intOf]; omega
    · obtain rfl : i = l.length := by omega
      go_wp2_with fail
      go_ret
      exact ⟨_, rfl, by rw [any_not l bigB HN.out]; rfl, rfl⟩

set_option maxRecDepth 100000 in
theorem contains_any (A : Option Addr) (l : List Int) (c : Nat) (w : World) (hs : Sl .i64 w A l) (hl : l.length ≤ 1000000) :
    Calls Try.prog 25 #[.slice A l.length c, .func (.func 26) #[] #[]] w fun e w' => e = .returned (.bool (l.any bigB)) ∧ w = w' := by
  have HI := Lib.hid (index_any A l c w hs hl)
  go_enter Try.func25, Try.ntmps25
  go_wp2_with fail
  refine Calls.mono HI.out ?_
  rintro e w' ⟨r, rfl, hr, rfl⟩
  have HR := Lib.hid hr
  clear hr
  go_wp2_with fail
  go_ret
  exact ⟨ret_bool (by rw [HR.out]), rfl⟩

/-- Rounded. -/
def rnd (n : Int) : Int := (n + 2147483648) / 4294967296
def rndL (r : List Int) : List Int := full 64 fun i => rnd (nth r i)
def someL (r : List Int) (k : Nat) : List Int := full 64 fun i => if i < k then rnd (nth r i) else nth r i
theorem someL_len (r : List Int) (k : Nat) : (someL r k).length = 64 := by simp [someL]
theorem rowsL_len (F : Nat → Nat → Int) (l : List Int) : (rowsL F l).length = 64 := by simp [rowsL]
theorem rndL_len (r : List Int) : (rndL r).length = 64 := by simp [rndL]
theorem full_self (r : List Int) (n : Nat) (hr : r.length = n) : full n (fun i => nth r i) = r := by
  apply List.ext_getElem
  · simp [hr]
  · intro i h1 h2
    simp [full, nth, List.getD_eq_getElem?_getD, h2]
theorem someL_zero (r : List Int) (hr : r.length = 64) : someL r 0 = r := by
  rw [← full_self r 64 hr]
  exact full_congr _ _ _ fun i hi => by rw [if_neg (by omega), full_self r 64 hr]
theorem someL_all (r : List Int) : someL r 64 = rndL r := full_congr _ _ _ fun i hi => by rw [if_pos hi]
theorem someL_set (r : List Int) (k : Nat) (hk : k < 64) : (someL r k).set k (rnd (nth r k)) = someL r (k + 1) := by
  unfold someL
  apply List.ext_getElem
  · simp [full]
  · intro q h1 h2
    rw [List.getElem_set]
    simp only [full, List.getElem_map, List.getElem_range]
    by_cases hq : k = q
    · subst hq; simp
    · rw [if_neg hq]
      by_cases h : q < k
      · rw [if_pos h, if_pos (by omega)]
      · rw [if_neg h, if_neg (by omega)]
theorem nth_bd (l : List Int) (hno : l.any bigB = false) (i : Nat) : -32768 ≤ nth l i ∧ nth l i ≤ 32768 := by
  unfold nth
  rw [List.getD_eq_getElem?_getD]
  by_cases h : i < l.length
  · rw [List.getElem?_eq_getElem h]
    rw [List.any_eq_false] at hno
    have h2 := hno _ (List.getElem_mem h)
    simp [bigB] at h2
    simp only [Option.getD_some]
    omega
  · rw [List.getElem?_eq_none (by omega)]
    simp
theorem mul_bd2 {x y M R : Int} (hx : - M ≤ x ∧ x ≤ M) (hy : - R ≤ y ∧ y ≤ R) (hM : 0 ≤ M) (hR : 0 ≤ R) : - (M * R) ≤ x * y ∧ x * y ≤ M * R := by
  have h : (x * y).natAbs ≤ (M * R).natAbs := by
    rw [Int.natAbs_mul, Int.natAbs_mul]
    exact Nat.mul_le_mul (by omega) (by omega)
  have : 0 ≤ M * R := Int.mul_nonneg hM hR
  omega
theorem rowsL_bd (F : Nat → Nat → Int) (l : List Int) (K : Int) (hK0 : 0 ≤ K) (hK : ∀ i a b, - K ≤ nth l i * F a b ∧ nth l i * F a b ≤ K) (i : Nat) : - (8 * K) ≤ nth (rowsL F l) i ∧ nth (rowsL F l) i ≤ 8 * K := by
  by_cases h : i < 64
  · unfold rowsL
    rw [nth_full _ _ _ h]
    exact dot_bd F l K _ _ hK 8
  · unfold nth
    rw [List.getD_eq_getElem?_getD, List.getElem?_eq_none (by rw [rowsL_len]; omega)]
    simp
    omega

set_option maxRecDepth 100000 in
set_option maxHeartbeats 4000000 in
theorem done_no (l : List Int) (hl : l.length = 64) (fv : Value) (hyes : l.any bigB = true) (w : World) :
    Calls Try.prog 21 #[.agg (arr .i64 l), fv] w fun e w' => e = .returned (.tuple #[.agg (arr .i64 (List.replicate 64 0)), .int .i64 1]) ∧ Below w.heap.size w w' := by
  have HL := Lib.hid hl
  clear hl
  go_enter Try.func21, Try.ntmps21
  have q0 := heap_alloc2_old w (.cells (arr .i64 l) 26) (.cells (Array.replicate 64 (.int .i64 0)) 26)
  have q1 := heap_alloc2_new w (.cells (arr .i64 l) 26) (.cells (Array.replicate 64 (.int .i64 0)) 26)
  have hB := ba (ba (brefl w) (.cells (arr .i64 l) 26)) (.cells (Array.replicate 64 (.int .i64 0)) 26)
  have hz : ((w.alloc (.cells (arr .i64 l) 26)).alloc (.cells (Array.replicate 64 (.int .i64 0)) 26)).heap.size = w.heap.size + 2 := by simp
  rw [← arr_rep] at q1
  go_wp2_with fail
  generalize hW0 : (w.alloc _).alloc _ = W0
  replace q0 : W0.heap[w.heap.size]? = some (.cells (arr .i64 l) 26 (0, 0)) := by rw [← hW0]; exact q0
  replace q1 : W0.heap[w.heap.size + 1]? = some (.cells (arr .i64 (List.replicate 64 0)) 26 (0, 0)) := by rw [← hW0]; exact q1
  replace hB : Below w.heap.size w W0 := by rw [← hW0]; exact hB
  replace hz : W0.heap.size = w.heap.size + 2 := by rw [← hW0]; exact hz
  clear hW0
  have hs : Sl .i64 W0 (some ⟨w.heap.size, 0, none⟩) l := .inr ⟨_, 0, rfl, by omega, fun i hi => by rw [Nat.zero_add]; exact blk_cell q0 i hi⟩
  have hc := contains_any (some ⟨w.heap.size, 0, none⟩) l 64 W0 hs (by rw [HL.out]; omega)
  rw [HL.out, hyes] at hc
  refine Calls.mono hc ?_
  clear hc hs
  rintro e w' ⟨rfl, rfl⟩
  have H0 := Lib.hid q0
  have H1 := Lib.hid q1
  clear q0 q1
  go_wp2_with ((with_reducible refine wpl_store_row rt26 rfl (.tmp 4) (.tmp 11) rfl (w.heap.size + 1) rfl _ rfl ?_ 26 ?_ _ ?_ H1.out ?_); simp [Value.oneCell']; rfl; simp; intro w5 hr5 hg5 hs5)
  exact bodyPost_ret (res_row_tmp rt26 rfl _ _ (w.heap.size + 1) 26 _ rfl (.int .i64 1) rfl rfl hr5) rfl ⟨rfl, hB.grown hg5 hB.size (fun k hk => by cases hk; omega)⟩

set_option maxRecDepth 100000 in
set_option maxHeartbeats 4000000 in
theorem done_yes (F : Nat → Nat → Int) (l : List Int) (hl : l.length = 64) (hno : l.any bigB = false) (hb : ∀ a b, - 32768 ≤ F a b ∧ F a b ≤ 32768) (f : FuncId) (first cap : Array Value) (w : World)
    (hcf : ∀ (vs : Array Value) (W : World), (callFunc f vs).run Try.prog W = .ok (.enter f vs) W)
    (hcall : ∀ (W : World) (a b : Nat), Below w.heap.size w W → a < 8 → b < 8 → Calls Try.prog f (first ++ (#[.int .i64 (a : Int), .int .i64 (b : Int)] ++ cap)) W fun e w' => e = .returned (.int .i64 (F a b)) ∧ Below W.heap.size W w') :
    Calls Try.prog 21 #[.agg (arr .i64 l), .func (.func f) first cap] w fun e w' => e = .returned (.tuple #[.agg (arr .i64 (rndL (rowsL F (rowsL F l)))), .int .i64 0]) ∧ Below w.heap.size w w' := by
  have HL := Lib.hid hl
  have hK : ∀ i a b, - (32768 * 32768) ≤ nth l i * F a b ∧ nth l i * F a b ≤ 32768 * 32768 := fun i a b => mul_bd2 (nth_bd l hno i) (hb a b) (by decide) (by decide)
  have hR := rowsL_bd F l (32768 * 32768) (by decide) hK
  have hK2 : ∀ i a b, - (8 * (32768 * 32768) * 32768) ≤ nth (rowsL F l) i * F a b ∧ nth (rowsL F l) i * F a b ≤ 8 * (32768 * 32768) * 32768 := fun i a b => mul_bd2 (hR i) (hb a b) (by decide) (by decide)
  have hR2 := rowsL_bd F (rowsL F l) (8 * (32768 * 32768) * 32768) (by decide) hK2
  have HR2 := Lib.hid hR2
  have r1 := fun (W : World) (hw : Below w.heap.size w W) => rows_any F l hl (32768 * 32768) hK (by decide) (by decide) hb f first cap W hcf (fun Wd a b hbd ha hb' => hcall Wd a b (bt hw hbd) ha hb')
  have r2 := fun (W : World) (hw : Below w.heap.size w W) => rows_any F (rowsL F l) (rowsL_len F l) (8 * (32768 * 32768) * 32768) hK2 (by decide) (by decide) hb f first cap W hcf (fun Wd a b hbd ha hb' => hcall Wd a b (bt hw hbd) ha hb')
  have R1 := Lib.hid r1
  have R2 := Lib.hid r2
  clear hl hK hR hK2 hR2 r1 r2 hcall
  go_enter Try.func21, Try.ntmps21
  have q0 := heap_alloc2_old w (.cells (arr .i64 l) 26) (.cells (Array.replicate 64 (.int .i64 0)) 26)
  have q1 := heap_alloc2_new w (.cells (arr .i64 l) 26) (.cells (Array.replicate 64 (.int .i64 0)) 26)
  have hB := ba (ba (brefl w) (.cells (arr .i64 l) 26)) (.cells (Array.replicate 64 (.int .i64 0)) 26)
  have hz : ((w.alloc (.cells (arr .i64 l) 26)).alloc (.cells (Array.replicate 64 (.int .i64 0)) 26)).heap.size = w.heap.size + 2 := by simp
  rw [← arr_rep] at q1
  go_wp2_with fail
  generalize hW0 : (w.alloc _).alloc _ = W0
  replace q0 : W0.heap[w.heap.size]? = some (.cells (arr .i64 l) 26 (0, 0)) := by rw [← hW0]; exact q0
  replace q1 : W0.heap[w.heap.size + 1]? = some (.cells (arr .i64 (List.replicate 64 0)) 26 (0, 0)) := by rw [← hW0]; exact q1
  replace hB : Below w.heap.size w W0 := by rw [← hW0]; exact hB
  replace hz : W0.heap.size = w.heap.size + 2 := by rw [← hW0]; exact hz
  clear hW0
  have hs : Sl .i64 W0 (some ⟨w.heap.size, 0, none⟩) l := .inr ⟨_, 0, rfl, by omega, fun i hi => by rw [Nat.zero_add]; exact blk_cell q0 i hi⟩
  have hc := contains_any (some ⟨w.heap.size, 0, none⟩) l 64 W0 hs (by rw [HL.out]; omega)
  rw [HL.out, hno] at hc
  refine Calls.mono hc ?_
  clear hc hs
  rintro e w' ⟨rfl, rfl⟩
  have H0 := Lib.hid q0
  have H1 := Lib.hid q1
  clear q0 q1
  have R2L := Lib.hid (rowsL_len F (rowsL F l))
  go_wp2_with ((with_reducible refine wpl_load_row rt26 ?_ (.tmp 2) rfl w.heap.size rfl 26 _ ?_ H0.out ?_); rfl; simp [HL.out]; simp only [Act.put, List.setIfInBounds_toArray, List.set_cons_succ, List.set_cons_zero])
  refine Calls.mono (R1.out W0 hB) ?_
  rintro e w1 ⟨rfl, hb1⟩
  go_wp2_with fail
  refine Calls.mono (R2.out w1 (bt hB hb1)) ?_
  rintro e w2 ⟨rfl, hb2⟩
  generalize hrr : rowsL F (rowsL F l) = r at *
  have HRR := Lib.hid hrr
  clear hrr
  have hB2 := bt (bt hB hb1) hb2
  have hb12 := bt hb1 hb2
  have h2s := hb12.size
  have H12 := Lib.hid ((hb12.block _ (show w.heap.size + 1 < _ by omega)).trans H1.out)
  go_wp2_with (first | (with_reducible refine wpl_store_arr at25 rfl (.tmp 6) (.tmp 16) rfl w2.heap.size rfl rfl 25 R2L.out _ rfl (heap_alloc_new _ _) ?_; intro w5 hr5 hg5 hs5; have H5 := Lib.hid hr5; clear hr5; simp only [Act.put]) | ((with_reducible refine wpl_load_row rt25 ?_ (.tmp 6) rfl w2.heap.size rfl 25 _ ?_ H5.out ?_); rfl; simp [R2L.out]; simp only [Act.put, List.setIfInBounds_toArray, List.set_cons_succ, List.set_cons_zero]))
  have hb5 : Below w2.heap.size w2 w5 := (ba (brefl w2) _).grown hg5 (by simp) (fun k hk => by cases hk; exact Nat.le_refl _)
  have g5 : w2.heap.size < w5.heap.size := by rw [hs5]; simp
  have hB5 := bt hB2 hb5
  have hz5 : w.heap.size + 1 < w2.heap.size := by omega
  have H15 := (hb5.block _ hz5).trans H12.out
  have h5 := H5.out
  rw [← someL_zero r R2L.out] at h5
  clear hg5 hs5 H12 H0 H1 hB hb1 hb2 hb12 hB2 hz h2s R1 R2 hb5
  generalize w2.heap.size = g at *
  go_loopw [18] (fun s18 wr => ∃ (i : Nat), i ≤ 64 ∧ s18 = .int .i64 (i : Int) ∧ wr.heap[g]? = some (.cells (arr .i64 (someL r i)) 25 (0, 0)) ∧ wr.heap[w.heap.size + 1]? = some (.cells (arr .i64 (List.replicate 64 0)) 26 (0, 0)) ∧ Below w.heap.size w wr ∧ g < wr.heap.size) (fun s18 _ => 64 - (intOf s18).toNat)
  case atStart => exact ⟨0, by omega, rfl, h5, H15, hB5, g5⟩
  case round =>
    clear h5 H15 hB5 g5 H5
    obtain ⟨i, hi, rfl, hG, hZ, hB, hg⟩ := hrel
    by_cases hi64 : i < 64
    · have i1 : (i : Int) < 64 := by omega
      have hix := idx_run at25 R2L.out .i64 i hi64 wr
      have hbd := HR2.out i
      have hb1 : -1000000000000000000 ≤ nth r i := by omega
      have hb2 : nth r i ≤ 1000000000000000000 := by omega
      have c2 := row_cell hG i (arr_get i (by rw [someL_len]; exact hi64))
      have c3 := frozen_of_row wr _ i _ _ hG
      have hset : (wr.setCell ⟨g, i, none⟩ (.int .i64 (rnd (nth r i)))).heap[g]? = some (.cells (arr .i64 (someL r (i + 1))) 25 (0, 0)) := by rw [blk_set hG, someL_set _ _ hi64]
      have HSet := Lib.hid hset
      have HZ := Lib.hid hZ
      clear hG hset hbd hZ
      go_wp2_with fail
      go_roundw
      case rel => exact ⟨i + 1, by omega, by go_num, HSet.out, by rw [heap_setCell_other _ _ _ _ (by show w.heap.size + 1 ≠ g; omega)]; exact HZ.out, hB.setCell (by show w.heap.size ≤ g; omega) _, by simpa [World.setCell] using hg⟩
      case measure => simp [intOf]; omega
    · obtain rfl : i = 64 := by omega
      have HG := Lib.hid hG
      have HZ := Lib.hid hZ
      clear hG hZ
      go_wp2_with (first | ((with_reducible refine wpl_load_row rt25 ?_ (.tmp 6) rfl g rfl 25 _ ?_ HG.out ?_); rfl; simp [someL_len]; simp only [Act.put, List.setIfInBounds_toArray, List.set_cons_succ, List.set_cons_zero]) | ((with_reducible refine wpl_store_row rt26 rfl (.tmp 4) (.tmp 28) rfl (w.heap.size + 1) rfl _ rfl arr_one 26 ?_ _ ?_ HZ.out ?_); simp [someL_len]; simp; intro w6 hr6 hg6 hs6; simp only [Act.put, List.setIfInBounds_toArray, List.set_cons_succ, List.set_cons_zero]))
      exact bodyPost_ret (res_row_tmp rt26 rfl _ _ (w.heap.size + 1) 26 _ rfl (.int .i64 0) rfl (by simp [someL_len]) hr6) rfl ⟨by rw [someL_all, HRR.out], hB.grown hg6 hB.size (fun k hk => by cases hk; omega)⟩
end Go.Proofs.Ytmfipjpmfigjaaa
