/- Texts put together: OcM, OcA, OcB, OcC, OcE, OcF. -/
import Derived.Test.YtfohajgljjffgaaLb
import Derived.Laws.BitsAllLaws
import Derived.Test.YtfohajgljjffgaaRows
import Derived.WalkKit
import Derived.Lib.Hide
import Derived.Outline
import Derived.OpenShut
import Derived.Maps.RangeWalk
import Derived.Maps.AppendAt
/- The plain law of numbers in bytes: what a number's bytes are, what bytes say, signed numbers, turned rows. No program in sight. -/
namespace Go.Tin
open Go.RowKit
set_option linter.unusedSimpArgs false
set_option linter.unusedVariables false

/-- One more than the greatest number of a size. -/
def topI (s : Int) : Int := if s = 1 then 256 else if s = 2 then 65536 else if s = 4 then 4294967296 else 0
def szB (s : Int) : Bool := decide (s = 1) || (decide (s = 2) || decide (s = 4))
def orB (o : Int) : Bool := decide (o = 1) || decide (o = 2)
/-- May a size and an order be? -/
def mayO (s o : Int) : Bool := szB s && orB o
theorem szB_t {s : Int} (h : szB s = true) : s = 1 ∨ s = 2 ∨ s = 4 := by unfold szB at h; simpa using h
theorem szB_f {s : Int} (h : szB s = false) : s ≠ 1 ∧ s ≠ 2 ∧ s ≠ 4 := by unfold szB at h; simpa using h
theorem orB_t {o : Int} (h : orB o = true) : o = 1 ∨ o = 2 := by unfold orB at h; simpa using h
theorem orB_f {o : Int} (h : orB o = false) : o ≠ 1 ∧ o ≠ 2 := by unfold orB at h; simpa using h
theorem topI_pos {s : Int} (h : szB s = true) : 256 ≤ topI s ∧ topI s ≤ 4294967296 := by
  rcases szB_t h with rfl | rfl | rfl <;> decide
theorem topI_no {s : Int} (h : szB s = false) : topI s = 0 := by
  obtain ⟨h1, h2, h4⟩ := szB_f h
  unfold topI
  rw [if_neg h1, if_neg h2, if_neg h4]

/-- The number of bytes, the greatest one first. -/
def be (l : List Int) : Int := l.foldl (fun n x => 256 * n + x) 0
theorem be_snoc (l : List Int) (x : Int) : be (l ++ [x]) = 256 * be l + x := by simp [be]
/-- Bytes in an order. -/
def ordL (o : Int) (l : List Int) : List Int := if o = 1 then l.reverse else l
/-- Is there a number of that size? -/
def getB (n : Nat) (at_ s o : Int) : Bool := mayO s o && (decide (0 ≤ at_) && decide (at_ ≤ (n : Int) - s))
def getN (l : List Int) (at_ s o : Int) : Int := if getB l.length at_ s o = true then be (ordL o ((l.drop at_.toNat).take s.toNat)) else 0
/-- A number's bytes, the greatest one first. -/
def bytesOf : Nat → Int → List Int
  | 0, _ => []
  | k + 1, n => bytesOf k (n / 256) ++ [n % 256]
theorem bytesOf_len : ∀ (k : Nat) (n : Int), (bytesOf k n).length = k
  | 0, _ => rfl
  | k + 1, n => by rw [bytesOf, List.length_append, bytesOf_len k]; rfl
def putB (n s o : Int) : Bool := mayO s o && (decide (0 ≤ n) && decide (n < topI s))
def putL (n s o : Int) : List Int := if putB n s o = true then ordL o (bytesOf s.toNat n) else []
def sgB (n s : Int) : Bool := decide (0 ≤ n) && decide (n < topI s)
def sgN (n s : Int) : Int := if sgB n s = true then (if topI s ≤ 2 * n then n - topI s else n) else 0
def plB (n s : Int) : Bool := decide (-(topI s / 2) ≤ n) && decide (n < topI s / 2)
def plN (n s : Int) : Int := if plB n s = true then (if n < 0 then n + topI s else n) else 0
def addB (a b : Int) : Bool := decide (0 ≤ a) && decide (0 ≤ b) && decide (a + b ≤ 4294967295)
def addN (a b : Int) : Int := if addB a b = true then a + b else 0
def roomB (a l e : Int) : Bool := decide (0 ≤ a) && (decide (0 ≤ l) && (decide (a ≤ e) && decide (l ≤ e - a)))
def evenN (n : Int) : Int := n + n % 2

/-- May bytes be turned so? -/
def turnB (s o : Int) : Bool := (szB s || decide (s = 8)) && orB o
/-- Which byte stands at a place behind the turn. -/
def turnI (n s : Nat) (o : Int) (i : Nat) : Nat := if o = 1 ∧ i < n - n % s then i - i % s + (s - 1 - i % s) else i
def turnL (l : List Int) (s o : Int) : List Int := if turnB s o = true then (List.range l.length).map (fun i => nth l (turnI l.length s.toNat o i)) else []

theorem i64_or_byte (n x : Int) (h0 : 0 ≤ n) (h1 : n < 4294967296) (x0 : 0 ≤ x) (x1 : x < 256) : bits .or .i64 (n * 256) x = n * 256 + x := by
  obtain ⟨a, rfl⟩ := Int.eq_ofNat_of_zero_le h0
  obtain ⟨b, rfl⟩ := Int.eq_ofNat_of_zero_le x0
  have ha : a < 4294967296 := by omega
  have hb : b < 256 := by omega
  have e1 : ((a : Int) * 256) = ((a * 256 : Nat) : Int) := by omega
  rw [e1]
  have h1 : (BitVec.ofInt 64 ((a * 256 : Nat) : Int)).toNat = a * 256 := by
    rw [BitVec.ofInt_natCast, BitVec.toNat_ofNat]; exact Nat.mod_eq_of_lt (by omega)
  have h2 : (BitVec.ofInt 64 (b : Int)).toNat = b := by
    rw [BitVec.ofInt_natCast, BitVec.toNat_ofNat]; exact Nat.mod_eq_of_lt (by omega)
  show IntKind.i64.wrap ((BitVec.ofInt 64 ((a * 256 : Nat) : Int) ||| BitVec.ofInt 64 (b : Int)).toNat : Int) = _
  rw [BitVec.toNat_or, h1, h2, nat_join 8 (a * 256) b (by omega) (by omega), wrap_i64]
  have : ((a * 256 + b : Nat) : Int) % 18446744073709551616 = ((a * 256 + b : Nat) : Int) := by omega
  rw [this, if_neg (by omega)]
  omega

theorem be_aux : ∀ (l : List Int) (m : Nat) (n : Int), 0 ≤ n → n < 256 ^ m → (∀ x ∈ l, 0 ≤ x ∧ x < 256) → 0 ≤ l.foldl (fun n x => 256 * n + x) n ∧ l.foldl (fun n x => 256 * n + x) n < 256 ^ (m + l.length)
  | [], _, _, h0, h1, _ => ⟨h0, h1⟩
  | x :: l, m, n, h0, h1, h => by
    obtain ⟨x0, x1⟩ := h x (by simp)
    have e : (256 : Int) ^ (m + 1) = 256 ^ m * 256 := Int.pow_succ ..
    have := be_aux l (m + 1) (256 * n + x) (by omega) (by omega) (fun y hy => h y (by simp [hy]))
    rw [List.foldl_cons, List.length_cons, show m + (l.length + 1) = m + 1 + l.length by omega]
    exact this
theorem be_bd (l : List Int) (h : ∀ x ∈ l, 0 ≤ x ∧ x < 256) : 0 ≤ be l ∧ be l < 256 ^ l.length := by
  have := be_aux l 0 0 (by omega) (by decide) h
  simpa [be] using this
end Go.Tin
/- The contracts of a size and an order: may, top. -/
namespace Go.Proofs.Ytfohajgljjffgaa
open Go.RowKit
open Go.Tin
set_option linter.unusedVariables false
set_option linter.unusedSimpArgs false


theorem hcf (f : FuncId) (fn : Func) (c : Code) (hf : Try.prog.funcs[f]? = some fn) (hname : (fn.name == "runtime.NumGoroutine") = false) (hb : fn.body = some c) (vs : Array Value) (W : World) : (callFunc f vs).run Try.prog W = .ok (.enter f vs) W := by
  have hne : ¬ fn.name = "runtime.NumGoroutine" := by simpa using hname
  simp [callFunc, Sem.run_bind, run_program, hf, hb, hne]
theorem any_at (l : List Int) (q : Int → Bool) (j : Nat) (hj : j < l.length) (h : q (nth l j) = true) : l.any q = true := by
  rw [List.any_eq_true]
  exact ⟨l[j], List.getElem_mem hj, by simpa [nth, List.getD_eq_getElem?_getD, hj] using h⟩
theorem any_not (l : List Int) (q : Int → Bool) (h : ∀ j, j < l.length → q (nth l j) = false) : l.any q = false := by
  rw [List.any_eq_false]
  intro z hz
  obtain ⟨j, hj, rfl⟩ := List.mem_iff_getElem.1 hz
  have := h j hj
  simpa [nth, List.getD_eq_getElem?_getD, hj] using this

/- slices.ContainsFunc of integers ([]int), with a function that has captured one places. -/
set_option maxRecDepth 100000 in
set_option maxHeartbeats 2000000 in
theorem index_1 (F : FuncId) (fn : Func) (cd : Code) (hfn : Try.prog.funcs[F]? = some fn) (hname : (fn.name == "runtime.NumGoroutine") = false) (hbd : fn.body = some cd) (p : Value) (q : Int → Bool) (A : Option Addr) (l : List Int) (c : Nat) (w : World) (hs : Sl .i64 w A l) (hl : l.length ≤ 1000000000)
    (hq : ∀ j, j < l.length → Calls Try.prog F #[.int .i64 (nth l j), p] w fun e w' => e = .returned (.bool (q (nth l j))) ∧ w = w') :
    Calls Try.prog 62 #[.slice A l.length c, .func (.func F) #[] #[p]] w fun e w' => ∃ r : Int, e = .returned (.int .i64 r) ∧ decide (0 ≤ r) = l.any q ∧ w = w' := by
  have HS := Lib.hid hs
  have HQ := Lib.hid hq
  clear hs hq
  have hf := hcf F fn cd hfn hname hbd
  clear hfn hname hbd
  go_enter Try.func62, Try.ntmps62
  go_wp2_with fail
  go_loopw [8] (fun s8 wr => ∃ (i : Nat), i ≤ l.length ∧ s8 = .int .i64 (i : Int) ∧ (∀ j, j < i → q (nth l j) = false) ∧ w = wr) (fun s8 _ => l.length - (intOf s8).toNat)
  case atStart => exact ⟨0, by omega, rfl, fun j h => absurd h (Nat.not_lt_zero _), rfl⟩
  case round =>
    obtain ⟨i, hi, rfl, hno, rfl⟩ := hrel
    have HN := Lib.hid hno
    clear hno
    by_cases hil : i < l.length
    · have i1 : (i : Int) < (l.length : Int) := by omega
      obtain ⟨b, off, rfl, hlt, hcell⟩ := HS.out.at_ (by omega)
      have k0 := hcell i hil
      rw [show l.getD i 0 = nth l i from rfl] at k0
      clear hcell
      go_wp2_with fail
      refine Calls.mono (HQ.out i hil) ?_
      by_cases hq : q (nth l i) = true
      · rw [hq]
        rintro e w' ⟨rfl, rfl⟩
        go_wp2_with fail
        go_ret
        exact ⟨_, rfl, by rw [any_at l q i hil hq]; simp, rfl⟩
      · have hq' : q (nth l i) = false := by simpa using hq
        rw [hq']
        rintro e w' ⟨rfl, rfl⟩
        go_wp2_with fail
        go_roundw
        case rel => exact ⟨i + 1, by omega, by go_num, fun j hj => by rcases (by omega : j < i ∨ j = i) with h | rfl; exact HN.out j h; exact hq', by simp⟩
        case measure => simp [intOf]; omega
    · obtain rfl : i = l.length := by omega
      go_wp2_with fail
      go_ret
      exact ⟨_, rfl, by rw [any_not l q HN.out]; rfl, rfl⟩
set_option maxRecDepth 100000 in
theorem contains_1 (F : FuncId) (fn : Func) (cd : Code) (hfn : Try.prog.funcs[F]? = some fn) (hname : (fn.name == "runtime.NumGoroutine") = false) (hbd : fn.body = some cd) (p : Value) (q : Int → Bool) (A : Option Addr) (l : List Int) (c : Nat) (w : World) (hs : Sl .i64 w A l) (hl : l.length ≤ 1000000000)
    (hq : ∀ j, j < l.length → Calls Try.prog F #[.int .i64 (nth l j), p] w fun e w' => e = .returned (.bool (q (nth l j))) ∧ w = w') :
    Calls Try.prog 60 #[.slice A l.length c, .func (.func F) #[] #[p]] w fun e w' => e = .returned (.bool (l.any q)) ∧ w = w' := by
  have HI := Lib.hid (index_1 F fn cd hfn hname hbd p q A l c w hs hl hq)
  clear hs hq hfn hname hbd
  go_enter Try.func60, Try.ntmps60
  go_wp2_with fail
  refine Calls.mono HI.out ?_
  rintro e w' ⟨r, rfl, hr, rfl⟩
  have HR := Lib.hid hr
  clear hr
  go_wp2_with fail
  go_ret
  exact ⟨ret_bool (by rw [HR.out]), rfl⟩


theorem may1_any (s x : Int) (g : Nat) (w : World) (hc : w.cell? ⟨g, 0, none⟩ = some (.int .i64 s)) : Calls Try.prog 61 #[.int .i64 x, .pointer (some ⟨g, 0, none⟩)] w fun e w' => e = .returned (.bool (decide (x = s))) ∧ w = w' := by
  go_enter Try.func61, Try.ntmps61
  go_wp2_with fail
  go_ret
  exact ⟨rfl, rfl⟩

theorem szB_any (s : Int) : ([1, 2, 4] : List Int).any (fun x => decide (x = s)) = szB s := by
  unfold szB
  simp only [List.any_cons, List.any_nil, Bool.or_false]
  rw [Bool.eq_iff_iff]
  simp only [Bool.or_eq_true, decide_eq_true_eq]
  omega

set_option maxRecDepth 100000 in
theorem may_any (s o : Int) (w : World) : Calls Try.prog 53 #[.int .i64 s, .int .i64 o] w fun e w' => e = .returned (.bool (mayO s o)) ∧ Below w.heap.size w w' := by
  have HC : ∀ W : World, W.cell? ⟨w.heap.size, 0, none⟩ = some (.int .i64 s) → Hid (∀ j, j < ([1, 2, 4] : List Int).length → Calls Try.prog 61 #[.int .i64 (nth [1, 2, 4] j), .pointer (some ⟨w.heap.size, 0, none⟩)] W fun e w' => e = .returned (.bool ((fun x => decide (x = s)) (nth [1, 2, 4] j))) ∧ W = w') := fun W hW => Lib.hid fun j _ => may1_any s _ _ W hW
  go_enter Try.func53, Try.ntmps53
  go_wp2_with fail
  generalize hW3 : (w.alloc _).alloc _ = W3 at *
  have hb3 : Below w.heap.size w W3 := by rw [← hW3]; exact ba (ba (brefl w) _) _
  have hc3 : W3.cell? ⟨w.heap.size, 0, none⟩ = some (.int .i64 s) := by rw [← hW3]; simp [go_sem]
  have hs3 : Sl .i64 W3 (some ⟨w.heap.size + 1, 0, none⟩) [1, 2, 4] := by rw [← hW3]; have := Sl.new_ (k := .i64) (w.alloc (.cells #[.int .i64 s] 3)) 77 #[.int .i64 1, .int .i64 2, .int .i64 4] [1, 2, 4] rfl; simpa using this
  clear hW3
  refine (contains_1 61 _ _ Try.func61 (by kernel_rfl) rfl _ (fun x => decide (x = s)) (some ⟨w.heap.size + 1, 0, none⟩) [1, 2, 4] 3 W3 hs3 (by simp) (HC W3 hc3).out).mono ?_
  rintro e w' ⟨rfl, rfl⟩
  rw [szB_any]
  clear HC hs3 hc3
  by_cases h : szB s = true
  · have HR := Lib.hid (show mayO s o = orB o by unfold mayO; rw [h]; rfl)
    rw [h]
    clear h
    by_cases h1 : o = 1
    · subst h1
      go_wp2_with fail
      go_ret
      exact ⟨ret_bool (by rw [HR.out]; rfl), hb3⟩
    · have d1 : (o == 1) = false := by simpa using h1
      have HO := Lib.hid (show orB o = decide (o = 2) by unfold orB; simp [h1])
      clear h1
      go_wp2_with fail
      go_ret
      exact ⟨ret_bool (HR.out.trans HO.out).symm, hb3⟩
  · have h' : szB s = false := by simpa using h
    have HR := Lib.hid (show mayO s o = false by unfold mayO; rw [h']; rfl)
    rw [h']
    clear h h'
    go_wp2_with fail
    go_ret
    exact ⟨ret_bool (by rw [HR.out]), hb3⟩

theorem top_any (s : Int) (w : World) (hs : szB s = true) : Calls Try.prog 54 #[.int .i64 s] w fun e w' => e = .returned (.int .i64 (topI s)) ∧ w = w' := by
  rcases szB_t hs with rfl | rfl | rfl <;> clear hs <;> (go_enter Try.func54, Try.ntmps54; go_wp2_with fail; go_ret; exact ⟨ret_int (by decide), rfl⟩)
end Go.Proofs.Ytfohajgljjffgaa
/- The contracts of bytes compared, and of bytes in memory of their own. -/
namespace Go.Proofs.Ytfohajgljjffgaa
open Go.RowKit
open Go.Tin
set_option linter.unusedVariables false
set_option linter.unusedSimpArgs false


theorem bt5 : ST Try.prog 22 5 .u8 1 := ST.of Try.underlying22 Try.underlying5 (by kernel_rfl)

/- Two slices of integers compared, number by number: tintyperef01.Same. -/
end Go.Proofs.Ytfohajgljjffgaa
/- The contracts of Get and its reference: the number in bytes. -/
namespace Go.Proofs.Ytfohajgljjffgaa
open Go.RowKit
open Go.Tin
set_option linter.unusedVariables false
set_option linter.unusedSimpArgs false


/-- The bytes of a number, in the order of their weight. -/
def segO (l : List Int) (a s o : Int) : List Int := ordL o ((l.drop a.toNat).take s.toNat)
theorem getB_t {n : Nat} {a s o : Int} (h : getB n a s o = true) : szB s = true ∧ orB o = true ∧ 0 ≤ a ∧ a ≤ (n : Int) - s := by
  unfold getB mayO at h
  simp only [Bool.and_eq_true, decide_eq_true_eq] at h
  exact ⟨h.1.1, h.1.2, h.2.1, h.2.2⟩
theorem seg_len (l : List Int) (a s : Nat) (h : a + s ≤ l.length) : ((l.drop a).take s).length = s := by
  rw [List.length_take, List.length_drop]; omega
theorem seg_nth (l : List Int) (a s i : Nat) (h : a + s ≤ l.length) (hi : i < s) : nth ((l.drop a).take s) i = nth l (a + i) := by
  unfold nth
  simp [List.getD_eq_getElem?_getD, hi]
theorem rev_nth (l : List Int) (i : Nat) (hi : i < l.length) : nth l.reverse i = nth l (l.length - 1 - i) := by
  unfold nth
  rw [List.getD_eq_getElem?_getD, List.getElem?_reverse hi, List.getD_eq_getElem?_getD]
theorem segO_len (l : List Int) (a s : Nat) (o : Int) (h : a + s ≤ l.length) : (segO l a s o).length = s := by
  unfold segO ordL
  split <;> simp [seg_len l a s h, List.length_reverse]
theorem segO_nth (l : List Int) (a s i : Nat) (o : Int) (h : a + s ≤ l.length) (hi : i < s) : nth (segO l a s o) i = nth l (if o = 1 then a + s - 1 - i else a + i) := by
  unfold segO ordL
  simp only [Int.toNat_natCast]
  split
  · rw [rev_nth _ _ (by rw [seg_len l a s h]; exact hi), seg_len l a s h, seg_nth l a s _ h (by omega)]
    congr 1
    omega
  · rw [seg_nth l a s i h hi]
theorem be_step (l : List Int) (i : Nat) (h : i < l.length) : be (l.take (i + 1)) = be (l.take i) * 256 + nth l i := by
  rw [take_snoc_nth l i h, be_snoc]; omega
def Byts (l : List Int) : Prop := ∀ x ∈ l, 0 ≤ x ∧ x < 256
theorem Byts.nth {l : List Int} (h : Byts l) (i : Nat) : 0 ≤ nth l i ∧ nth l i < 256 := by
  unfold Tin.nth
  rw [List.getD_eq_getElem?_getD]
  by_cases hj : i < l.length
  · rw [List.getElem?_eq_getElem hj]; exact h _ (List.getElem_mem hj)
  · rw [List.getElem?_eq_none (by omega)]; simp
theorem Byts.sub {l m : List Int} (h : Byts l) (hm : ∀ x ∈ m, x ∈ l) : Byts m := fun x hx => h x (hm x hx)
theorem Byts.seg {l : List Int} (h : Byts l) (a s o : Int) : Byts (segO l a s o) := h.sub fun x hx => by
  unfold segO ordL at hx
  have key : ∀ y, y ∈ (l.drop a.toNat).take s.toNat → y ∈ l := fun y hy => List.mem_of_mem_drop (List.mem_of_mem_take hy)
  split at hx
  · exact key x (List.mem_reverse.1 hx)
  · exact key x hx
theorem Byts.take {l : List Int} (h : Byts l) (i : Nat) : Byts (l.take i) := h.sub fun _ hx => List.mem_of_mem_take hx
theorem Byts.drop {l : List Int} (h : Byts l) (i : Nat) : Byts (l.drop i) := h.sub fun _ hx => List.mem_of_mem_drop hx
theorem byts_wf {l : List Int} (h : ∀ z ∈ l, (Lit.int .u8 z).wf = true) : Byts l := fun z hz => by
  have := Go.bounds_u8 (h z hz)
  omega
theorem ret_ib {a b : Int} {p q : Bool} (h : a = b) (h' : p = q) : Ending.returned (.tuple #[.int .i64 a, .bool p]) = .returned (.tuple #[.int .i64 b, .bool q]) := by rw [h, h']
theorem be_top {l : List Int} (h : Byts l) {k : Nat} (hk : l.length ≤ k) (hk4 : k ≤ 4) : 0 ≤ be l ∧ be l < 4294967296 ∧ (k ≤ 3 → be l < 16777216) := by
  obtain ⟨h0, h1⟩ := be_bd l h
  have key : (256 : Int) ^ l.length ≤ 256 ^ k := by
    rcases (by omega : k = 0 ∨ k = 1 ∨ k = 2 ∨ k = 3 ∨ k = 4) with rfl | rfl | rfl | rfl | rfl <;>
      (rcases (by omega : l.length = 0 ∨ l.length = 1 ∨ l.length = 2 ∨ l.length = 3 ∨ l.length = 4) with e | e | e | e | e <;> rw [e] at hk ⊢ <;> first | decide | omega)
  refine ⟨h0, ?_, fun hk3 => ?_⟩
  · have : (256 : Int) ^ k ≤ 256 ^ 4 := by rcases (by omega : k = 0 ∨ k = 1 ∨ k = 2 ∨ k = 3 ∨ k = 4) with rfl | rfl | rfl | rfl | rfl <;> decide
    have e : (256 : Int) ^ 4 = 4294967296 := by decide
    omega
  · have : (256 : Int) ^ k ≤ 256 ^ 3 := by rcases (by omega : k = 0 ∨ k = 1 ∨ k = 2 ∨ k = 3) with rfl | rfl | rfl | rfl <;> decide
    have e : (256 : Int) ^ 3 = 16777216 := by decide
    omega

set_option maxRecDepth 100000 in
set_option maxHeartbeats 1000000 in
theorem get_no (A : Option Addr) (n c : Nat) (a s o : Int) (w : World) (hn : n ≤ 1000000000) (hno : getB n a s o = false) :
    Calls Try.prog 46 #[.slice A n c, .int .i64 a, .int .i64 s, .int .i64 o] w fun e w' => e = .returned (.tuple #[.int .i64 0, .bool false]) ∧ Below w.heap.size w w' := by
  go_enter Try.func46, Try.ntmps46
  go_wp2_with fail
  refine (may_any s o w).mono ?_
  rintro e w1 ⟨rfl, hb⟩
  by_cases hm : mayO s o = true
  · unfold getB at hno
    rw [hm, Bool.true_and] at hno
    rw [hm]
    have hs : szB s = true := by unfold mayO at hm; rw [Bool.and_eq_true] at hm; exact hm.1
    have hs' := szB_t hs
    have s0 : 0 ≤ s := by omega
    have s1 : s ≤ 4 := by omega
    clear hm hs hs'
    by_cases h0 : a < 0
    · have d0 : decide (a < 0) = true := by simpa using h0
      clear hno
      go_wp2_with fail
      go_ret2
      exact ⟨rfl, hb⟩
    · have d0 : decide (a < 0) = false := by simpa using h0
      have d1 : decide ((n : Int) - s < a) = true := by simp at hno; simp; omega
      clear hno
      go_wp2_with fail
      go_ret2
      exact ⟨rfl, hb⟩
  · have hm' : mayO s o = false := by simpa using hm
    rw [hm']
    clear hno hm hm'
    go_wp2_with fail
    go_ret2
    exact ⟨rfl, hb⟩

set_option maxRecDepth 100000 in
set_option maxHeartbeats 1000000 in
theorem get_yes (A : Option Addr) (l : List Int) (c : Nat) (a s : Nat) (o : Int) (w : World) (hs : Sl .u8 w A l) (hl : l.length ≤ 1000000000) (hby : Byts l) (hy : getB l.length a s o = true) :
    Calls Try.prog 46 #[.slice A l.length c, .int .i64 (a : Int), .int .i64 (s : Int), .int .i64 o] w fun e w' => e = .returned (.tuple #[.int .i64 (be (segO l a s o)), .bool true]) ∧ Below w.heap.size w w' := by
  obtain ⟨hz, ho, a0, a1⟩ := getB_t hy
  have hmay : mayO s o = true := by unfold mayO; rw [hz, ho]; rfl
  have hs4 : s ≤ 4 ∧ 1 ≤ s := by have := szB_t hz; omega
  have hfit : a + s ≤ l.length := by omega
  have ho' := orB_t ho
  have HSL := Lib.hid (segO_len l a s o hfit)
  have HSN := Lib.hid (fun i hi => segO_nth l a s i o hfit hi)
  have HBS := Lib.hid (hby.seg a s o)
  have HS := Lib.hid hs
  have HB := Lib.hid hby
  have HM := Lib.hid hmay
  generalize segO l a s o = q at *
  clear hs hby hz ho hy hmay
  have d1 : decide ((l.length : Int) - (s : Int) < (a : Int)) = false := by simp; omega
  go_enter Try.func46, Try.ntmps46
  go_wp2_with fail
  refine (may_any s o w).mono ?_
  rintro e w1 ⟨rfl, hb⟩
  rw [HM.out]
  go_wp2_with fail
  go_loop [10, 30] (fun s10 s30 => ∃ i : Nat, i ≤ s ∧ s30 = .int .i64 (i : Int) ∧ s10 = .int .i64 (be (q.take i))) (fun _ s30 => s - (intOf s30).toNat)
  case atStart => exact ⟨0, by omega, rfl, rfl⟩
  case round =>
    obtain ⟨i, hi, rfl, rfl⟩ := hrel
    by_cases his : i < s
    · have i1 : (i : Int) < (s : Int) := by omega
      obtain ⟨b, off, rfl, hlt, hcell⟩ := (HS.out.keep hb).at_ (by omega)
      obtain ⟨n0, n1, n2⟩ := be_top (HBS.out.take i) (show (q.take i).length ≤ i by rw [List.length_take]; omega) (by omega)
      have n3 := n2 (by omega)
      have hst := be_step q i (by rw [HSL.out]; exact his)
      have hx := HSN.out i his
      rw [hx] at hst
      rcases ho' with rfl | rfl
      · rw [if_pos rfl] at hst
        have k0 := hcell (a + s - 1 - i) (by omega)
        rw [show l.getD (a + s - 1 - i) 0 = nth l (a + s - 1 - i) from rfl] at k0
        have e1 : (a : Int) + (s : Int) - 1 - (i : Int) = ((a + s - 1 - i : Nat) : Int) := by omega
        have b0 := HB.out.nth (a + s - 1 - i)
        have hor := i64_or_byte (be (q.take i)) (nth l (a + s - 1 - i)) n0 n1 b0.1 b0.2
        have HST := Lib.hid hst
        clear hst hx hcell n2
        go_wp2_with fail
        go_round
        case rel => exact ⟨i + 1, by omega, by go_num, by rw [HST.out]⟩
        case measure => simp [intOf]; omega
      · rw [if_neg (by decide)] at hst
        have k0 := hcell (a + i) (by omega)
        rw [show l.getD (a + i) 0 = nth l (a + i) from rfl] at k0
        have b0 := HB.out.nth (a + i)
        have hor := i64_or_byte (be (q.take i)) (nth l (a + i)) n0 n1 b0.1 b0.2
        have HST := Lib.hid hst
        clear hst hx hcell n2
        go_wp2_with fail
        go_round
        case rel => exact ⟨i + 1, by omega, by go_num, by rw [HST.out]⟩
        case measure => simp [intOf]; omega
    · obtain rfl : i = s := by omega
      go_wp2_with fail
      go_ret2
      exact ⟨ret_ib (by rw [List.take_of_length_le (by rw [HSL.out]; omega)]) rfl, hb⟩

set_option maxRecDepth 100000 in
set_option maxHeartbeats 1000000 in
theorem get_any (A : Option Addr) (l : List Int) (c : Nat) (a s o : Int) (w : World) (hs : Sl .u8 w A l) (hl : l.length ≤ 1000000000) (hby : Byts l) :
    Calls Try.prog 46 #[.slice A l.length c, .int .i64 a, .int .i64 s, .int .i64 o] w fun e w' => e = .returned (.tuple #[.int .i64 (getN l a s o), .bool (getB l.length a s o)]) ∧ Below w.heap.size w w' := by
  by_cases h : getB l.length a s o = true
  · obtain ⟨hz, ho, a0, a1⟩ := getB_t h
    obtain ⟨a, rfl⟩ := Int.eq_ofNat_of_zero_le a0
    obtain ⟨s, rfl⟩ := Int.eq_ofNat_of_zero_le (show 0 ≤ s by have := szB_t hz; omega)
    refine (get_yes A l c a s o w hs hl hby h).mono ?_
    rintro e w' ⟨rfl, hb⟩
    exact ⟨ret_ib (by unfold getN; rw [if_pos h]; rfl) h.symm, hb⟩
  · have h' : getB l.length a s o = false := by simpa using h
    refine (get_no A l.length c a s o w hl h').mono ?_
    rintro e w' ⟨rfl, hb⟩
    exact ⟨ret_ib (by unfold getN; rw [if_neg h]) h'.symm, hb⟩
end Go.Proofs.Ytfohajgljjffgaa
/- The contract of Reverse: a part of a row of the call's own is turned. -/
namespace Go.Proofs.Ytfohajgljjffgaa
open Go.RowKit
open Go.Tin
set_option linter.unusedVariables false
set_option linter.unusedSimpArgs false


/-- A row of which a part is turned, so far from both of its ends. -/
def revP (l : List Int) (off n t : Nat) : List Int := (List.range l.length).map fun q => if off ≤ q ∧ q < off + n ∧ (q < off + t ∨ off + n ≤ q + t) then nth l (off + (off + n) - 1 - q) else nth l q
def revF (l : List Int) (off n : Nat) : List Int := revP l off n n
@[simp] theorem revP_len (l : List Int) (off n t : Nat) : (revP l off n t).length = l.length := by simp [revP]
theorem revP_nth (l : List Int) (off n t q : Nat) (hq : q < l.length) : nth (revP l off n t) q = if off ≤ q ∧ q < off + n ∧ (q < off + t ∨ off + n ≤ q + t) then nth l (off + (off + n) - 1 - q) else nth l q := by
  conv => lhs; unfold nth revP
  simp [List.getD_eq_getElem?_getD, hq]
theorem revP_zero (l : List Int) (off n : Nat) : revP l off n 0 = l := by
  refine ext_nth (by simp) fun i hi => ?_
  rw [revP_len] at hi
  rw [revP_nth l off n 0 i hi, if_neg (by omega)]
theorem revP_step (l : List Int) (off n t : Nat) (h : t + t + 1 < n) (hfit : off + n ≤ l.length) : ((revP l off n t).set (off + t) (nth l (off + (n - 1 - t)))).set (off + (n - 1 - t)) (nth l (off + t)) = revP l off n (t + 1) := by
  refine ext_nth (by simp) fun i hi => ?_
  simp only [List.length_set, revP_len] at hi
  rw [nth_set _ _ _ _ (by simp; omega), nth_set _ _ _ _ (by simp; omega), revP_nth l off n t i hi, revP_nth l off n (t + 1) i hi]
  by_cases h1 : i = off + (n - 1 - t)
  · rw [if_pos h1, if_pos (by omega)]
    congr 1
    omega
  · rw [if_neg h1]
    by_cases h2 : i = off + t
    · rw [if_pos h2, if_pos (by omega)]
      congr 1
      omega
    · rw [if_neg h2]
      by_cases h3 : off ≤ i ∧ i < off + n ∧ (i < off + t ∨ off + n ≤ i + t)
      · rw [if_pos h3, if_pos (by omega)]
      · rw [if_neg h3, if_neg (by omega)]
theorem revP_end (l : List Int) (off n t : Nat) (h : n ≤ t + t + 1) : revP l off n t = revF l off n := by
  refine ext_nth (by simp [revF]) fun i hi => ?_
  rw [revP_len] at hi
  unfold revF
  rw [revP_nth l off n t i hi, revP_nth l off n n i hi]
  by_cases h1 : off ≤ i ∧ i < off + n
  · rw [if_pos (show off ≤ i ∧ i < off + n ∧ (i < off + n ∨ off + n ≤ i + n) by omega)]
    by_cases h2 : i < off + t ∨ off + n ≤ i + t
    · rw [if_pos ⟨h1.1, h1.2, h2⟩]
    · rw [if_neg (by omega)]
      congr 1
      omega
  · rw [if_neg (by omega), if_neg (by omega)]
theorem revP_old (l : List Int) (off n t q : Nat) (hq : off + q < l.length) (h1 : t ≤ q) (h2 : q + t < n) : nth (revP l off n t) (off + q) = nth l (off + q) := by
  rw [revP_nth l off n t _ hq, if_neg (by omega)]
theorem gd {w w' : World} {r : Option Nat} (h : w.grownBy w' r) : w.grownBy w'.drew r := ⟨h.os, h.tape, h.output, h.size, h.block⟩
theorem gb0 {w w' : World} {r : Option Nat} (h : w.grownBy w' r) : Below 0 w w' := ⟨h.os, h.tape, h.output, h.size, fun k hk => absurd hk (Nat.not_lt_zero _)⟩

set_option maxRecDepth 100000 in
set_option maxHeartbeats 4000000 in
theorem rev_any (B g m c0 off n c : Nat) (l : List Int) (w : World) (hown : Own .u8 5 w B (.slice (some ⟨g, 0, none⟩) m c0) l) (hfit : off + n ≤ l.length) (hn : n ≤ c) (hl : l.length ≤ 1000000000) :
    Calls Try.prog 55 #[.slice (some ⟨g, off, none⟩) n c] w fun e w' => e = .returned (.tuple #[]) ∧ Own .u8 5 w' B (.slice (some ⟨g, 0, none⟩) m c0) (revF l off n) ∧ w.grownBy w' (some g) ∧ w'.heap.size = w.heap.size := by
  have HO := Lib.hid hown
  clear hown
  go_enter Try.func55, Try.ntmps55
  go_wp2_with fail
  go_loopw [2, 3] (fun s2 s3 wr => ∃ (t : Nat) (j : Int), t ≤ n ∧ s2 = .int .i64 (t : Int) ∧ s3 = .int .i64 j ∧ j = (n : Int) - 1 - (t : Int) ∧ (t = 0 ∨ t + t ≤ n) ∧ Own .u8 5 wr B (.slice (some ⟨g, 0, none⟩) m c0) (revP l off n t) ∧ w.grownBy wr (some g) ∧ wr.heap.size = w.heap.size) (fun s2 _ _ => n - (intOf s2).toNat)
  case atStart => exact ⟨0, _, by omega, rfl, rfl, by omega, .inl rfl, by rw [revP_zero]; exact HO.out, World.grownBy.refl w _, rfl⟩
  case round =>
    obtain ⟨t, j, ht, rfl, rfl, hj, ht2, ho, hg, hz⟩ := hrel
    by_cases hlt : t + t + 1 < n
    · obtain ⟨J, rfl⟩ := Int.eq_ofNat_of_zero_le (show 0 ≤ j by omega)
      have hJ : J = n - 1 - t := by omega
      have j1 : (t : Int) < (J : Int) := by omega
      have jn : (J : Int) < (n : Int) := by omega
      have tn : (t : Int) < (n : Int) := by omega
      have k0 := ho.cell_ (off + t) (by simp; omega)
      have k1 := ho.cell_ (off + J) (by simp; omega)
      rw [revP_old l off n t t (by omega) (by omega) (by omega)] at k0
      rw [revP_old l off n t J (by omega) (by omega) (by omega)] at k1
      have HR := Lib.hid ho
      have HG := Lib.hid hg
      have HZ := Lib.hid hz
      have HJ := Lib.hid hJ
      clear ho hg hz hJ hj ht2
      go_wp2_with fail
      refine Tin.reg_begin 0 16 (by rfl) (by kernel_rfl) ?_
      refine Tin.reg_quiets [0, 1, 2, 3, 4, 5, 6, 8, 9, 10] _ 6 rfl (by simp only [Tin.pick, List.map_cons, List.map_nil, Array.getD_eq_getD_getElem?, List.getElem?_toArray, List.getElem?_cons_zero, List.getElem?_cons_succ, Option.getD_some]; rfl) (by kernel_rfl) (by kernel_rfl) ?_
      repeat (first | go_big_quiet_step (fail))
      refine wpQuiet_nil ?_
      refine Tin.reg_two 7 11 _ _ rfl rfl (by kernel_rfl) ?_ ?_
      · go_wp2_with fail
        refine ⟨0, Below.refl _ _, Nat.le_refl _, ?_⟩
        refine Tin.reg_one 11 _ rfl (by kernel_rfl) ?_
        try simp only [List.getElem_toArray, List.getElem_cons_succ, List.getElem_cons_zero]
        go_wp2_with fail
        refine ⟨0, Below.refl _ _, Nat.le_refl _, ?_⟩
        refine Tin.reg_quiets [12] _ 3 rfl (by simp only [Tin.pick, List.map_cons, List.map_nil, Array.getD_eq_getD_getElem?, List.getElem?_toArray, List.getElem?_cons_zero, List.getElem?_cons_succ, Option.getD_some]; rfl) (by kernel_rfl) (by kernel_rfl) ?_
        repeat (first | go_big_quiet_step (fail))
        refine wpQuiet_nil ?_
        refine Tin.reg_one 13 _ rfl (by kernel_rfl) ?_
        try simp only [List.getElem_toArray, List.getElem_cons_succ, List.getElem_cons_zero]
        refine Tin.wpl_set bt5 _ rfl (.tmp 26) (.tmp 21) rfl B g m c0 _ HR.out.drew (off + t) (by simp; omega) (nth l (off + J)) rfl rfl ?_
        intro w2 ho2 hg2 hz2
        simp only [Act.put]
        refine ⟨0, gb0 hg2, Nat.le_refl _, ?_⟩
        refine Tin.reg_quiets [14] _ 1 rfl (by simp only [Tin.pick, List.map_cons, List.map_nil, Array.getD_eq_getD_getElem?, List.getElem?_toArray, List.getElem?_cons_zero, List.getElem?_cons_succ, Option.getD_some]; rfl) (by kernel_rfl) (by kernel_rfl) ?_
        repeat (first | go_big_quiet_step (fail))
        refine wpQuiet_nil ?_
        refine Tin.reg_one 15 _ rfl (by kernel_rfl) ?_
        try simp only [List.getElem_toArray, List.getElem_cons_succ, List.getElem_cons_zero]
        refine Tin.wpl_set bt5 _ rfl (.tmp 27) (.tmp 25) rfl B g m c0 _ ho2 (off + J) (by simp; omega) (nth l (off + t)) rfl rfl ?_
        intro w3 ho3 hg3 hz3
        simp only [Act.put]
        refine ⟨0, gb0 hg3, Nat.le_refl _, ?_⟩
        refine Tin.reg_done (by kernel_rfl) ?_
        have HO3 := Lib.hid (show Own .u8 5 w3 B (.slice (some ⟨g, 0, none⟩) m c0) (revP l off n (t + 1)) by rw [← revP_step l off n t (by omega) hfit]; rw [HJ.out] at ho3; exact ho3)
        have HG3 := Lib.hid ((gd HG.out).trans (hg2.trans hg3))
        have HZ3 := Lib.hid (show w3.heap.size = w.heap.size from hz3.trans (hz2.trans HZ.out))
        clear ho3 ho2 hg2 hg3 hz2 hz3 HR
        go_wp2_with fail
        go_roundw
        case rel => exact ⟨t + 1, _, by omega, by go_num, rfl, by have := HJ.out; omega, .inr (by omega), HO3.out, HG3.out, HZ3.out⟩
        case measure => simp [intOf]; omega
      · go_wp2_with fail
        refine ⟨0, Below.refl _ _, Nat.le_refl _, ?_⟩
        refine Tin.reg_one 7 _ rfl (by kernel_rfl) ?_
        try simp only [List.getElem_toArray, List.getElem_cons_succ, List.getElem_cons_zero]
        go_wp2_with fail
        refine ⟨0, Below.refl _ _, Nat.le_refl _, ?_⟩
        refine Tin.reg_quiets [12] _ 3 rfl (by simp only [Tin.pick, List.map_cons, List.map_nil, Array.getD_eq_getD_getElem?, List.getElem?_toArray, List.getElem?_cons_zero, List.getElem?_cons_succ, Option.getD_some]; rfl) (by kernel_rfl) (by kernel_rfl) ?_
        repeat (first | go_big_quiet_step (fail))
        refine wpQuiet_nil ?_
        refine Tin.reg_one 13 _ rfl (by kernel_rfl) ?_
        try simp only [List.getElem_toArray, List.getElem_cons_succ, List.getElem_cons_zero]
        refine Tin.wpl_set bt5 _ rfl (.tmp 26) (.tmp 21) rfl B g m c0 _ HR.out.drew (off + t) (by simp; omega) (nth l (off + J)) rfl rfl ?_
        intro w2 ho2 hg2 hz2
        simp only [Act.put]
        refine ⟨0, gb0 hg2, Nat.le_refl _, ?_⟩
        refine Tin.reg_quiets [14] _ 1 rfl (by simp only [Tin.pick, List.map_cons, List.map_nil, Array.getD_eq_getD_getElem?, List.getElem?_toArray, List.getElem?_cons_zero, List.getElem?_cons_succ, Option.getD_some]; rfl) (by kernel_rfl) (by kernel_rfl) ?_
        repeat (first | go_big_quiet_step (fail))
        refine wpQuiet_nil ?_
        refine Tin.reg_one 15 _ rfl (by kernel_rfl) ?_
        try simp only [List.getElem_toArray, List.getElem_cons_succ, List.getElem_cons_zero]
        refine Tin.wpl_set bt5 _ rfl (.tmp 27) (.tmp 25) rfl B g m c0 _ ho2 (off + J) (by simp; omega) (nth l (off + t)) rfl rfl ?_
        intro w3 ho3 hg3 hz3
        simp only [Act.put]
        refine ⟨0, gb0 hg3, Nat.le_refl _, ?_⟩
        refine Tin.reg_done (by kernel_rfl) ?_
        have HO3 := Lib.hid (show Own .u8 5 w3 B (.slice (some ⟨g, 0, none⟩) m c0) (revP l off n (t + 1)) by rw [← revP_step l off n t (by omega) hfit]; rw [HJ.out] at ho3; exact ho3)
        have HG3 := Lib.hid ((gd HG.out).trans (hg2.trans hg3))
        have HZ3 := Lib.hid (show w3.heap.size = w.heap.size from hz3.trans (hz2.trans HZ.out))
        clear ho3 ho2 hg2 hg3 hz2 hz3 HR
        go_wp2_with fail
        go_roundw
        case rel => exact ⟨t + 1, _, by omega, by go_num, rfl, by have := HJ.out; omega, .inr (by omega), HO3.out, HG3.out, HZ3.out⟩
        case measure => simp [intOf]; omega
    · have hj1 : j ≤ (t : Int) := by omega
      rw [revP_end l off n t (by omega)] at ho
      have HR := Lib.hid ho
      have HG := Lib.hid hg
      have HZ := Lib.hid hz
      clear ho hg hz hj ht2
      go_wp2_with fail
      exact bodyPost_end (by simp [results, go_sem]) rfl ⟨rfl, HR.out, HG.out, HZ.out⟩
end Go.Proofs.Ytfohajgljjffgaa
/- The contract of Put: a number's bytes. -/
namespace Go.Proofs.Ytfohajgljjffgaa
open Go.RowKit
open Go.Tin
set_option linter.unusedVariables false
set_option linter.unusedSimpArgs false


theorem bytesOf_cons : ∀ (k : Nat) (n : Int), bytesOf (k + 1) n = (n / 256 ^ k % 256) :: bytesOf k n
  | 0, n => by simp [bytesOf]
  | k + 1, n => by
    have e : n / 256 / 256 ^ k = n / 256 ^ (k + 1) := by
      rw [Int.ediv_ediv_of_nonneg (by decide), Int.pow_succ, Int.mul_comm]
    rw [bytesOf, bytesOf_cons k (n / 256), e]
    rfl
theorem revF_all (l : List Int) : revF l 0 l.length = l.reverse := by
  refine ext_nth (by simp [revF]) fun i hi => ?_
  have hi' : i < l.length := by simpa [revF] using hi
  unfold revF
  rw [revP_nth l 0 l.length l.length i hi', if_pos (by omega), rev_nth l i hi']
  congr 1
  omega
/-- So many low bytes told, noughts ahead. -/
def lowB (s i : Nat) (n : Int) : List Int := List.replicate (s - i) 0 ++ bytesOf i n
theorem lowB_len (s i : Nat) (n : Int) (h : i ≤ s) : (lowB s i n).length = s := by
  unfold lowB
  rw [List.length_append, List.length_replicate, bytesOf_len]
  omega
theorem lowB_set (s i : Nat) (n : Int) (h : i < s) : (lowB s i n).set (s - 1 - i) (n / 256 ^ i % 256) = lowB s (i + 1) n := by
  unfold lowB
  rw [bytesOf_cons, show s - i = s - 1 - i + 1 by omega, List.replicate_succ', show s - (i + 1) = s - 1 - i by omega, List.append_assoc, List.set_append_right _ _ (by simp)]
  simp
theorem lowB_all (s : Nat) (n : Int) : lowB s s n = bytesOf s n := by unfold lowB; simp

set_option maxRecDepth 100000 in
set_option maxHeartbeats 1000000 in
theorem put_yes (n : Int) (s : Nat) (o : Int) (w : World) (hy : putB n s o = true) :
    Calls Try.prog 39 #[.int .i64 n, .int .i64 (s : Int), .int .i64 o] w fun e w' => ∃ A c, e = .returned (.tuple #[.slice A s c, .bool true]) ∧ Own .u8 5 w' w.heap.size (.slice A s c) (putL n s o) ∧ Below w.heap.size w w' := by
  have hy2 := hy
  unfold putB mayO at hy2
  simp only [Bool.and_eq_true, decide_eq_true_eq] at hy2
  obtain ⟨⟨hz, ho⟩, n0, n1⟩ := hy2
  have hmay := Lib.hid (show mayO s o = true by unfold mayO; rw [hz, ho]; rfl)
  have hs4 : s ≤ 4 ∧ 1 ≤ s := by have := szB_t hz; omega
  have htop := topI_pos hz
  have ho' := orB_t ho
  have HT := Lib.hid (top_any s · hz)
  have HP := Lib.hid (show putL n s o = ordL o (bytesOf s n) by unfold putL; rw [if_pos hy]; rfl)
  have d0 : decide (n < 0) = false := by simpa using n0
  have d1 : decide (topI s ≤ n) = false := by simpa using n1
  generalize topI s = T at *
  clear hy hz ho
  go_enter Try.func39, Try.ntmps39
  go_wp2_with fail
  refine (may_any s o w).mono ?_
  rintro e w1 ⟨rfl, hb⟩
  rw [hmay.out]
  go_wp2_with fail
  refine (HT.out w1).mono ?_
  rintro e w2 ⟨rfl, rfl⟩
  go_wp2_with (at_make; refine Tin.wpl_makeN bt5 _ rfl (.tmp 24) (.tmp 24) rfl w1.heap.size .i64 .i64 _ _ s rfl rfl rfl rfl (by omega) (by unfold maxLen; omega) (Nat.le_refl _) ?_; intro w3 ho3 hg3)
  have hb3 : Below w1.heap.size w1 w3 := (brefl w1).grown hg3 (Nat.le_refl _) (fun k hk => by cases hk)
  have hgz : w1.heap.size < w3.heap.size := (World.ownsRow.lt ho3 _ rfl).2
  have hle : w.heap.size ≤ w1.heap.size := hb.size
  generalize w1.heap.size = g at *
  clear hg3
  go_loopw [28] (fun s28 wr => ∃ i : Nat, i ≤ s ∧ s28 = .int .i64 (i : Int) ∧ Own .u8 5 wr g (.slice (some ⟨g, 0, none⟩) s s) (lowB s i n) ∧ Below g w1 wr) (fun s28 _ => s - (intOf s28).toNat)
  case atStart => exact ⟨0, by omega, rfl, by unfold lowB bytesOf; rw [List.append_nil]; exact ho3, hb3⟩
  case round =>
    clear ho3 hb3
    obtain ⟨i, hi, rfl, ho3, hb3⟩ := hrel
    by_cases his : i < s
    · have i1 : (i : Int) < (s : Int) := by omega
      have e1 : (s : Int) - 1 - (i : Int) = ((s - 1 - i : Nat) : Int) := by omega
      have HS := Lib.hid (lowB_set s i n his)
      have HL := Lib.hid (lowB_len s i n (by omega))
      have HO := Lib.hid ho3
      clear ho3
      have hg0 : g < wr.heap.size := (World.ownsRow.lt HO.out _ rfl).2
      rcases (by omega : i = 0 ∨ i = 1 ∨ i = 2 ∨ i = 3) with rfl | rfl | rfl | rfl
      · have HV := Lib.hid (show n / 256 ^ 0 % 256 = n % 256 by simp)
        rw [HV.out] at HS
        have HJ := Lib.hid (show s - 1 < (lowB s 0 n).length by rw [HL.out]; omega)
        go_wp2_with ((with_reducible refine Tin.wpl_set bt5 _ ?_ (.tmp 42) (.tmp 41) ?_ g g s s _ HO.out (s - 1) HJ.out (n % 256) ?_ ?_ ?_); rfl; rfl; rfl; rfl; intro w4 ho4 hg4 hz4; simp only [Act.put])
        have HO4 := Lib.hid (show Own .u8 5 w4 g (.slice (some ⟨g, 0, none⟩) s s) (lowB s (0 + 1) n) by have := HS.out; rw [← this]; exact ho4)
        have hb4 := hb3.grown hg4 (by omega) (fun k hk => by cases hk; omega)
        clear ho4 hg4
        go_roundw
        case rel => exact ⟨0 + 1, by omega, rfl, HO4.out, hb4⟩
        case measure => simp [intOf]; omega

      · have HV := Lib.hid (show n / 256 ^ 1 % 256 = n / 256 % 256 by simp)
        rw [HV.out] at HS
        have HJ := Lib.hid (show s - 1 - 1 < (lowB s 1 n).length by rw [HL.out]; omega)
        go_wp2_with ((with_reducible refine Tin.wpl_set bt5 _ ?_ (.tmp 42) (.tmp 41) ?_ g g s s _ HO.out (s - 1 - 1) HJ.out (n / 256 % 256) ?_ ?_ ?_); rfl; rfl; rfl; rfl; intro w4 ho4 hg4 hz4; simp only [Act.put])
        have HO4 := Lib.hid (show Own .u8 5 w4 g (.slice (some ⟨g, 0, none⟩) s s) (lowB s (1 + 1) n) by have := HS.out; rw [← this]; exact ho4)
        have hb4 := hb3.grown hg4 (by omega) (fun k hk => by cases hk; omega)
        clear ho4 hg4
        go_roundw
        case rel => exact ⟨1 + 1, by omega, rfl, HO4.out, hb4⟩
        case measure => simp [intOf]; omega

      · have HV := Lib.hid (show n / 256 ^ 2 % 256 = n / 65536 % 256 by simp)
        rw [HV.out] at HS
        have HJ := Lib.hid (show s - 1 - 2 < (lowB s 2 n).length by rw [HL.out]; omega)
        go_wp2_with ((with_reducible refine Tin.wpl_set bt5 _ ?_ (.tmp 42) (.tmp 41) ?_ g g s s _ HO.out (s - 1 - 2) HJ.out (n / 65536 % 256) ?_ ?_ ?_); rfl; rfl; rfl; rfl; intro w4 ho4 hg4 hz4; simp only [Act.put])
        have HO4 := Lib.hid (show Own .u8 5 w4 g (.slice (some ⟨g, 0, none⟩) s s) (lowB s (2 + 1) n) by have := HS.out; rw [← this]; exact ho4)
        have hb4 := hb3.grown hg4 (by omega) (fun k hk => by cases hk; omega)
        clear ho4 hg4
        go_roundw
        case rel => exact ⟨2 + 1, by omega, rfl, HO4.out, hb4⟩
        case measure => simp [intOf]; omega

      · have HV := Lib.hid (show n / 256 ^ 3 % 256 = n / 16777216 by rw [show (256 : Int) ^ 3 = 16777216 from by decide]; omega)
        rw [HV.out] at HS
        have HJ := Lib.hid (show s - 1 - 3 < (lowB s 3 n).length by rw [HL.out]; omega)
        go_wp2_with ((with_reducible refine Tin.wpl_set bt5 _ ?_ (.tmp 42) (.tmp 41) ?_ g g s s _ HO.out (s - 1 - 3) HJ.out (n / 16777216) ?_ ?_ ?_); rfl; rfl; rfl; rfl; intro w4 ho4 hg4 hz4; simp only [Act.put])
        have HO4 := Lib.hid (show Own .u8 5 w4 g (.slice (some ⟨g, 0, none⟩) s s) (lowB s (3 + 1) n) by have := HS.out; rw [← this]; exact ho4)
        have hb4 := hb3.grown hg4 (by omega) (fun k hk => by cases hk; omega)
        clear ho4 hg4
        go_roundw
        case rel => exact ⟨3 + 1, by omega, rfl, HO4.out, hb4⟩
        case measure => simp [intOf]; omega

    · obtain rfl : i = s := by omega
      rw [lowB_all] at ho3
      have HO := Lib.hid ho3
      clear ho3
      have hb5 := hb.trans (hb3.mono hle)
      have hgr := (World.ownsRow.lt HO.out _ rfl).2
      rcases ho' with rfl | rfl
      · go_wp2_with fail
        refine (rev_any g g _ _ 0 i i _ wr HO.out (by rw [bytesOf_len]; omega) (Nat.le_refl _) (by rw [bytesOf_len]; omega)).mono ?_
        rintro e w5 ⟨rfl, ho5, hg5, hz5⟩
        have HO5 := Lib.hid (show Own .u8 5 w5 g (.slice (some ⟨g, 0, none⟩) i i) (putL n (i : Int) 1) by
          rw [HP.out]
          have e1 := revF_all (bytesOf i n)
          rw [bytesOf_len] at e1
          rw [e1] at ho5
          exact ho5)
        have hb6 := hb5.grown hg5 (by omega) (fun k hk => by cases hk; omega)
        clear ho5 hg5
        go_wp2_with fail
        go_ret2
        exact ⟨_, _, rfl, HO5.out.mono hle, hb6⟩
      · have HO5 := Lib.hid (show Own .u8 5 wr g (.slice (some ⟨g, 0, none⟩) i i) (putL n (i : Int) 2) by
          rw [HP.out]
          exact HO.out)
        go_wp2_with fail
        go_ret2
        exact ⟨_, _, rfl, HO5.out.mono hle, hb5⟩

set_option maxRecDepth 100000 in
theorem put_no (n s o : Int) (w : World) (hno : putB n s o = false) :
    Calls Try.prog 39 #[.int .i64 n, .int .i64 s, .int .i64 o] w fun e w' => e = .returned (.tuple #[.slice none 0 0, .bool false]) ∧ Below w.heap.size w w' := by
  go_enter Try.func39, Try.ntmps39
  go_wp2_with fail
  refine (may_any s o w).mono ?_
  rintro e w1 ⟨rfl, hb⟩
  by_cases hm : mayO s o = true
  · unfold putB at hno
    rw [hm, Bool.true_and] at hno
    have hz : szB s = true := by unfold mayO at hm; rw [Bool.and_eq_true] at hm; exact hm.1
    rw [hm]
    clear hm
    by_cases h0 : n < 0
    · have d0 : decide (n < 0) = true := by simpa using h0
      clear hno hz
      go_wp2_with fail
      go_ret2
      exact ⟨rfl, hb⟩
    · have d0 : decide (n < 0) = false := by simpa using h0
      have d1 : decide (topI s ≤ n) = true := by simp at hno; simp; omega
      have HT := Lib.hid (top_any s w1 hz)
      clear hno hz
      go_wp2_with fail
      refine HT.out.mono ?_
      rintro e w2 ⟨rfl, rfl⟩
      go_wp2_with fail
      go_ret2
      exact ⟨rfl, hb⟩
  · have hm' : mayO s o = false := by simpa using hm
    rw [hm']
    clear hno hm hm'
    go_wp2_with fail
    go_ret2
    exact ⟨rfl, hb⟩

theorem put_any (n s o : Int) (w : World) :
    Calls Try.prog 39 #[.int .i64 n, .int .i64 s, .int .i64 o] w fun e w' => ∃ A c, e = .returned (.tuple #[.slice A (putL n s o).length c, .bool (putB n s o)]) ∧ Own .u8 5 w' w.heap.size (.slice A (putL n s o).length c) (putL n s o) ∧ Below w.heap.size w w' := by
  by_cases h : putB n s o = true
  · have hz : szB s = true := by
      have h2 := h
      unfold putB mayO at h2
      simp only [Bool.and_eq_true] at h2
      exact h2.1.1
    obtain ⟨s, rfl⟩ := Int.eq_ofNat_of_zero_le (show 0 ≤ s by have := szB_t hz; omega)
    refine (put_yes n s o w h).mono ?_
    rintro e w' ⟨A, c, rfl, ho, hb⟩
    have hl : (putL n s o).length = s := by
      unfold putL ordL
      rw [if_pos h]
      split <;> simp [bytesOf_len]
    rw [hl, h]
    exact ⟨A, c, rfl, ho, hb⟩
  · have h' : putB n s o = false := by simpa using h
    have hl : putL n s o = [] := by unfold putL; rw [if_neg h]
    refine (put_no n s o w h').mono ?_
    rintro e w' ⟨rfl, hb⟩
    rw [hl, h']
    exact ⟨none, 0, rfl, Own.nil_ _ _ _ _, hb⟩
end Go.Proofs.Ytfohajgljjffgaa
