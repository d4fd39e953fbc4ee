/- Texts put together: OcM, OcA, OcB, OcC, OcD, OcE, OcF, OcG, OcH, OcI, OcK, OcL. -/
import Derived.Test.YtmdcdmgbillehaaLb
import Derived.Laws.BitsAllLaws
import Derived.Test.YtmdcdmgbillehaaRows
import Derived.WalkKit
import Derived.Lib.Hide
import Derived.Outline
import Derived.OpenShut
import Derived.Maps.RangeWalk
import Derived.Maps.AppendAt
/- The plain law of numbers in bytes: what a number's bytes are, what bytes say, signed numbers, turned rows. No program in sight. -/
namespace Go.Tin
open Go.RowKit
set_option linter.unusedSimpArgs false
set_option linter.unusedVariables false

/-- One more than the greatest number of a size. -/
def topI (s : Int) : Int := if s = 1 then 256 else if s = 2 then 65536 else if s = 4 then 4294967296 else 0
def szB (s : Int) : Bool := decide (s = 1) || (decide (s = 2) || decide (s = 4))
def orB (o : Int) : Bool := decide (o = 1) || decide (o = 2)
/-- May a size and an order be? -/
def mayO (s o : Int) : Bool := szB s && orB o
theorem szB_t {s : Int} (h : szB s = true) : s = 1 ∨ s = 2 ∨ s = 4 := by unfold szB at h; simpa using h
theorem szB_f {s : Int} (h : szB s = false) : s ≠ 1 ∧ s ≠ 2 ∧ s ≠ 4 := by unfold szB at h; simpa using h
theorem orB_t {o : Int} (h : orB o = true) : o = 1 ∨ o = 2 := by unfold orB at h; simpa using h
theorem orB_f {o : Int} (h : orB o = false) : o ≠ 1 ∧ o ≠ 2 := by unfold orB at h; simpa using h
theorem topI_pos {s : Int} (h : szB s = true) : 256 ≤ topI s ∧ topI s ≤ 4294967296 := by
  rcases szB_t h with rfl | rfl | rfl <;> decide
theorem topI_no {s : Int} (h : szB s = false) : topI s = 0 := by
  obtain ⟨h1, h2, h4⟩ := szB_f h
  unfold topI
  rw [if_neg h1, if_neg h2, if_neg h4]

/-- The number of bytes, the greatest one first. -/
def be (l : List Int) : Int := l.foldl (fun n x => 256 * n + x) 0
theorem be_snoc (l : List Int) (x : Int) : be (l ++ [x]) = 256 * be l + x := by simp [be]
/-- Bytes in an order. -/
def ordL (o : Int) (l : List Int) : List Int := if o = 1 then l.reverse else l
/-- Is there a number of that size? -/
def getB (n : Nat) (at_ s o : Int) : Bool := mayO s o && (decide (0 ≤ at_) && decide (at_ ≤ (n : Int) - s))
def getN (l : List Int) (at_ s o : Int) : Int := if getB l.length at_ s o = true then be (ordL o ((l.drop at_.toNat).take s.toNat)) else 0
/-- A number's bytes, the greatest one first. -/
def bytesOf : Nat → Int → List Int
  | 0, _ => []
  | k + 1, n => bytesOf k (n / 256) ++ [n % 256]
theorem bytesOf_len : ∀ (k : Nat) (n : Int), (bytesOf k n).length = k
  | 0, _ => rfl
  | k + 1, n => by rw [bytesOf, List.length_append, bytesOf_len k]; rfl
def putB (n s o : Int) : Bool := mayO s o && (decide (0 ≤ n) && decide (n < topI s))
def putL (n s o : Int) : List Int := if putB n s o = true then ordL o (bytesOf s.toNat n) else []
def sgB (n s : Int) : Bool := decide (0 ≤ n) && decide (n < topI s)
def sgN (n s : Int) : Int := if sgB n s = true then (if topI s ≤ 2 * n then n - topI s else n) else 0
def plB (n s : Int) : Bool := decide (-(topI s / 2) ≤ n) && decide (n < topI s / 2)
def plN (n s : Int) : Int := if plB n s = true then (if n < 0 then n + topI s else n) else 0
def addB (a b : Int) : Bool := decide (0 ≤ a) && decide (0 ≤ b) && decide (a + b ≤ 4294967295)
def addN (a b : Int) : Int := if addB a b = true then a + b else 0
def roomB (a l e : Int) : Bool := decide (0 ≤ a) && (decide (0 ≤ l) && (decide (a ≤ e) && decide (l ≤ e - a)))
def evenN (n : Int) : Int := n + n % 2

/-- May bytes be turned so? -/
def turnB (s o : Int) : Bool := (szB s || decide (s = 8)) && orB o
/-- Which byte stands at a place behind the turn. -/
def turnI (n s : Nat) (o : Int) (i : Nat) : Nat := if o = 1 ∧ i < n - n % s then i - i % s + (s - 1 - i % s) else i
def turnL (l : List Int) (s o : Int) : List Int := if turnB s o = true then (List.range l.length).map (fun i => nth l (turnI l.length s.toNat o i)) else []

theorem i64_or_byte (n x : Int) (h0 : 0 ≤ n) (h1 : n < 4294967296) (x0 : 0 ≤ x) (x1 : x < 256) : bits .or .i64 (n * 256) x = n * 256 + x := by
  obtain ⟨a, rfl⟩ := Int.eq_ofNat_of_zero_le h0
  obtain ⟨b, rfl⟩ := Int.eq_ofNat_of_zero_le x0
  have ha : a < 4294967296 := by omega
  have hb : b < 256 := by omega
  have e1 : ((a : Int) * 256) = ((a * 256 : Nat) : Int) := by omega
  rw [e1]
  have h1 : (BitVec.ofInt 64 ((a * 256 : Nat) : Int)).toNat = a * 256 := by
    rw [BitVec.ofInt_natCast, BitVec.toNat_ofNat]; exact Nat.mod_eq_of_lt (by omega)
  have h2 : (BitVec.ofInt 64 (b : Int)).toNat = b := by
    rw [BitVec.ofInt_natCast, BitVec.toNat_ofNat]; exact Nat.mod_eq_of_lt (by omega)
  show IntKind.i64.wrap ((BitVec.ofInt 64 ((a * 256 : Nat) : Int) ||| BitVec.ofInt 64 (b : Int)).toNat : Int) = _
  rw [BitVec.toNat_or, h1, h2, nat_join 8 (a * 256) b (by omega) (by omega), wrap_i64]
  have : ((a * 256 + b : Nat) : Int) % 18446744073709551616 = ((a * 256 + b : Nat) : Int) := by omega
  rw [this, if_neg (by omega)]
  omega

theorem be_aux : ∀ (l : List Int) (m : Nat) (n : Int), 0 ≤ n → n < 256 ^ m → (∀ x ∈ l, 0 ≤ x ∧ x < 256) → 0 ≤ l.foldl (fun n x => 256 * n + x) n ∧ l.foldl (fun n x => 256 * n + x) n < 256 ^ (m + l.length)
  | [], _, _, h0, h1, _ => ⟨h0, h1⟩
  | x :: l, m, n, h0, h1, h => by
    obtain ⟨x0, x1⟩ := h x (by simp)
    have e : (256 : Int) ^ (m + 1) = 256 ^ m * 256 := Int.pow_succ ..
    have := be_aux l (m + 1) (256 * n + x) (by omega) (by omega) (fun y hy => h y (by simp [hy]))
    rw [List.foldl_cons, List.length_cons, show m + (l.length + 1) = m + 1 + l.length by omega]
    exact this
theorem be_bd (l : List Int) (h : ∀ x ∈ l, 0 ≤ x ∧ x < 256) : 0 ≤ be l ∧ be l < 256 ^ l.length := by
  have := be_aux l 0 0 (by omega) (by decide) h
  simpa [be] using this
end Go.Tin
/- The contracts of a size and an order: may, top. -/
namespace Go.Proofs.Ytmdcdmgbillehaa
open Go.RowKit
open Go.Tin
set_option linter.unusedVariables false
set_option linter.unusedSimpArgs false


theorem hcf (f : FuncId) (fn : Func) (c : Code) (hf : Try.prog.funcs[f]? = some fn) (hname : (fn.name == "runtime.NumGoroutine") = false) (hb : fn.body = some c) (vs : Array Value) (W : World) : (callFunc f vs).run Try.prog W = .ok (.enter f vs) W := by
  have hne : ¬ fn.name = "runtime.NumGoroutine" := by simpa using hname
  simp [callFunc, Sem.run_bind, run_program, hf, hb, hne]
theorem any_at (l : List Int) (q : Int → Bool) (j : Nat) (hj : j < l.length) (h : q (nth l j) = true) : l.any q = true := by
  rw [List.any_eq_true]
  exact ⟨l[j], List.getElem_mem hj, by simpa [nth, List.getD_eq_getElem?_getD, hj] using h⟩
theorem any_not (l : List Int) (q : Int → Bool) (h : ∀ j, j < l.length → q (nth l j) = false) : l.any q = false := by
  rw [List.any_eq_false]
  intro z hz
  obtain ⟨j, hj, rfl⟩ := List.mem_iff_getElem.1 hz
  have := h j hj
  simpa [nth, List.getD_eq_getElem?_getD, hj] using this

/- slices.ContainsFunc of integers ([]int), with a function that has captured one places. -/
set_option maxRecDepth 100000 in
set_option maxHeartbeats 2000000 in
theorem index_1 (F : FuncId) (fn : Func) (cd : Code) (hfn : Try.prog.funcs[F]? = some fn) (hname : (fn.name == "runtime.NumGoroutine") = false) (hbd : fn.body = some cd) (p : Value) (q : Int → Bool) (A : Option Addr) (l : List Int) (c : Nat) (w : World) (hs : Sl .i64 w A l) (hl : l.length ≤ 1000000000)
    (hq : ∀ j, j < l.length → Calls Try.prog F #[.int .i64 (nth l j), p] w fun e w' => e = .returned (.bool (q (nth l j))) ∧ w = w') :
    Calls Try.prog 79 #[.slice A l.length c, .func (.func F) #[] #[p]] w fun e w' => ∃ r : Int, e = .returned (.int .i64 r) ∧ decide (0 ≤ r) = l.any q ∧ w = w' := by
  have HS := Lib.hid hs
  have HQ := Lib.hid hq
  clear hs hq
  have hf := hcf F fn cd hfn hname hbd
  clear hfn hname hbd
  go_enter Try.func79, Try.ntmps79
  go_wp2_with fail
  go_loopw [8] (fun s8 wr => ∃ (i : Nat), i ≤ l.length ∧ s8 = .int .i64 (i : Int) ∧ (∀ j, j < i → q (nth l j) = false) ∧ w = wr) (fun s8 _ => l.length - (intOf s8).toNat)
  case atStart => exact ⟨0, by omega, rfl, fun j h => absurd h (Nat.not_lt_zero _), rfl⟩
  case round =>
    obtain ⟨i, hi, rfl, hno, rfl⟩ := hrel
    have HN := Lib.hid hno
    clear hno
    by_cases hil : i < l.length
    · have i1 : (i : Int) < (l.length : Int) := by omega
      obtain ⟨b, off, rfl, hlt, hcell⟩ := HS.out.at_ (by omega)
      have k0 := hcell i hil
      rw [show l.getD i 0 = nth l i from rfl] at k0
      clear hcell
      go_wp2_with fail
      refine Calls.mono (HQ.out i hil) ?_
      by_cases hq : q (nth l i) = true
      · rw [hq]
        rintro e w' ⟨rfl, rfl⟩
        go_wp2_with fail
        go_ret
        exact ⟨_, rfl, by rw [any_at l q i hil hq]; simp, rfl⟩
      · have hq' : q (nth l i) = false := by simpa using hq
        rw [hq']
        rintro e w' ⟨rfl, rfl⟩
        go_wp2_with fail
        go_roundw
        case rel => exact ⟨i + 1, by omega, by go_num, fun j hj => by rcases (by omega : j < i ∨ j = i) with h | rfl; exact HN.out j h; exact hq', by simp⟩
        case measure => simp [intOf]; omega
    · obtain rfl : i = l.length := by omega
      go_wp2_with fail
      go_ret
      exact ⟨_, rfl, by rw [any_not l q HN.out]; rfl, rfl⟩
set_option maxRecDepth 100000 in
theorem contains_1 (F : FuncId) (fn : Func) (cd : Code) (hfn : Try.prog.funcs[F]? = some fn) (hname : (fn.name == "runtime.NumGoroutine") = false) (hbd : fn.body = some cd) (p : Value) (q : Int → Bool) (A : Option Addr) (l : List Int) (c : Nat) (w : World) (hs : Sl .i64 w A l) (hl : l.length ≤ 1000000000)
    (hq : ∀ j, j < l.length → Calls Try.prog F #[.int .i64 (nth l j), p] w fun e w' => e = .returned (.bool (q (nth l j))) ∧ w = w') :
    Calls Try.prog 77 #[.slice A l.length c, .func (.func F) #[] #[p]] w fun e w' => e = .returned (.bool (l.any q)) ∧ w = w' := by
  have HI := Lib.hid (index_1 F fn cd hfn hname hbd p q A l c w hs hl hq)
  clear hs hq hfn hname hbd
  go_enter Try.func77, Try.ntmps77
  go_wp2_with fail
  refine Calls.mono HI.out ?_
  rintro e w' ⟨r, rfl, hr, rfl⟩
  have HR := Lib.hid hr
  clear hr
  go_wp2_with fail
  go_ret
  exact ⟨ret_bool (by rw [HR.out]), rfl⟩


theorem may1_any (s x : Int) (g : Nat) (w : World) (hc : w.cell? ⟨g, 0, none⟩ = some (.int .i64 s)) : Calls Try.prog 78 #[.int .i64 x, .pointer (some ⟨g, 0, none⟩)] w fun e w' => e = .returned (.bool (decide (x = s))) ∧ w = w' := by
  go_enter Try.func78, Try.ntmps78
  go_wp2_with fail
  go_ret
  exact ⟨rfl, rfl⟩

theorem szB_any (s : Int) : ([1, 2, 4] : List Int).any (fun x => decide (x = s)) = szB s := by
  unfold szB
  simp only [List.any_cons, List.any_nil, Bool.or_false]
  rw [Bool.eq_iff_iff]
  simp only [Bool.or_eq_true, decide_eq_true_eq]
  omega

set_option maxRecDepth 100000 in
theorem may_any (s o : Int) (w : World) : Calls Try.prog 67 #[.int .i64 s, .int .i64 o] w fun e w' => e = .returned (.bool (mayO s o)) ∧ Below w.heap.size w w' := by
  have HC : ∀ W : World, W.cell? ⟨w.heap.size, 0, none⟩ = some (.int .i64 s) → Hid (∀ j, j < ([1, 2, 4] : List Int).length → Calls Try.prog 78 #[.int .i64 (nth [1, 2, 4] j), .pointer (some ⟨w.heap.size, 0, none⟩)] W fun e w' => e = .returned (.bool ((fun x => decide (x = s)) (nth [1, 2, 4] j))) ∧ W = w') := fun W hW => Lib.hid fun j _ => may1_any s _ _ W hW
  go_enter Try.func67, Try.ntmps67
  go_wp2_with fail
  generalize hW3 : (w.alloc _).alloc _ = W3 at *
  have hb3 : Below w.heap.size w W3 := by rw [← hW3]; exact ba (ba (brefl w) _) _
  have hc3 : W3.cell? ⟨w.heap.size, 0, none⟩ = some (.int .i64 s) := by rw [← hW3]; simp [go_sem]
  have hs3 : Sl .i64 W3 (some ⟨w.heap.size + 1, 0, none⟩) [1, 2, 4] := by rw [← hW3]; have := Sl.new_ (k := .i64) (w.alloc (.cells #[.int .i64 s] 3)) 86 #[.int .i64 1, .int .i64 2, .int .i64 4] [1, 2, 4] rfl; simpa using this
  clear hW3
  refine (contains_1 78 _ _ Try.func78 (by kernel_rfl) rfl _ (fun x => decide (x = s)) (some ⟨w.heap.size + 1, 0, none⟩) [1, 2, 4] 3 W3 hs3 (by simp) (HC W3 hc3).out).mono ?_
  rintro e w' ⟨rfl, rfl⟩
  rw [szB_any]
  clear HC hs3 hc3
  by_cases h : szB s = true
  · have HR := Lib.hid (show mayO s o = orB o by unfold mayO; rw [h]; rfl)
    rw [h]
    clear h
    by_cases h1 : o = 1
    · subst h1
      go_wp2_with fail
      go_ret
      exact ⟨ret_bool (by rw [HR.out]; rfl), hb3⟩
    · have d1 : (o == 1) = false := by simpa using h1
      have HO := Lib.hid (show orB o = decide (o = 2) by unfold orB; simp [h1])
      clear h1
      go_wp2_with fail
      go_ret
      exact ⟨ret_bool (HR.out.trans HO.out).symm, hb3⟩
  · have h' : szB s = false := by simpa using h
    have HR := Lib.hid (show mayO s o = false by unfold mayO; rw [h']; rfl)
    rw [h']
    clear h h'
    go_wp2_with fail
    go_ret
    exact ⟨ret_bool (by rw [HR.out]), hb3⟩

theorem top_any (s : Int) (w : World) (hs : szB s = true) : Calls Try.prog 75 #[.int .i64 s] w fun e w' => e = .returned (.int .i64 (topI s)) ∧ w = w' := by
  rcases szB_t hs with rfl | rfl | rfl <;> clear hs <;> (go_enter Try.func75, Try.ntmps75; go_wp2_with fail; go_ret; exact ⟨ret_int (by decide), rfl⟩)

theorem rtop_any (s : Int) (w : World) : Calls Try.prog 69 #[.int .i64 s] w fun e w' => e = .returned (.int .i64 (topI s)) ∧ w = w' := by
  by_cases h1 : s = 1
  · subst h1
    go_enter Try.func69, Try.ntmps69
    go_wp2_with fail
    go_ret
    exact ⟨ret_int (by decide), rfl⟩
  by_cases h2 : s = 2
  · subst h2
    go_enter Try.func69, Try.ntmps69
    go_wp2_with fail
    go_ret
    exact ⟨ret_int (by decide), rfl⟩
  by_cases h4 : s = 4
  · subst h4
    go_enter Try.func69, Try.ntmps69
    go_wp2_with fail
    go_ret
    exact ⟨ret_int (by decide), rfl⟩
  have HR := Lib.hid (show topI s = 0 by unfold topI; rw [if_neg h1, if_neg h2, if_neg h4])
  have d1 : (s == 1) = false := by simpa using h1
  have d2 : (s == 2) = false := by simpa using h2
  have d4 : (s == 4) = false := by simpa using h4
  clear h1 h2 h4
  go_enter Try.func69, Try.ntmps69
  go_wp2_with fail
  go_ret
  exact ⟨ret_int (by rw [HR.out]), rfl⟩
end Go.Proofs.Ytmdcdmgbillehaa
/- The contracts of bytes compared, and of bytes in memory of their own. -/
namespace Go.Proofs.Ytmdcdmgbillehaa
open Go.RowKit
open Go.Tin
set_option linter.unusedVariables false
set_option linter.unusedSimpArgs false


theorem bt5 : ST Try.prog 25 5 .u8 1 := ST.of Try.underlying25 Try.underlying5 (by kernel_rfl)

/- Two slices of integers compared, number by number: tintyperef01.Same. -/
set_option maxRecDepth 100000 in
set_option maxHeartbeats 2000000 in
theorem same_any (A A' : Option Addr) (l m : List Int) (c d : Nat) (w : World) (hs : Sl .u8 w A l) (ht : Sl .u8 w A' m) (hl : l.length ≤ 1000000000) (hm : m.length ≤ 1000000000) :
    Calls Try.prog 22 #[.slice A l.length c, .slice A' m.length d] w fun e w' => e = .returned (.bool (decide (l = m))) ∧ Below w.heap.size w w' := by
  have HS := Lib.hid hs
  have HT := Lib.hid ht
  clear hs ht
  by_cases hlm : l.length = m.length
  · have hne : ((l.length : Int) != (m.length : Int)) = false := by simp [hlm]
    have HLM := Lib.hid hlm
    clear hlm
    go_enter Try.func22, Try.ntmps22
    go_wp2_with fail
    go_loopw [5] (fun s5 wr => ∃ i : Nat, i ≤ l.length ∧ s5 = .int .i64 (i : Int) ∧ l.take i = m.take i ∧ Below w.heap.size w wr) (fun s5 _ => l.length - (intOf s5).toNat)
    case atStart => exact ⟨0, by omega, rfl, by simp, brefl w⟩
    case round =>
      obtain ⟨i, hi, rfl, htk, hb⟩ := hrel
      have HTK := Lib.hid htk
      clear htk
      by_cases hil : i < l.length
      · have i1 : (i : Int) < (l.length : Int) := by omega
        have him : i < m.length := by have := HLM.out; omega
        have i2 : (i : Int) < (m.length : Int) := by omega
        obtain ⟨b, off, rfl, hlt, hcell⟩ := (HS.out.keep hb).at_ (by omega)
        obtain ⟨b', off', rfl, hlt', hcell'⟩ := (HT.out.keep hb).at_ (by omega)
        have k0 : wr.cell? ⟨b, off + i, none⟩ = some (.int .u8 (nth l i)) := hcell i hil
        have k1 : wr.cell? ⟨b', off' + i, none⟩ = some (.int .u8 (nth m i)) := hcell' i him
        have q0 : ∀ p : Bel wr.heap.size wr.drew, p.w'.cell? ⟨b, off + i, none⟩ = some (.int .u8 (nth l i)) := fun p => (p.h.cell (p := ⟨b, off + i, none⟩) hlt).trans k0
        have q1 : ∀ p : Bel wr.heap.size wr.drew, p.w'.cell? ⟨b', off' + i, none⟩ = some (.int .u8 (nth m i)) := fun p => (p.h.cell (p := ⟨b', off' + i, none⟩) hlt').trans k1
        clear hcell hcell' k0 k1
        go_wp2_with fail
        refine Tin.reg_begin wr.heap.size 9 (by rfl) (by kernel_rfl) ?_
        refine Tin.reg_quiets [0, 1, 2, 3, 4, 5, 6, 7, 8] _ 0 rfl (by simp only [Tin.pick, List.map_cons, List.map_nil, Array.getD_eq_getD_getElem?, List.getElem?_toArray, List.getElem?_cons_zero, List.getElem?_cons_succ, Option.getD_some]; rfl) (by kernel_rfl) (by kernel_rfl) ?_
        repeat (first | go_big_quiet_step (fail))
        refine wpQuiet_nil ?_
        refine Tin.reg_done (by kernel_rfl) ?_
        by_cases he : nth l i = nth m i
        · have e1 : (nth l i != nth m i) = false := by simp [he]
          have HE := Lib.hid he
          clear he
          go_wp2_with fail
          go_roundw
          case rel => exact ⟨i + 1, by omega, by go_num, take_eq_step HTK.out hil him HE.out, hb.drew⟩
          case measure => simp [intOf]; omega
        · have e1 : (nth l i != nth m i) = true := by simp [he]
          have HE := Lib.hid he
          clear he
          go_wp2_with fail
          go_ret
          exact ⟨ret_bool (by simp [nth_ne HE.out]), hb.drew⟩
      · obtain rfl : i = l.length := by omega
        go_wp2_with fail
        go_ret
        exact ⟨ret_bool (by have h := HTK.out; rw [List.take_length, HLM.out, List.take_length] at h; simp [h]), hb⟩
  · have hne : ((l.length : Int) != (m.length : Int)) = true := by simp; omega
    have HLM := Lib.hid hlm
    clear hlm
    go_enter Try.func22, Try.ntmps22
    go_wp2_with fail
    go_ret
    exact ⟨ret_bool (by simp; exact fun h => HLM.out (by rw [h])), brefl w⟩


theorem own_any (A : Option Addr) (l : List Int) (c : Nat) (w : World) (hs : Sl .u8 w A l) (hl : l.length ≤ 100000000) :
    Calls Try.prog 18 #[.slice A l.length c] w fun e w' => ∃ A' c', e = .returned (.slice A' l.length c') ∧ Own .u8 5 w' w.heap.size (.slice A' l.length c') l ∧ Below w.heap.size w w' := by
  have HS := Lib.hid hs
  clear hs
  go_enter Try.func18, Try.ntmps18
  have hown0 := Own.new0 (k := .u8) (e := 5) w
  have hb1 : Below w.heap.size w (w.alloc (.cells #[] 5)) := ba (brefl w) _
  go_wp2_with (at_builtin; refine Tin.wpl_app bt5 _ rfl (.tmp 3) (.tmp 4) rfl w.heap.size _ [] rfl hown0 A l.length c l rfl (HS.out.keep hb1) rfl (by rw [List.length_nil]; omega) (by rw [List.length_nil]; omega) (by simp) ?_; intro v6 w6 hown6 hg6 how6)
  simp only [List.nil_append] at hown6
  have hb6 := hown0.grown hb1 (by simp) hg6
  obtain ⟨A6, c6, rfl⟩ := own_form hown6
  go_ret
  exact ⟨A6, c6, rfl, hown6, hb6⟩
end Go.Proofs.Ytmdcdmgbillehaa
/- The contracts of Get and its reference: the number in bytes. -/
namespace Go.Proofs.Ytmdcdmgbillehaa
open Go.RowKit
open Go.Tin
set_option linter.unusedVariables false
set_option linter.unusedSimpArgs false


/-- The bytes of a number, in the order of their weight. -/
def segO (l : List Int) (a s o : Int) : List Int := ordL o ((l.drop a.toNat).take s.toNat)
theorem getB_t {n : Nat} {a s o : Int} (h : getB n a s o = true) : szB s = true ∧ orB o = true ∧ 0 ≤ a ∧ a ≤ (n : Int) - s := by
  unfold getB mayO at h
  simp only [Bool.and_eq_true, decide_eq_true_eq] at h
  exact ⟨h.1.1, h.1.2, h.2.1, h.2.2⟩
theorem seg_len (l : List Int) (a s : Nat) (h : a + s ≤ l.length) : ((l.drop a).take s).length = s := by
  rw [List.length_take, List.length_drop]; omega
theorem seg_nth (l : List Int) (a s i : Nat) (h : a + s ≤ l.length) (hi : i < s) : nth ((l.drop a).take s) i = nth l (a + i) := by
  unfold nth
  simp [List.getD_eq_getElem?_getD, hi]
theorem rev_nth (l : List Int) (i : Nat) (hi : i < l.length) : nth l.reverse i = nth l (l.length - 1 - i) := by
  unfold nth
  rw [List.getD_eq_getElem?_getD, List.getElem?_reverse hi, List.getD_eq_getElem?_getD]
theorem segO_len (l : List Int) (a s : Nat) (o : Int) (h : a + s ≤ l.length) : (segO l a s o).length = s := by
  unfold segO ordL
  split <;> simp [seg_len l a s h, List.length_reverse]
theorem segO_nth (l : List Int) (a s i : Nat) (o : Int) (h : a + s ≤ l.length) (hi : i < s) : nth (segO l a s o) i = nth l (if o = 1 then a + s - 1 - i else a + i) := by
  unfold segO ordL
  simp only [Int.toNat_natCast]
  split
  · rw [rev_nth _ _ (by rw [seg_len l a s h]; exact hi), seg_len l a s h, seg_nth l a s _ h (by omega)]
    congr 1
    omega
  · rw [seg_nth l a s i h hi]
theorem be_step (l : List Int) (i : Nat) (h : i < l.length) : be (l.take (i + 1)) = be (l.take i) * 256 + nth l i := by
  rw [take_snoc_nth l i h, be_snoc]; omega
def Byts (l : List Int) : Prop := ∀ x ∈ l, 0 ≤ x ∧ x < 256
theorem Byts.nth {l : List Int} (h : Byts l) (i : Nat) : 0 ≤ nth l i ∧ nth l i < 256 := by
  unfold Tin.nth
  rw [List.getD_eq_getElem?_getD]
  by_cases hj : i < l.length
  · rw [List.getElem?_eq_getElem hj]; exact h _ (List.getElem_mem hj)
  · rw [List.getElem?_eq_none (by omega)]; simp
theorem Byts.sub {l m : List Int} (h : Byts l) (hm : ∀ x ∈ m, x ∈ l) : Byts m := fun x hx => h x (hm x hx)
theorem Byts.seg {l : List Int} (h : Byts l) (a s o : Int) : Byts (segO l a s o) := h.sub fun x hx => by
  unfold segO ordL at hx
  have key : ∀ y, y ∈ (l.drop a.toNat).take s.toNat → y ∈ l := fun y hy => List.mem_of_mem_drop (List.mem_of_mem_take hy)
  split at hx
  · exact key x (List.mem_reverse.1 hx)
  · exact key x hx
theorem Byts.take {l : List Int} (h : Byts l) (i : Nat) : Byts (l.take i) := h.sub fun _ hx => List.mem_of_mem_take hx
theorem Byts.drop {l : List Int} (h : Byts l) (i : Nat) : Byts (l.drop i) := h.sub fun _ hx => List.mem_of_mem_drop hx
theorem byts_wf {l : List Int} (h : ∀ z ∈ l, (Lit.int .u8 z).wf = true) : Byts l := fun z hz => by
  have := Go.bounds_u8 (h z hz)
  omega
theorem ret_ib {a b : Int} {p q : Bool} (h : a = b) (h' : p = q) : Ending.returned (.tuple #[.int .i64 a, .bool p]) = .returned (.tuple #[.int .i64 b, .bool q]) := by rw [h, h']
theorem be_top {l : List Int} (h : Byts l) {k : Nat} (hk : l.length ≤ k) (hk4 : k ≤ 4) : 0 ≤ be l ∧ be l < 4294967296 ∧ (k ≤ 3 → be l < 16777216) := by
  obtain ⟨h0, h1⟩ := be_bd l h
  have key : (256 : Int) ^ l.length ≤ 256 ^ k := by
    rcases (by omega : k = 0 ∨ k = 1 ∨ k = 2 ∨ k = 3 ∨ k = 4) with rfl | rfl | rfl | rfl | rfl <;>
      (rcases (by omega : l.length = 0 ∨ l.length = 1 ∨ l.length = 2 ∨ l.length = 3 ∨ l.length = 4) with e | e | e | e | e <;> rw [e] at hk ⊢ <;> first | decide | omega)
  refine ⟨h0, ?_, fun hk3 => ?_⟩
  · have : (256 : Int) ^ k ≤ 256 ^ 4 := by rcases (by omega : k = 0 ∨ k = 1 ∨ k = 2 ∨ k = 3 ∨ k = 4) with rfl | rfl | rfl | rfl | rfl <;> decide
    have e : (256 : Int) ^ 4 = 4294967296 := by decide
    omega
  · have : (256 : Int) ^ k ≤ 256 ^ 3 := by rcases (by omega : k = 0 ∨ k = 1 ∨ k = 2 ∨ k = 3) with rfl | rfl | rfl | rfl <;> decide
    have e : (256 : Int) ^ 3 = 16777216 := by decide
    omega

set_option maxRecDepth 100000 in
set_option maxHeartbeats 1000000 in
theorem get_no (A : Option Addr) (n c : Nat) (a s o : Int) (w : World) (hn : n ≤ 1000000000) (hno : getB n a s o = false) :
    Calls Try.prog 70 #[.slice A n c, .int .i64 a, .int .i64 s, .int .i64 o] w fun e w' => e = .returned (.tuple #[.int .i64 0, .bool false]) ∧ Below w.heap.size w w' := by
  go_enter Try.func70, Try.ntmps70
  go_wp2_with fail
  refine (may_any s o w).mono ?_
  rintro e w1 ⟨rfl, hb⟩
  by_cases hm : mayO s o = true
  · unfold getB at hno
    rw [hm, Bool.true_and] at hno
    rw [hm]
    have hs : szB s = true := by unfold mayO at hm; rw [Bool.and_eq_true] at hm; exact hm.1
    have hs' := szB_t hs
    have s0 : 0 ≤ s := by omega
    have s1 : s ≤ 4 := by omega
    clear hm hs hs'
    by_cases h0 : a < 0
    · have d0 : decide (a < 0) = true := by simpa using h0
      clear hno
      go_wp2_with fail
      go_ret2
      exact ⟨rfl, hb⟩
    · have d0 : decide (a < 0) = false := by simpa using h0
      have d1 : decide ((n : Int) - s < a) = true := by simp at hno; simp; omega
      clear hno
      go_wp2_with fail
      go_ret2
      exact ⟨rfl, hb⟩
  · have hm' : mayO s o = false := by simpa using hm
    rw [hm']
    clear hno hm hm'
    go_wp2_with fail
    go_ret2
    exact ⟨rfl, hb⟩

set_option maxRecDepth 100000 in
set_option maxHeartbeats 1000000 in
theorem get_yes (A : Option Addr) (l : List Int) (c : Nat) (a s : Nat) (o : Int) (w : World) (hs : Sl .u8 w A l) (hl : l.length ≤ 1000000000) (hby : Byts l) (hy : getB l.length a s o = true) :
    Calls Try.prog 70 #[.slice A l.length c, .int .i64 (a : Int), .int .i64 (s : Int), .int .i64 o] w fun e w' => e = .returned (.tuple #[.int .i64 (be (segO l a s o)), .bool true]) ∧ Below w.heap.size w w' := by
  obtain ⟨hz, ho, a0, a1⟩ := getB_t hy
  have hmay : mayO s o = true := by unfold mayO; rw [hz, ho]; rfl
  have hs4 : s ≤ 4 ∧ 1 ≤ s := by have := szB_t hz; omega
  have hfit : a + s ≤ l.length := by omega
  have ho' := orB_t ho
  have HSL := Lib.hid (segO_len l a s o hfit)
  have HSN := Lib.hid (fun i hi => segO_nth l a s i o hfit hi)
  have HBS := Lib.hid (hby.seg a s o)
  have HS := Lib.hid hs
  have HB := Lib.hid hby
  have HM := Lib.hid hmay
  generalize segO l a s o = q at *
  clear hs hby hz ho hy hmay
  have d1 : decide ((l.length : Int) - (s : Int) < (a : Int)) = false := by simp; omega
  go_enter Try.func70, Try.ntmps70
  go_wp2_with fail
  refine (may_any s o w).mono ?_
  rintro e w1 ⟨rfl, hb⟩
  rw [HM.out]
  go_wp2_with fail
  go_loop [10, 30] (fun s10 s30 => ∃ i : Nat, i ≤ s ∧ s30 = .int .i64 (i : Int) ∧ s10 = .int .i64 (be (q.take i))) (fun _ s30 => s - (intOf s30).toNat)
  case atStart => exact ⟨0, by omega, rfl, rfl⟩
  case round =>
    obtain ⟨i, hi, rfl, rfl⟩ := hrel
    by_cases his : i < s
    · have i1 : (i : Int) < (s : Int) := by omega
      obtain ⟨b, off, rfl, hlt, hcell⟩ := (HS.out.keep hb).at_ (by omega)
      obtain ⟨n0, n1, n2⟩ := be_top (HBS.out.take i) (show (q.take i).length ≤ i by rw [List.length_take]; omega) (by omega)
      have n3 := n2 (by omega)
      have hst := be_step q i (by rw [HSL.out]; exact his)
      have hx := HSN.out i his
      rw [hx] at hst
      rcases ho' with rfl | rfl
      · rw [if_pos rfl] at hst
        have k0 := hcell (a + s - 1 - i) (by omega)
        rw [show l.getD (a + s - 1 - i) 0 = nth l (a + s - 1 - i) from rfl] at k0
        have e1 : (a : Int) + (s : Int) - 1 - (i : Int) = ((a + s - 1 - i : Nat) : Int) := by omega
        have b0 := HB.out.nth (a + s - 1 - i)
        have hor := i64_or_byte (be (q.take i)) (nth l (a + s - 1 - i)) n0 n1 b0.1 b0.2
        have HST := Lib.hid hst
        clear hst hx hcell n2
        go_wp2_with fail
        go_round
        case rel => exact ⟨i + 1, by omega, by go_num, by rw [HST.out]⟩
        case measure => simp [intOf]; omega
      · rw [if_neg (by decide)] at hst
        have k0 := hcell (a + i) (by omega)
        rw [show l.getD (a + i) 0 = nth l (a + i) from rfl] at k0
        have b0 := HB.out.nth (a + i)
        have hor := i64_or_byte (be (q.take i)) (nth l (a + i)) n0 n1 b0.1 b0.2
        have HST := Lib.hid hst
        clear hst hx hcell n2
        go_wp2_with fail
        go_round
        case rel => exact ⟨i + 1, by omega, by go_num, by rw [HST.out]⟩
        case measure => simp [intOf]; omega
    · obtain rfl : i = s := by omega
      go_wp2_with fail
      go_ret2
      exact ⟨ret_ib (by rw [List.take_of_length_le (by rw [HSL.out]; omega)]) rfl, hb⟩

set_option maxRecDepth 100000 in
set_option maxHeartbeats 1000000 in
theorem get_any (A : Option Addr) (l : List Int) (c : Nat) (a s o : Int) (w : World) (hs : Sl .u8 w A l) (hl : l.length ≤ 1000000000) (hby : Byts l) :
    Calls Try.prog 70 #[.slice A l.length c, .int .i64 a, .int .i64 s, .int .i64 o] w fun e w' => e = .returned (.tuple #[.int .i64 (getN l a s o), .bool (getB l.length a s o)]) ∧ Below w.heap.size w w' := by
  by_cases h : getB l.length a s o = true
  · obtain ⟨hz, ho, a0, a1⟩ := getB_t h
    obtain ⟨a, rfl⟩ := Int.eq_ofNat_of_zero_le a0
    obtain ⟨s, rfl⟩ := Int.eq_ofNat_of_zero_le (show 0 ≤ s by have := szB_t hz; omega)
    refine (get_yes A l c a s o w hs hl hby h).mono ?_
    rintro e w' ⟨rfl, hb⟩
    exact ⟨ret_ib (by unfold getN; rw [if_pos h]; rfl) h.symm, hb⟩
  · have h' : getB l.length a s o = false := by simpa using h
    refine (get_no A l.length c a s o w hl h').mono ?_
    rintro e w' ⟨rfl, hb⟩
    exact ⟨ret_ib (by unfold getN; rw [if_neg h]) h'.symm, hb⟩
end Go.Proofs.Ytmdcdmgbillehaa
/- The contract of the reference of Get: the number in bytes. -/
namespace Go.Proofs.Ytmdcdmgbillehaa
open Go.RowKit
open Go.Tin
set_option linter.unusedVariables false
set_option linter.unusedSimpArgs false


theorem be_acc : ∀ (t : List Int) (n : Int), t.foldl (fun n x => 256 * n + x) n = n * 256 ^ t.length + t.foldl (fun n x => 256 * n + x) 0
  | [], n => by simp
  | x :: t, n => by
    rw [List.foldl_cons, List.foldl_cons, be_acc t (256 * n + x), be_acc t (256 * 0 + x), List.length_cons, Int.pow_succ, Int.add_mul, Int.add_mul]
    have : 256 * n * 256 ^ t.length = n * (256 ^ t.length * 256) := by rw [Int.mul_comm 256 n, Int.mul_assoc, Int.mul_comm 256]
    omega
theorem be_cons (x : Int) (t : List Int) : be (x :: t) = x * 256 ^ t.length + be t := by
  unfold be
  rw [List.foldl_cons, be_acc]
  simp
theorem be_drop (q : List Int) (i : Nat) (h : i < q.length) : be (q.drop (q.length - (i + 1))) = be (q.drop (q.length - i)) + 256 ^ i * nth q (q.length - 1 - i) := by
  have e : q.length - (i + 1) = q.length - 1 - i := by omega
  rw [e, List.drop_eq_getElem_cons (by omega : q.length - 1 - i < q.length), be_cons, List.length_drop, show q.length - 1 - i + 1 = q.length - i by omega, show q.length - (q.length - i) = i by omega]
  have : nth q (q.length - 1 - i) = q[q.length - 1 - i]'(by omega) := by simp [nth, List.getD_eq_getElem?_getD, show q.length - 1 - i < q.length by omega]
  rw [this, Int.mul_comm, Int.add_comm]
theorem pw256 (i : Nat) (hi : i ≤ 4) : 1 ≤ (256 : Int) ^ i ∧ (256 : Int) ^ i ≤ 4294967296 := by
  rcases (by omega : i = 0 ∨ i = 1 ∨ i = 2 ∨ i = 3 ∨ i = 4) with rfl | rfl | rfl | rfl | rfl <;> decide

theorem getB_f {n : Nat} {a s o : Int} (h : getB n a s o = false) : szB s = false ∨ orB o = false ∨ a < 0 ∨ (n : Int) - s < a := by
  unfold getB mayO at h
  cases h1 : szB s
  · exact .inl rfl
  · cases h2 : orB o
    · exact .inr (.inl rfl)
    · rw [h1, h2] at h
      simp at h
      omega
theorem topI_eq0 (s : Int) : (topI s == 0) = !szB s := by
  cases h : szB s
  · rw [topI_no h]; rfl
  · have := topI_pos h
    simp; omega

set_option maxRecDepth 100000 in
set_option maxHeartbeats 1000000 in
theorem rget_no (A : Option Addr) (n c : Nat) (a s o : Int) (w : World) (hn : n ≤ 1000000000) (hno : getB n a s o = false) :
    Calls Try.prog 72 #[.slice A n c, .int .i64 a, .int .i64 s, .int .i64 o] w fun e w' => e = .returned (.tuple #[.int .i64 0, .bool false]) ∧ Below w.heap.size w w' := by
  have hf := getB_f hno
  have ht := topI_eq0 s
  clear hno
  cases hz : szB s
  · rw [hz] at ht
    clear hf
    go_enter Try.func72, Try.ntmps72
    go_wp2_with fail
    refine (rtop_any s w).mono ?_
    rintro e w1 ⟨rfl, rfl⟩
    go_wp2_with fail
    go_ret2
    exact ⟨rfl, brefl _⟩
  · rw [hz] at ht
    have hs := szB_t hz
    have s0 : 0 ≤ s := by omega
    have s1 : s ≤ 4 := by omega
    clear hs
    by_cases h1 : o < 1
    · have d1 : decide (o < 1) = true := by simpa using h1
      clear hf h1 hz
      go_enter Try.func72, Try.ntmps72
      go_wp2_with fail
      refine (rtop_any s w).mono ?_
      rintro e w1 ⟨rfl, rfl⟩
      go_wp2_with fail
      go_ret2
      exact ⟨rfl, brefl _⟩
    by_cases h2 : 2 < o
    · have d1 : decide (o < 1) = false := by simpa using h1
      have d2 : decide (2 < o) = true := by simpa using h2
      clear hf h1 hz h2
      go_enter Try.func72, Try.ntmps72
      go_wp2_with fail
      refine (rtop_any s w).mono ?_
      rintro e w1 ⟨rfl, rfl⟩
      go_wp2_with fail
      go_ret2
      exact ⟨rfl, brefl _⟩
    have d1 : decide (o < 1) = false := by simpa using h1
    have d2 : decide (2 < o) = false := by simpa using h2
    have hf' : a < 0 ∨ (n : Int) - s < a := by
      rcases hf with h | h | h
      · rw [hz] at h; cases h
      · have := orB_f h; omega
      · exact h
    clear hf h1 h2
    by_cases h3 : a < 0
    · have d3 : decide (a < 0) = true := by simpa using h3
      clear hf' hz h3
      go_enter Try.func72, Try.ntmps72
      go_wp2_with fail
      refine (rtop_any s w).mono ?_
      rintro e w1 ⟨rfl, rfl⟩
      go_wp2_with fail
      go_ret2
      exact ⟨rfl, brefl _⟩
    have d3 : decide (a < 0) = false := by simpa using h3
    by_cases h4 : (n : Int) < a
    · have d4 : decide ((n : Int) < a) = true := by simpa using h4
      clear hf' hz h3 h4
      go_enter Try.func72, Try.ntmps72
      go_wp2_with fail
      refine (rtop_any s w).mono ?_
      rintro e w1 ⟨rfl, rfl⟩
      go_wp2_with fail
      go_ret2
      exact ⟨rfl, brefl _⟩
    · have d4 : decide ((n : Int) < a) = false := by simpa using h4
      have d5 : decide ((n : Int) - a < s) = true := by simp; omega
      have a0 : 0 ≤ a := by omega
      have a1 : a ≤ n := by omega
      clear hf' hz h3 h4
      go_enter Try.func72, Try.ntmps72
      go_wp2_with fail
      refine (rtop_any s w).mono ?_
      rintro e w1 ⟨rfl, rfl⟩
      go_wp2_with fail
      go_ret2
      exact ⟨rfl, brefl _⟩

set_option maxRecDepth 100000 in
set_option maxHeartbeats 1000000 in
theorem rget_yes (A : Option Addr) (l : List Int) (c : Nat) (a s : Nat) (o : Int) (w : World) (hs : Sl .u8 w A l) (hl : l.length ≤ 1000000000) (hby : Byts l) (hy : getB l.length a s o = true) :
    Calls Try.prog 72 #[.slice A l.length c, .int .i64 (a : Int), .int .i64 (s : Int), .int .i64 o] w fun e w' => e = .returned (.tuple #[.int .i64 (be (segO l a s o)), .bool true]) ∧ Below w.heap.size w w' := by
  obtain ⟨hz, ho, a0, a1⟩ := getB_t hy
  have ht := topI_eq0 s
  rw [hz] at ht
  have hs4 : s ≤ 4 ∧ 1 ≤ s := by have := szB_t hz; omega
  have hfit : a + s ≤ l.length := by omega
  have ho' := orB_t ho
  have d1 : decide (o < 1) = false := by simp; omega
  have d2 : decide (2 < o) = false := by simp; omega
  have d4 : decide (l.length < a) = false := by simp; omega
  have d5 : decide ((l.length : Int) - (a : Int) < (s : Int)) = false := by simp; omega
  have HSL := Lib.hid (segO_len l a s o hfit)
  have HSN := Lib.hid (fun i hi => segO_nth l a s i o hfit hi)
  have HBS := Lib.hid (hby.seg a s o)
  have HS := Lib.hid hs
  have HB := Lib.hid hby
  generalize segO l a s o = q at *
  clear hs hby hz ho hy
  go_enter Try.func72, Try.ntmps72
  go_wp2_with fail
  refine (rtop_any s w).mono ?_
  rintro e w1 ⟨rfl, rfl⟩
  go_wp2_with fail
  go_loop [10, 11, 12] (fun s10 s11 s12 => ∃ (i : Nat) (p : Int), i ≤ s ∧ s12 = .int .i64 (i : Int) ∧ s11 = .int .i64 p ∧ p = 256 ^ i ∧ s10 = .int .i64 (be (q.drop (s - i)))) (fun _ _ s12 => s - (intOf s12).toNat)
  case atStart => exact ⟨0, 1, by omega, rfl, rfl, rfl, by rw [List.drop_of_length_le (by rw [HSL.out]; omega)]; rfl⟩
  case round =>
    obtain ⟨i, p, hi, rfl, rfl, hp, rfl⟩ := hrel
    by_cases his : i < s
    · have i1 : (i : Int) < (s : Int) := by omega
      obtain ⟨b, off, rfl, hlt, hcell⟩ := HS.out.at_ (by omega)
      obtain ⟨n0, n1, n2⟩ := be_top (HBS.out.drop (s - i)) (show (q.drop (s - i)).length ≤ i by rw [List.length_drop, HSL.out]; omega) (by omega)
      have hst := be_drop q i (by rw [HSL.out]; exact his)
      rw [HSL.out] at hst
      have hx := HSN.out (s - 1 - i) (by omega)
      rw [hx, ← hp] at hst
      have hpb := pw256 i (by omega)
      rw [← hp] at hpb
      have HP := Lib.hid (show (256 : Int) * p = 256 ^ (i + 1) by rw [hp, Int.pow_succ, Int.mul_comm])
      obtain ⟨p0, p1⟩ := hpb
      rcases ho' with rfl | rfl
      · rw [if_pos rfl, show a + s - 1 - (s - 1 - i) = a + i by omega] at hst
        have k0 := hcell (a + i) (by omega)
        rw [show l.getD (a + i) 0 = nth l (a + i) from rfl] at k0
        have b0 := HB.out.nth (a + i)
        have m0 : 0 ≤ p * nth l (a + i) := Int.mul_nonneg (by omega) b0.1
        have m1 : p * nth l (a + i) ≤ 4294967296 * 256 := Int.mul_le_mul p1 (by omega) b0.1 (by omega)
        have HST := Lib.hid hst
        clear hst hx hcell n2 hp
        go_wp2_with fail
        go_round
        case rel => exact ⟨i + 1, 256 * p, by omega, by go_num, rfl, HP.out, by rw [HST.out]⟩
        case measure => simp [intOf]; omega
      · rw [if_neg (by decide), show a + (s - 1 - i) = a + s - 1 - i by omega] at hst
        have k0 := hcell (a + s - 1 - i) (by omega)
        rw [show l.getD (a + s - 1 - i) 0 = nth l (a + s - 1 - i) from rfl] at k0
        have e1 : (a : Int) + (s : Int) - 1 - (i : Int) = ((a + s - 1 - i : Nat) : Int) := by omega
        have b0 := HB.out.nth (a + s - 1 - i)
        have m0 : 0 ≤ p * nth l (a + s - 1 - i) := Int.mul_nonneg (by omega) b0.1
        have m1 : p * nth l (a + s - 1 - i) ≤ 4294967296 * 256 := Int.mul_le_mul p1 (by omega) b0.1 (by omega)
        have HST := Lib.hid hst
        clear hst hx hcell n2 hp
        go_wp2_with fail
        go_round
        case rel => exact ⟨i + 1, 256 * p, by omega, by go_num, rfl, HP.out, by rw [HST.out]⟩
        case measure => simp [intOf]; omega
    · obtain rfl : i = s := by omega
      go_wp2_with fail
      go_ret2
      exact ⟨ret_ib (by simp) rfl, brefl _⟩

theorem rget_any (A : Option Addr) (l : List Int) (c : Nat) (a s o : Int) (w : World) (hs : Sl .u8 w A l) (hl : l.length ≤ 1000000000) (hby : Byts l) :
    Calls Try.prog 72 #[.slice A l.length c, .int .i64 a, .int .i64 s, .int .i64 o] w fun e w' => e = .returned (.tuple #[.int .i64 (getN l a s o), .bool (getB l.length a s o)]) ∧ Below w.heap.size w w' := by
  by_cases h : getB l.length a s o = true
  · obtain ⟨hz, ho, a0, a1⟩ := getB_t h
    obtain ⟨a, rfl⟩ := Int.eq_ofNat_of_zero_le a0
    obtain ⟨s, rfl⟩ := Int.eq_ofNat_of_zero_le (show 0 ≤ s by have := szB_t hz; omega)
    refine (rget_yes A l c a s o w hs hl hby h).mono ?_
    rintro e w' ⟨rfl, hb⟩
    exact ⟨ret_ib (by unfold getN; rw [if_pos h]; rfl) h.symm, hb⟩
  · have h' : getB l.length a s o = false := by simpa using h
    refine (rget_no A l.length c a s o w hl h').mono ?_
    rintro e w' ⟨rfl, hb⟩
    exact ⟨ret_ib (by unfold getN; rw [if_neg h]) h'.symm, hb⟩
end Go.Proofs.Ytmdcdmgbillehaa
/- The contract of Reverse: a part of a row of the call's own is turned. -/
namespace Go.Proofs.Ytmdcdmgbillehaa
open Go.RowKit
open Go.Tin
set_option linter.unusedVariables false
set_option linter.unusedSimpArgs false


/-- A row of which a part is turned, so far from both of its ends. -/
def revP (l : List Int) (off n t : Nat) : List Int := (List.range l.length).map fun q => if off ≤ q ∧ q < off + n ∧ (q < off + t ∨ off + n ≤ q + t) then nth l (off + (off + n) - 1 - q) else nth l q
def revF (l : List Int) (off n : Nat) : List Int := revP l off n n
@[simp] theorem revP_len (l : List Int) (off n t : Nat) : (revP l off n t).length = l.length := by simp [revP]
theorem revP_nth (l : List Int) (off n t q : Nat) (hq : q < l.length) : nth (revP l off n t) q = if off ≤ q ∧ q < off + n ∧ (q < off + t ∨ off + n ≤ q + t) then nth l (off + (off + n) - 1 - q) else nth l q := by
  conv => lhs; unfold nth revP
  simp [List.getD_eq_getElem?_getD, hq]
theorem revP_zero (l : List Int) (off n : Nat) : revP l off n 0 = l := by
  refine ext_nth (by simp) fun i hi => ?_
  rw [revP_len] at hi
  rw [revP_nth l off n 0 i hi, if_neg (by omega)]
theorem revP_step (l : List Int) (off n t : Nat) (h : t + t + 1 < n) (hfit : off + n ≤ l.length) : ((revP l off n t).set (off + t) (nth l (off + (n - 1 - t)))).set (off + (n - 1 - t)) (nth l (off + t)) = revP l off n (t + 1) := by
  refine ext_nth (by simp) fun i hi => ?_
  simp only [List.length_set, revP_len] at hi
  rw [nth_set _ _ _ _ (by simp; omega), nth_set _ _ _ _ (by simp; omega), revP_nth l off n t i hi, revP_nth l off n (t + 1) i hi]
  by_cases h1 : i = off + (n - 1 - t)
  · rw [if_pos h1, if_pos (by omega)]
    congr 1
    omega
  · rw [if_neg h1]
    by_cases h2 : i = off + t
    · rw [if_pos h2, if_pos (by omega)]
      congr 1
      omega
    · rw [if_neg h2]
      by_cases h3 : off ≤ i ∧ i < off + n ∧ (i < off + t ∨ off + n ≤ i + t)
      · rw [if_pos h3, if_pos (by omega)]
      · rw [if_neg h3, if_neg (by omega)]
theorem revP_end (l : List Int) (off n t : Nat) (h : n ≤ t + t + 1) : revP l off n t = revF l off n := by
  refine ext_nth (by simp [revF]) fun i hi => ?_
  rw [revP_len] at hi
  unfold revF
  rw [revP_nth l off n t i hi, revP_nth l off n n i hi]
  by_cases h1 : off ≤ i ∧ i < off + n
  · rw [if_pos (show off ≤ i ∧ i < off + n ∧ (i < off + n ∨ off + n ≤ i + n) by omega)]
    by_cases h2 : i < off + t ∨ off + n ≤ i + t
    · rw [if_pos ⟨h1.1, h1.2, h2⟩]
    · rw [if_neg (by omega)]
      congr 1
      omega
  · rw [if_neg (by omega), if_neg (by omega)]
theorem revP_old (l : List Int) (off n t q : Nat) (hq : off + q < l.length) (h1 : t ≤ q) (h2 : q + t < n) : nth (revP l off n t) (off + q) = nth l (off + q) := by
  rw [revP_nth l off n t _ hq, if_neg (by omega)]
theorem gd {w w' : World} {r : Option Nat} (h : w.grownBy w' r) : w.grownBy w'.drew r := ⟨h.os, h.tape, h.output, h.size, h.block⟩
theorem gb0 {w w' : World} {r : Option Nat} (h : w.grownBy w' r) : Below 0 w w' := ⟨h.os, h.tape, h.output, h.size, fun k hk => absurd hk (Nat.not_lt_zero _)⟩

set_option maxRecDepth 100000 in
set_option maxHeartbeats 4000000 in
theorem rev_any (B g m c0 off n c : Nat) (l : List Int) (w : World) (hown : Own .u8 5 w B (.slice (some ⟨g, 0, none⟩) m c0) l) (hfit : off + n ≤ l.length) (hn : n ≤ c) (hl : l.length ≤ 1000000000) :
    Calls Try.prog 68 #[.slice (some ⟨g, off, none⟩) n c] w fun e w' => e = .returned (.tuple #[]) ∧ Own .u8 5 w' B (.slice (some ⟨g, 0, none⟩) m c0) (revF l off n) ∧ w.grownBy w' (some g) ∧ w'.heap.size = w.heap.size := by
  have HO := Lib.hid hown
  clear hown
  go_enter Try.func68, Try.ntmps68
  go_wp2_with fail
  go_loopw [2, 3] (fun s2 s3 wr => ∃ (t : Nat) (j : Int), t ≤ n ∧ s2 = .int .i64 (t : Int) ∧ s3 = .int .i64 j ∧ j = (n : Int) - 1 - (t : Int) ∧ (t = 0 ∨ t + t ≤ n) ∧ Own .u8 5 wr B (.slice (some ⟨g, 0, none⟩) m c0) (revP l off n t) ∧ w.grownBy wr (some g) ∧ wr.heap.size = w.heap.size) (fun s2 _ _ => n - (intOf s2).toNat)
  case atStart => exact ⟨0, _, by omega, rfl, rfl, by omega, .inl rfl, by rw [revP_zero]; exact HO.out, World.grownBy.refl w _, rfl⟩
  case round =>
    obtain ⟨t, j, ht, rfl, rfl, hj, ht2, ho, hg, hz⟩ := hrel
    by_cases hlt : t + t + 1 < n
    · obtain ⟨J, rfl⟩ := Int.eq_ofNat_of_zero_le (show 0 ≤ j by omega)
      have hJ : J = n - 1 - t := by omega
      have j1 : (t : Int) < (J : Int) := by omega
      have jn : (J : Int) < (n : Int) := by omega
      have tn : (t : Int) < (n : Int) := by omega
      have k0 := ho.cell_ (off + t) (by simp; omega)
      have k1 := ho.cell_ (off + J) (by simp; omega)
      rw [revP_old l off n t t (by omega) (by omega) (by omega)] at k0
      rw [revP_old l off n t J (by omega) (by omega) (by omega)] at k1
      have HR := Lib.hid ho
      have HG := Lib.hid hg
      have HZ := Lib.hid hz
      have HJ := Lib.hid hJ
      clear ho hg hz hJ hj ht2
      go_wp2_with fail
      refine Tin.reg_begin 0 16 (by rfl) (by kernel_rfl) ?_
      refine Tin.reg_quiets [0, 1, 2, 3, 4, 5, 6, 8, 9, 10] _ 6 rfl (by simp only [Tin.pick, List.map_cons, List.map_nil, Array.getD_eq_getD_getElem?, List.getElem?_toArray, List.getElem?_cons_zero, List.getElem?_cons_succ, Option.getD_some]; rfl) (by kernel_rfl) (by kernel_rfl) ?_
      repeat (first | go_big_quiet_step (fail))
      refine wpQuiet_nil ?_
      refine Tin.reg_two 7 11 _ _ rfl rfl (by kernel_rfl) ?_ ?_
      · go_wp2_with fail
        refine ⟨0, Below.refl _ _, Nat.le_refl _, ?_⟩
        refine Tin.reg_one 11 _ rfl (by kernel_rfl) ?_
        try simp only [List.getElem_toArray, List.getElem_cons_succ, List.getElem_cons_zero]
        go_wp2_with fail
        refine ⟨0, Below.refl _ _, Nat.le_refl _, ?_⟩
        refine Tin.reg_quiets [12] _ 3 rfl (by simp only [Tin.pick, List.map_cons, List.map_nil, Array.getD_eq_getD_getElem?, List.getElem?_toArray, List.getElem?_cons_zero, List.getElem?_cons_succ, Option.getD_some]; rfl) (by kernel_rfl) (by kernel_rfl) ?_
        repeat (first | go_big_quiet_step (fail))
        refine wpQuiet_nil ?_
        refine Tin.reg_one 13 _ rfl (by kernel_rfl) ?_
        try simp only [List.getElem_toArray, List.getElem_cons_succ, List.getElem_cons_zero]
        refine Tin.wpl_set bt5 _ rfl (.tmp 26) (.tmp 21) rfl B g m c0 _ HR.out.drew (off + t) (by simp; omega) (nth l (off + J)) rfl rfl ?_
        intro w2 ho2 hg2 hz2
        simp only [Act.put]
        refine ⟨0, gb0 hg2, Nat.le_refl _, ?_⟩
        refine Tin.reg_quiets [14] _ 1 rfl (by simp only [Tin.pick, List.map_cons, List.map_nil, Array.getD_eq_getD_getElem?, List.getElem?_toArray, List.getElem?_cons_zero, List.getElem?_cons_succ, Option.getD_some]; rfl) (by kernel_rfl) (by kernel_rfl) ?_
        repeat (first | go_big_quiet_step (fail))
        refine wpQuiet_nil ?_
        refine Tin.reg_one 15 _ rfl (by kernel_rfl) ?_
        try simp only [List.getElem_toArray, List.getElem_cons_succ, List.getElem_cons_zero]
        refine Tin.wpl_set bt5 _ rfl (.tmp 27) (.tmp 25) rfl B g m c0 _ ho2 (off + J) (by simp; omega) (nth l (off + t)) rfl rfl ?_
        intro w3 ho3 hg3 hz3
        simp only [Act.put]
        refine ⟨0, gb0 hg3, Nat.le_refl _, ?_⟩
        refine Tin.reg_done (by kernel_rfl) ?_
        have HO3 := Lib.hid (show Own .u8 5 w3 B (.slice (some ⟨g, 0, none⟩) m c0) (revP l off n (t + 1)) by rw [← revP_step l off n t (by omega) hfit]; rw [HJ.out] at ho3; exact ho3)
        have HG3 := Lib.hid ((gd HG.out).trans (hg2.trans hg3))
        have HZ3 := Lib.hid (show w3.heap.size = w.heap.size from hz3.trans (hz2.trans HZ.out))
        clear ho3 ho2 hg2 hg3 hz2 hz3 HR
        go_wp2_with fail
        go_roundw
        case rel => exact ⟨t + 1, _, by omega, by go_num, rfl, by have := HJ.out; omega, .inr (by omega), HO3.out, HG3.out, HZ3.out⟩
        case measure => simp [intOf]; omega
      · go_wp2_with fail
        refine ⟨0, Below.refl _ _, Nat.le_refl _, ?_⟩
        refine Tin.reg_one 7 _ rfl (by kernel_rfl) ?_
        try simp only [List.getElem_toArray, List.getElem_cons_succ, List.getElem_cons_zero]
        go_wp2_with fail
        refine ⟨0, Below.refl _ _, Nat.le_refl _, ?_⟩
        refine Tin.reg_quiets [12] _ 3 rfl (by simp only [Tin.pick, List.map_cons, List.map_nil, Array.getD_eq_getD_getElem?, List.getElem?_toArray, List.getElem?_cons_zero, List.getElem?_cons_succ, Option.getD_some]; rfl) (by kernel_rfl) (by kernel_rfl) ?_
        repeat (first | go_big_quiet_step (fail))
        refine wpQuiet_nil ?_
        refine Tin.reg_one 13 _ rfl (by kernel_rfl) ?_
        try simp only [List.getElem_toArray, List.getElem_cons_succ, List.getElem_cons_zero]
        refine Tin.wpl_set bt5 _ rfl (.tmp 26) (.tmp 21) rfl B g m c0 _ HR.out.drew (off + t) (by simp; omega) (nth l (off + J)) rfl rfl ?_
        intro w2 ho2 hg2 hz2
        simp only [Act.put]
        refine ⟨0, gb0 hg2, Nat.le_refl _, ?_⟩
        refine Tin.reg_quiets [14] _ 1 rfl (by simp only [Tin.pick, List.map_cons, List.map_nil, Array.getD_eq_getD_getElem?, List.getElem?_toArray, List.getElem?_cons_zero, List.getElem?_cons_succ, Option.getD_some]; rfl) (by kernel_rfl) (by kernel_rfl) ?_
        repeat (first | go_big_quiet_step (fail))
        refine wpQuiet_nil ?_
        refine Tin.reg_one 15 _ rfl (by kernel_rfl) ?_
        try simp only [List.getElem_toArray, List.getElem_cons_succ, List.getElem_cons_zero]
        refine Tin.wpl_set bt5 _ rfl (.tmp 27) (.tmp 25) rfl B g m c0 _ ho2 (off + J) (by simp; omega) (nth l (off + t)) rfl rfl ?_
        intro w3 ho3 hg3 hz3
        simp only [Act.put]
        refine ⟨0, gb0 hg3, Nat.le_refl _, ?_⟩
        refine Tin.reg_done (by kernel_rfl) ?_
        have HO3 := Lib.hid (show Own .u8 5 w3 B (.slice (some ⟨g, 0, none⟩) m c0) (revP l off n (t + 1)) by rw [← revP_step l off n t (by omega) hfit]; rw [HJ.out] at ho3; exact ho3)
        have HG3 := Lib.hid ((gd HG.out).trans (hg2.trans hg3))
        have HZ3 := Lib.hid (show w3.heap.size = w.heap.size from hz3.trans (hz2.trans HZ.out))
        clear ho3 ho2 hg2 hg3 hz2 hz3 HR
        go_wp2_with fail
        go_roundw
        case rel => exact ⟨t + 1, _, by omega, by go_num, rfl, by have := HJ.out; omega, .inr (by omega), HO3.out, HG3.out, HZ3.out⟩
        case measure => simp [intOf]; omega
    · have hj1 : j ≤ (t : Int) := by omega
      rw [revP_end l off n t (by omega)] at ho
      have HR := Lib.hid ho
      have HG := Lib.hid hg
      have HZ := Lib.hid hz
      clear ho hg hz hj ht2
      go_wp2_with fail
      exact bodyPost_end (by simp [results, go_sem]) rfl ⟨rfl, HR.out, HG.out, HZ.out⟩
end Go.Proofs.Ytmdcdmgbillehaa
/- The contract of Put: a number's bytes. -/
namespace Go.Proofs.Ytmdcdmgbillehaa
open Go.RowKit
open Go.Tin
set_option linter.unusedVariables false
set_option linter.unusedSimpArgs false


theorem bytesOf_cons : ∀ (k : Nat) (n : Int), bytesOf (k + 1) n = (n / 256 ^ k % 256) :: bytesOf k n
  | 0, n => by simp [bytesOf]
  | k + 1, n => by
    have e : n / 256 / 256 ^ k = n / 256 ^ (k + 1) := by
      rw [Int.ediv_ediv_of_nonneg (by decide), Int.pow_succ, Int.mul_comm]
    rw [bytesOf, bytesOf_cons k (n / 256), e]
    rfl
theorem revF_all (l : List Int) : revF l 0 l.length = l.reverse := by
  refine ext_nth (by simp [revF]) fun i hi => ?_
  have hi' : i < l.length := by simpa [revF] using hi
  unfold revF
  rw [revP_nth l 0 l.length l.length i hi', if_pos (by omega), rev_nth l i hi']
  congr 1
  omega
/-- So many low bytes told, noughts ahead. -/
def lowB (s i : Nat) (n : Int) : List Int := List.replicate (s - i) 0 ++ bytesOf i n
theorem lowB_len (s i : Nat) (n : Int) (h : i ≤ s) : (lowB s i n).length = s := by
  unfold lowB
  rw [List.length_append, List.length_replicate, bytesOf_len]
  omega
theorem lowB_set (s i : Nat) (n : Int) (h : i < s) : (lowB s i n).set (s - 1 - i) (n / 256 ^ i % 256) = lowB s (i + 1) n := by
  unfold lowB
  rw [bytesOf_cons, show s - i = s - 1 - i + 1 by omega, List.replicate_succ', show s - (i + 1) = s - 1 - i by omega, List.append_assoc, List.set_append_right _ _ (by simp)]
  simp
theorem lowB_all (s : Nat) (n : Int) : lowB s s n = bytesOf s n := by unfold lowB; simp

set_option maxRecDepth 100000 in
set_option maxHeartbeats 1000000 in
theorem put_yes (n : Int) (s : Nat) (o : Int) (w : World) (hy : putB n s o = true) :
    Calls Try.prog 60 #[.int .i64 n, .int .i64 (s : Int), .int .i64 o] w fun e w' => ∃ A c, e = .returned (.tuple #[.slice A s c, .bool true]) ∧ Own .u8 5 w' w.heap.size (.slice A s c) (putL n s o) ∧ Below w.heap.size w w' := by
  have hy2 := hy
  unfold putB mayO at hy2
  simp only [Bool.and_eq_true, decide_eq_true_eq] at hy2
  obtain ⟨⟨hz, ho⟩, n0, n1⟩ := hy2
  have hmay := Lib.hid (show mayO s o = true by unfold mayO; rw [hz, ho]; rfl)
  have hs4 : s ≤ 4 ∧ 1 ≤ s := by have := szB_t hz; omega
  have htop := topI_pos hz
  have ho' := orB_t ho
  have HT := Lib.hid (top_any s · hz)
  have HP := Lib.hid (show putL n s o = ordL o (bytesOf s n) by unfold putL; rw [if_pos hy]; rfl)
  have d0 : decide (n < 0) = false := by simpa using n0
  have d1 : decide (topI s ≤ n) = false := by simpa using n1
  generalize topI s = T at *
  clear hy hz ho
  go_enter Try.func60, Try.ntmps60
  go_wp2_with fail
  refine (may_any s o w).mono ?_
  rintro e w1 ⟨rfl, hb⟩
  rw [hmay.out]
  go_wp2_with fail
  refine (HT.out w1).mono ?_
  rintro e w2 ⟨rfl, rfl⟩
  go_wp2_with (at_make; refine Tin.wpl_makeN bt5 _ rfl (.tmp 24) (.tmp 24) rfl w1.heap.size .i64 .i64 _ _ s rfl rfl rfl rfl (by omega) (by unfold maxLen; omega) (Nat.le_refl _) ?_; intro w3 ho3 hg3)
  have hb3 : Below w1.heap.size w1 w3 := (brefl w1).grown hg3 (Nat.le_refl _) (fun k hk => by cases hk)
  have hgz : w1.heap.size < w3.heap.size := (World.ownsRow.lt ho3 _ rfl).2
  have hle : w.heap.size ≤ w1.heap.size := hb.size
  generalize w1.heap.size = g at *
  clear hg3
  go_loopw [28] (fun s28 wr => ∃ i : Nat, i ≤ s ∧ s28 = .int .i64 (i : Int) ∧ Own .u8 5 wr g (.slice (some ⟨g, 0, none⟩) s s) (lowB s i n) ∧ Below g w1 wr) (fun s28 _ => s - (intOf s28).toNat)
  case atStart => exact ⟨0, by omega, rfl, by unfold lowB bytesOf; rw [List.append_nil]; exact ho3, hb3⟩
  case round =>
    clear ho3 hb3
    obtain ⟨i, hi, rfl, ho3, hb3⟩ := hrel
    by_cases his : i < s
    · have i1 : (i : Int) < (s : Int) := by omega
      have e1 : (s : Int) - 1 - (i : Int) = ((s - 1 - i : Nat) : Int) := by omega
      have HS := Lib.hid (lowB_set s i n his)
      have HL := Lib.hid (lowB_len s i n (by omega))
      have HO := Lib.hid ho3
      clear ho3
      have hg0 : g < wr.heap.size := (World.ownsRow.lt HO.out _ rfl).2
      rcases (by omega : i = 0 ∨ i = 1 ∨ i = 2 ∨ i = 3) with rfl | rfl | rfl | rfl
      · have HV := Lib.hid (show n / 256 ^ 0 % 256 = n % 256 by simp)
        rw [HV.out] at HS
        have HJ := Lib.hid (show s - 1 < (lowB s 0 n).length by rw [HL.out]; omega)
        go_wp2_with ((with_reducible refine Tin.wpl_set bt5 _ ?_ (.tmp 42) (.tmp 41) ?_ g g s s _ HO.out (s - 1) HJ.out (n % 256) ?_ ?_ ?_); rfl; rfl; rfl; rfl; intro w4 ho4 hg4 hz4; simp only [Act.put])
        have HO4 := Lib.hid (show Own .u8 5 w4 g (.slice (some ⟨g, 0, none⟩) s s) (lowB s (0 + 1) n) by have := HS.out; rw [← this]; exact ho4)
        have hb4 := hb3.grown hg4 (by omega) (fun k hk => by cases hk; omega)
        clear ho4 hg4
        go_roundw
        case rel => exact ⟨0 + 1, by omega, rfl, HO4.out, hb4⟩
        case measure => simp [intOf]; omega

      · have HV := Lib.hid (show n / 256 ^ 1 % 256 = n / 256 % 256 by simp)
        rw [HV.out] at HS
        have HJ := Lib.hid (show s - 1 - 1 < (lowB s 1 n).length by rw [HL.out]; omega)
        go_wp2_with ((with_reducible refine Tin.wpl_set bt5 _ ?_ (.tmp 42) (.tmp 41) ?_ g g s s _ HO.out (s - 1 - 1) HJ.out (n / 256 % 256) ?_ ?_ ?_); rfl; rfl; rfl; rfl; intro w4 ho4 hg4 hz4; simp only [Act.put])
        have HO4 := Lib.hid (show Own .u8 5 w4 g (.slice (some ⟨g, 0, none⟩) s s) (lowB s (1 + 1) n) by have := HS.out; rw [← this]; exact ho4)
        have hb4 := hb3.grown hg4 (by omega) (fun k hk => by cases hk; omega)
        clear ho4 hg4
        go_roundw
        case rel => exact ⟨1 + 1, by omega, rfl, HO4.out, hb4⟩
        case measure => simp [intOf]; omega

      · have HV := Lib.hid (show n / 256 ^ 2 % 256 = n / 65536 % 256 by simp)
        rw [HV.out] at HS
        have HJ := Lib.hid (show s - 1 - 2 < (lowB s 2 n).length by rw [HL.out]; omega)
        go_wp2_with ((with_reducible refine Tin.wpl_set bt5 _ ?_ (.tmp 42) (.tmp 41) ?_ g g s s _ HO.out (s - 1 - 2) HJ.out (n / 65536 % 256) ?_ ?_ ?_); rfl; rfl; rfl; rfl; intro w4 ho4 hg4 hz4; simp only [Act.put])
        have HO4 := Lib.hid (show Own .u8 5 w4 g (.slice (some ⟨g, 0, none⟩) s s) (lowB s (2 + 1) n) by have := HS.out; rw [← this]; exact ho4)
        have hb4 := hb3.grown hg4 (by omega) (fun k hk => by cases hk; omega)
        clear ho4 hg4
        go_roundw
        case rel => exact ⟨2 + 1, by omega, rfl, HO4.out, hb4⟩
        case measure => simp [intOf]; omega

      · have HV := Lib.hid (show n / 256 ^ 3 % 256 = n / 16777216 by rw [show (256 : Int) ^ 3 = 16777216 from by decide]; omega)
        rw [HV.out] at HS
        have HJ := Lib.hid (show s - 1 - 3 < (lowB s 3 n).length by rw [HL.out]; omega)
        go_wp2_with ((with_reducible refine Tin.wpl_set bt5 _ ?_ (.tmp 42) (.tmp 41) ?_ g g s s _ HO.out (s - 1 - 3) HJ.out (n / 16777216) ?_ ?_ ?_); rfl; rfl; rfl; rfl; intro w4 ho4 hg4 hz4; simp only [Act.put])
        have HO4 := Lib.hid (show Own .u8 5 w4 g (.slice (some ⟨g, 0, none⟩) s s) (lowB s (3 + 1) n) by have := HS.out; rw [← this]; exact ho4)
        have hb4 := hb3.grown hg4 (by omega) (fun k hk => by cases hk; omega)
        clear ho4 hg4
        go_roundw
        case rel => exact ⟨3 + 1, by omega, rfl, HO4.out, hb4⟩
        case measure => simp [intOf]; omega

    · obtain rfl : i = s := by omega
      rw [lowB_all] at ho3
      have HO := Lib.hid ho3
      clear ho3
      have hb5 := hb.trans (hb3.mono hle)
      have hgr := (World.ownsRow.lt HO.out _ rfl).2
      rcases ho' with rfl | rfl
      · go_wp2_with fail
        refine (rev_any g g _ _ 0 i i _ wr HO.out (by rw [bytesOf_len]; omega) (Nat.le_refl _) (by rw [bytesOf_len]; omega)).mono ?_
        rintro e w5 ⟨rfl, ho5, hg5, hz5⟩
        have HO5 := Lib.hid (show Own .u8 5 w5 g (.slice (some ⟨g, 0, none⟩) i i) (putL n (i : Int) 1) by
          rw [HP.out]
          have e1 := revF_all (bytesOf i n)
          rw [bytesOf_len] at e1
          rw [e1] at ho5
          exact ho5)
        have hb6 := hb5.grown hg5 (by omega) (fun k hk => by cases hk; omega)
        clear ho5 hg5
        go_wp2_with fail
        go_ret2
        exact ⟨_, _, rfl, HO5.out.mono hle, hb6⟩
      · have HO5 := Lib.hid (show Own .u8 5 wr g (.slice (some ⟨g, 0, none⟩) i i) (putL n (i : Int) 2) by
          rw [HP.out]
          exact HO.out)
        go_wp2_with fail
        go_ret2
        exact ⟨_, _, rfl, HO5.out.mono hle, hb5⟩

set_option maxRecDepth 100000 in
theorem put_no (n s o : Int) (w : World) (hno : putB n s o = false) :
    Calls Try.prog 60 #[.int .i64 n, .int .i64 s, .int .i64 o] w fun e w' => e = .returned (.tuple #[.slice none 0 0, .bool false]) ∧ Below w.heap.size w w' := by
  go_enter Try.func60, Try.ntmps60
  go_wp2_with fail
  refine (may_any s o w).mono ?_
  rintro e w1 ⟨rfl, hb⟩
  by_cases hm : mayO s o = true
  · unfold putB at hno
    rw [hm, Bool.true_and] at hno
    have hz : szB s = true := by unfold mayO at hm; rw [Bool.and_eq_true] at hm; exact hm.1
    rw [hm]
    clear hm
    by_cases h0 : n < 0
    · have d0 : decide (n < 0) = true := by simpa using h0
      clear hno hz
      go_wp2_with fail
      go_ret2
      exact ⟨rfl, hb⟩
    · have d0 : decide (n < 0) = false := by simpa using h0
      have d1 : decide (topI s ≤ n) = true := by simp at hno; simp; omega
      have HT := Lib.hid (top_any s w1 hz)
      clear hno hz
      go_wp2_with fail
      refine HT.out.mono ?_
      rintro e w2 ⟨rfl, rfl⟩
      go_wp2_with fail
      go_ret2
      exact ⟨rfl, hb⟩
  · have hm' : mayO s o = false := by simpa using hm
    rw [hm']
    clear hno hm hm'
    go_wp2_with fail
    go_ret2
    exact ⟨rfl, hb⟩

theorem put_any (n s o : Int) (w : World) :
    Calls Try.prog 60 #[.int .i64 n, .int .i64 s, .int .i64 o] w fun e w' => ∃ A c, e = .returned (.tuple #[.slice A (putL n s o).length c, .bool (putB n s o)]) ∧ Own .u8 5 w' w.heap.size (.slice A (putL n s o).length c) (putL n s o) ∧ Below w.heap.size w w' := by
  by_cases h : putB n s o = true
  · have hz : szB s = true := by
      have h2 := h
      unfold putB mayO at h2
      simp only [Bool.and_eq_true] at h2
      exact h2.1.1
    obtain ⟨s, rfl⟩ := Int.eq_ofNat_of_zero_le (show 0 ≤ s by have := szB_t hz; omega)
    refine (put_yes n s o w h).mono ?_
    rintro e w' ⟨A, c, rfl, ho, hb⟩
    have hl : (putL n s o).length = s := by
      unfold putL ordL
      rw [if_pos h]
      split <;> simp [bytesOf_len]
    rw [hl, h]
    exact ⟨A, c, rfl, ho, hb⟩
  · have h' : putB n s o = false := by simpa using h
    have hl : putL n s o = [] := by unfold putL; rw [if_neg h]
    refine (put_no n s o w h').mono ?_
    rintro e w' ⟨rfl, hb⟩
    rw [hl, h']
    exact ⟨none, 0, rfl, Own.nil_ _ _ _ _, hb⟩
end Go.Proofs.Ytmdcdmgbillehaa
/- The contract of the reference of Put: a number's bytes. -/
namespace Go.Proofs.Ytmdcdmgbillehaa
open Go.RowKit
open Go.Tin
set_option linter.unusedVariables false
set_option linter.unusedSimpArgs false


theorem ordL_step1 (i : Nat) (n m x : Int) (hm : m = n / 256 ^ i) (hx : x = m % 256) : ordL 1 (bytesOf i n) ++ [x] = ordL 1 (bytesOf (i + 1) n) := by
  subst hm; subst hx
  rw [bytesOf_cons]
  simp [ordL]
theorem ordL_step2 (i : Nat) (n m x : Int) (hm : m = n / 256 ^ i) (hx : x = m % 256) : [x] ++ ordL 2 (bytesOf i n) = ordL 2 (bytesOf (i + 1) n) := by
  subst hm; subst hx
  rw [bytesOf_cons]
  simp [ordL]
theorem div_step (n m : Int) (i : Nat) (hm : m = n / 256 ^ i) : m / 256 = n / 256 ^ (i + 1) := by
  subst hm
  rw [Int.ediv_ediv_of_nonneg (Int.le_of_lt (Int.pow_pos (by decide))), Int.pow_succ]
theorem ordL_len (o : Int) (l : List Int) : (ordL o l).length = l.length := by unfold ordL; split <;> simp

set_option maxRecDepth 100000 in
set_option maxHeartbeats 1000000 in
theorem rput_yes (n : Int) (s : Nat) (o : Int) (w : World) (hy : putB n s o = true) :
    Calls Try.prog 63 #[.int .i64 n, .int .i64 (s : Int), .int .i64 o] w fun e w' => ∃ A c, e = .returned (.tuple #[.slice A s c, .bool true]) ∧ Own .u8 5 w' w.heap.size (.slice A s c) (putL n s o) ∧ Below w.heap.size w w' := by
  have hy2 := hy
  unfold putB mayO at hy2
  simp only [Bool.and_eq_true, decide_eq_true_eq] at hy2
  obtain ⟨⟨hz, ho⟩, n0, n1⟩ := hy2
  have hs4 : s ≤ 4 ∧ 1 ≤ s := by have := szB_t hz; omega
  have htop := topI_pos hz
  have ho' := orB_t ho
  have HP := Lib.hid (show putL n s o = ordL o (bytesOf s n) by unfold putL; rw [if_pos hy]; rfl)
  have d0 : decide (n < 0) = false := by simpa using n0
  have d1 : decide (topI s ≤ n) = false := by simpa using n1
  have d2 : decide (o < 1) = false := by simp; omega
  have d3 : decide (2 < o) = false := by simp; omega
  have HT := Lib.hid (rtop_any s w)
  generalize topI s = T at *
  clear hy hz ho
  go_enter Try.func63, Try.ntmps63
  go_wp2_with fail
  refine HT.out.mono ?_
  rintro e w2 ⟨rfl, rfl⟩
  go_wp2_with fail
  go_loopw [0, 8, 9] (fun s0 s8 s9 wr => ∃ (i : Nat) (m : Int) (A : Option Addr) (c : Nat), i ≤ s ∧ s9 = .int .i64 (i : Int) ∧ s0 = .int .i64 m ∧ m = n / 256 ^ i ∧ 0 ≤ m ∧ m < 4294967296 ∧ s8 = .slice A i c ∧ Own .u8 5 wr w.heap.size (.slice A i c) (ordL o (bytesOf i n)) ∧ Below w.heap.size w wr) (fun _ _ s9 _ => s - (intOf s9).toNat)
  case atStart => exact ⟨0, n, none, 0, by omega, rfl, rfl, by simp, n0, by omega, rfl, by unfold bytesOf ordL; simp; exact Own.nil_ _ _ _ _, brefl w⟩
  case round =>
    obtain ⟨i, m, A, c, hi, rfl, rfl, hm, m0, m1, rfl, hown, hb⟩ := hrel
    by_cases his : i < s
    · have i1 : (i : Int) < (s : Int) := by omega
      have HM := Lib.hid hm
      have HO := Lib.hid hown
      have hL := Lib.hid (show (ordL o (bytesOf i n)).length = i by rw [ordL_len, bytesOf_len])
      have hz := hb.size
      clear hm hown
      have HD := Lib.hid (div_step n m i HM.out)
      have hN : (Sl .u8 (wr.alloc (.cells #[.int .u8 (m % 256)] 5)) (some ⟨wr.heap.size, 0, none⟩) [m % 256]) := Sl.new_ wr _ _ _ rfl
      have hN2 := Own.lit (k := .u8) (e := 5) wr #[.int .u8 (m % 256)] [m % 256] 1 rfl rfl (by simp [maxLen])
      have hS := HO.out.sl'.2
      have HN := Lib.hid hN
      have HN2 := Lib.hid hN2
      have HS := Lib.hid hS
      clear hN hN2 hS
      rcases ho' with rfl | rfl
      · go_wp2_with (at_builtin; refine Tin.wpl_app bt5 _ rfl (.tmp 39) (.tmp 41) rfl w.heap.size _ _ rfl (HO.out.alloc _) (some ⟨wr.heap.size, 0, none⟩) 1 1 [m % 256] rfl HN.out rfl (by rw [hL.out]; simp; omega) (by rw [hL.out]; simp; omega) (by simp; omega) ?_; intro v4 w4 ho4 hg4 how4)
        have HO4 := Lib.hid (show Own .u8 5 w4 w.heap.size v4 (ordL 1 (bytesOf (i + 1) n)) by rw [← ordL_step1 i n m _ HM.out rfl]; exact ho4)
        obtain ⟨A4, c4, rfl⟩ := own_form HO4.out
        rw [ordL_len, bytesOf_len] at HO4
        have hb4 := (HO.out.alloc _).grown (hb.alloc hz (.cells #[.int .u8 (m % 256)] 5)) (by simp; omega) hg4
        clear ho4 hg4 how4
        simp only [ordL_len, bytesOf_len]
        go_wp2_with fail
        go_roundw
        case rel => exact ⟨i + 1, m / 256, A4, c4, by omega, by go_num, rfl, HD.out, by omega, by omega, rfl, HO4.out, hb4⟩
        case measure => simp [intOf]; omega
      · go_wp2_with (at_builtin; refine Tin.wpl_app bt5 _ rfl (.tmp 44) (.tmp 45) rfl wr.heap.size _ _ rfl HN2.out A i c (ordL 2 (bytesOf i n)) rfl (HS.out.keep (ba (brefl wr) _)) hL.out.symm (by rw [hL.out]; simp; omega) (by rw [hL.out]; simp; omega) (by simp) ?_; intro v4 w4 ho4 hg4 how4)
        have HO4 := Lib.hid (show Own .u8 5 w4 w.heap.size v4 (ordL 2 (bytesOf (i + 1) n)) by rw [← ordL_step2 i n m _ HM.out rfl]; exact ho4.mono hz)
        obtain ⟨A4, c4, rfl⟩ := own_form HO4.out
        rw [ordL_len, bytesOf_len] at HO4
        have hb4 := (HN2.out.mono hz).grown (hb.alloc hz (.cells #[.int .u8 (m % 256)] 5)) (by simp; omega) hg4
        clear ho4 hg4 how4
        simp only [ordL_len, bytesOf_len]
        go_wp2_with fail
        go_roundw
        case rel => exact ⟨i + 1, m / 256, A4, c4, by omega, by go_num, rfl, HD.out, by omega, by omega, rfl, HO4.out, hb4⟩
        case measure => simp [intOf]; omega
    · obtain rfl : i = s := by omega
      have HO := Lib.hid hown
      clear hown
      rw [← HP.out] at HO
      go_wp2_with fail
      go_ret2
      exact ⟨A, c, rfl, HO.out, hb⟩

theorem putB_f {n s o : Int} (h : putB n s o = false) : orB o = false ∨ n < 0 ∨ topI s ≤ n := by
  unfold putB mayO at h
  cases h2 : orB o
  · exact .inl rfl
  · cases h1 : szB s
    · have := topI_no h1
      omega
    · rw [h1, h2] at h
      simp at h
      omega
set_option maxRecDepth 100000 in
theorem rput_no (n s o : Int) (w : World) (hno : putB n s o = false) :
    Calls Try.prog 63 #[.int .i64 n, .int .i64 s, .int .i64 o] w fun e w' => e = .returned (.tuple #[.slice none 0 0, .bool false]) ∧ Below w.heap.size w w' := by
  have hf := putB_f hno
  clear hno
  by_cases h1 : o < 1
  · have d1 : decide (o < 1) = true := by simpa using h1
    clear hf h1
    go_enter Try.func63, Try.ntmps63
    go_wp2_with fail
    go_ret2
    exact ⟨rfl, brefl _⟩
  have d1 : decide (o < 1) = false := by simpa using h1
  by_cases h2 : 2 < o
  · have d2 : decide (2 < o) = true := by simpa using h2
    clear hf h1 h2
    go_enter Try.func63, Try.ntmps63
    go_wp2_with fail
    go_ret2
    exact ⟨rfl, brefl _⟩
  have d2 : decide (2 < o) = false := by simpa using h2
  have hf' : n < 0 ∨ topI s ≤ n := by
    rcases hf with h | h
    · have := orB_f h; omega
    · exact h
  clear hf h1 h2
  by_cases h3 : n < 0
  · have d3 : decide (n < 0) = true := by simpa using h3
    clear hf' h3
    go_enter Try.func63, Try.ntmps63
    go_wp2_with fail
    go_ret2
    exact ⟨rfl, brefl _⟩
  · have d3 : decide (n < 0) = false := by simpa using h3
    have d4 : decide (topI s ≤ n) = true := by simp; omega
    clear hf' h3
    go_enter Try.func63, Try.ntmps63
    go_wp2_with fail
    refine (rtop_any s w).mono ?_
    rintro e w1 ⟨rfl, rfl⟩
    go_wp2_with fail
    go_ret2
    exact ⟨rfl, brefl _⟩

theorem rput_any (n s o : Int) (w : World) :
    Calls Try.prog 63 #[.int .i64 n, .int .i64 s, .int .i64 o] w fun e w' => ∃ A c, e = .returned (.tuple #[.slice A (putL n s o).length c, .bool (putB n s o)]) ∧ Own .u8 5 w' w.heap.size (.slice A (putL n s o).length c) (putL n s o) ∧ Below w.heap.size w w' := by
  by_cases h : putB n s o = true
  · have hz : szB s = true := by
      have h2 := h
      unfold putB mayO at h2
      simp only [Bool.and_eq_true] at h2
      exact h2.1.1
    obtain ⟨s, rfl⟩ := Int.eq_ofNat_of_zero_le (show 0 ≤ s by have := szB_t hz; omega)
    refine (rput_yes n s o w h).mono ?_
    rintro e w' ⟨A, c, rfl, ho, hb⟩
    have hl : (putL n s o).length = s := by
      unfold putL ordL
      rw [if_pos h]
      split <;> simp [bytesOf_len]
    rw [hl, h]
    exact ⟨A, c, rfl, ho, hb⟩
  · have h' : putB n s o = false := by simpa using h
    have hl : putL n s o = [] := by unfold putL; rw [if_neg h]
    refine (rput_no n s o w h').mono ?_
    rintro e w' ⟨rfl, hb⟩
    rw [hl, h']
    exact ⟨none, 0, rfl, Own.nil_ _ _ _ _, hb⟩
end Go.Proofs.Ytmdcdmgbillehaa
/- The contracts of Signed and Plain. -/
namespace Go.Proofs.Ytmdcdmgbillehaa
open Go.RowKit
open Go.Tin
set_option linter.unusedVariables false
set_option linter.unusedSimpArgs false


set_option maxRecDepth 100000 in
set_option maxHeartbeats 1000000 in
theorem signed_1 (n : Int) (w : World) : Calls Try.prog 71 #[.int .i64 n, .int .i64 1] w fun e w' => e = .returned (.tuple #[.int .i64 (sgN n 1), .bool (sgB n 1)]) ∧ Below w.heap.size w w' := by
  have HM := Lib.hid (may_any 1 2 w)
  have HT := Lib.hid (show ∀ W : World, Calls Try.prog 75 #[.int .i64 1] W fun e w' => e = .returned (.int .i64 256) ∧ W = w' from fun W => top_any 1 W (by decide))
  have eT : topI 1 = 256 := by decide
  by_cases h1 : n < 0
  · have d1 : decide (n < 0) = true := by simpa using h1
    have hr : sgB n 1 = false := by unfold sgB; rw [eT]; simp; omega
    have HR := Lib.hid hr
    have HN := Lib.hid (show sgN n 1 = 0 by unfold sgN; rw [hr]; rfl)
    clear hr eT
    go_enter Try.func71, Try.ntmps71
    go_wp2_with fail
    refine HM.out.mono ?_
    rintro e w1 ⟨rfl, hb⟩
    rw [show mayO 1 2 = true by decide]
    go_wp2_with (refine (HT.out _).mono ?_; rintro e w2 ⟨rfl, rfl⟩)
    go_ret2
    exact ⟨ret_ib HN.out.symm HR.out.symm, hb⟩
  have d1 : decide (n < 0) = false := by simpa using h1
  by_cases h2 : 256 ≤ n
  · have d2 : decide (256 ≤ n) = true := by simpa using h2
    have hr : sgB n 1 = false := by unfold sgB; rw [eT]; simp; omega
    have HR := Lib.hid hr
    have HN := Lib.hid (show sgN n 1 = 0 by unfold sgN; rw [hr]; rfl)
    clear hr eT
    go_enter Try.func71, Try.ntmps71
    go_wp2_with fail
    refine HM.out.mono ?_
    rintro e w1 ⟨rfl, hb⟩
    rw [show mayO 1 2 = true by decide]
    go_wp2_with (refine (HT.out _).mono ?_; rintro e w2 ⟨rfl, rfl⟩)
    go_ret2
    exact ⟨ret_ib HN.out.symm HR.out.symm, hb⟩
  have d2 : decide (256 ≤ n) = false := by simpa using h2
  have hr : sgB n 1 = true := by unfold sgB; rw [eT]; simp; omega
  have HR := Lib.hid hr
  by_cases h3 : 128 ≤ n
  · have HN := Lib.hid (show sgN n 1 = n - 256 by unfold sgN; rw [if_pos hr, eT, if_pos (by omega)])
    clear hr eT
    go_enter Try.func71, Try.ntmps71
    go_wp2_with fail
    refine HM.out.mono ?_
    rintro e w1 ⟨rfl, hb⟩
    rw [show mayO 1 2 = true by decide]
    go_wp2_with (refine (HT.out _).mono ?_; rintro e w2 ⟨rfl, rfl⟩)
    go_ret2
    exact ⟨ret_ib HN.out.symm HR.out.symm, hb⟩
  · have h4 : n < 128 := by omega
    have HN := Lib.hid (show sgN n 1 = n by unfold sgN; rw [if_pos hr, eT, if_neg (by omega)])
    clear hr eT
    go_enter Try.func71, Try.ntmps71
    go_wp2_with fail
    refine HM.out.mono ?_
    rintro e w1 ⟨rfl, hb⟩
    rw [show mayO 1 2 = true by decide]
    go_wp2_with (refine (HT.out _).mono ?_; rintro e w2 ⟨rfl, rfl⟩)
    go_ret2
    exact ⟨ret_ib HN.out.symm HR.out.symm, hb⟩

set_option maxRecDepth 100000 in
set_option maxHeartbeats 1000000 in
theorem plain_1 (n : Int) (w : World) : Calls Try.prog 59 #[.int .i64 n, .int .i64 1] w fun e w' => e = .returned (.tuple #[.int .i64 (plN n 1), .bool (plB n 1)]) ∧ Below w.heap.size w w' := by
  have HM := Lib.hid (may_any 1 2 w)
  have HT := Lib.hid (show ∀ W : World, Calls Try.prog 75 #[.int .i64 1] W fun e w' => e = .returned (.int .i64 256) ∧ W = w' from fun W => top_any 1 W (by decide))
  have eT : topI 1 = 256 := by decide
  by_cases h1 : n < -128
  · have d1 : decide (n < -128) = true := by simpa using h1
    have hr : plB n 1 = false := by unfold plB; rw [eT]; simp; omega
    have HR := Lib.hid hr
    have HN := Lib.hid (show plN n 1 = 0 by unfold plN; rw [hr]; rfl)
    clear hr eT
    go_enter Try.func59, Try.ntmps59
    go_wp2_with fail
    refine HM.out.mono ?_
    rintro e w1 ⟨rfl, hb⟩
    rw [show mayO 1 2 = true by decide]
    go_wp2_with (refine (HT.out _).mono ?_; rintro e w2 ⟨rfl, rfl⟩)
    go_ret2
    exact ⟨ret_ib HN.out.symm HR.out.symm, hb⟩
  have d1 : decide (n < -128) = false := by simpa using h1
  by_cases h2 : 128 ≤ n
  · have d2 : decide (128 ≤ n) = true := by simpa using h2
    have hr : plB n 1 = false := by unfold plB; rw [eT]; simp; omega
    have HR := Lib.hid hr
    have HN := Lib.hid (show plN n 1 = 0 by unfold plN; rw [hr]; rfl)
    clear hr eT
    go_enter Try.func59, Try.ntmps59
    go_wp2_with fail
    refine HM.out.mono ?_
    rintro e w1 ⟨rfl, hb⟩
    rw [show mayO 1 2 = true by decide]
    go_wp2_with (refine (HT.out _).mono ?_; rintro e w2 ⟨rfl, rfl⟩)
    go_ret2
    exact ⟨ret_ib HN.out.symm HR.out.symm, hb⟩
  have d2 : decide (128 ≤ n) = false := by simpa using h2
  have hr : plB n 1 = true := by unfold plB; rw [eT]; simp; omega
  have HR := Lib.hid hr
  by_cases h3 : n < 0
  · have HN := Lib.hid (show plN n 1 = n + 256 by unfold plN; rw [if_pos hr, eT, if_pos (by omega)])
    clear hr eT
    go_enter Try.func59, Try.ntmps59
    go_wp2_with fail
    refine HM.out.mono ?_
    rintro e w1 ⟨rfl, hb⟩
    rw [show mayO 1 2 = true by decide]
    go_wp2_with (refine (HT.out _).mono ?_; rintro e w2 ⟨rfl, rfl⟩)
    go_ret2
    exact ⟨ret_ib HN.out.symm HR.out.symm, hb⟩
  · have h4 : 0 ≤ n := by omega
    have HN := Lib.hid (show plN n 1 = n by unfold plN; rw [if_pos hr, if_neg (by omega)])
    clear hr eT
    go_enter Try.func59, Try.ntmps59
    go_wp2_with fail
    refine HM.out.mono ?_
    rintro e w1 ⟨rfl, hb⟩
    rw [show mayO 1 2 = true by decide]
    go_wp2_with (refine (HT.out _).mono ?_; rintro e w2 ⟨rfl, rfl⟩)
    go_ret2
    exact ⟨ret_ib HN.out.symm HR.out.symm, hb⟩

set_option maxRecDepth 100000 in
set_option maxHeartbeats 1000000 in
theorem signed_2 (n : Int) (w : World) : Calls Try.prog 71 #[.int .i64 n, .int .i64 2] w fun e w' => e = .returned (.tuple #[.int .i64 (sgN n 2), .bool (sgB n 2)]) ∧ Below w.heap.size w w' := by
  have HM := Lib.hid (may_any 2 2 w)
  have HT := Lib.hid (show ∀ W : World, Calls Try.prog 75 #[.int .i64 2] W fun e w' => e = .returned (.int .i64 65536) ∧ W = w' from fun W => top_any 2 W (by decide))
  have eT : topI 2 = 65536 := by decide
  by_cases h1 : n < 0
  · have d1 : decide (n < 0) = true := by simpa using h1
    have hr : sgB n 2 = false := by unfold sgB; rw [eT]; simp; omega
    have HR := Lib.hid hr
    have HN := Lib.hid (show sgN n 2 = 0 by unfold sgN; rw [hr]; rfl)
    clear hr eT
    go_enter Try.func71, Try.ntmps71
    go_wp2_with fail
    refine HM.out.mono ?_
    rintro e w1 ⟨rfl, hb⟩
    rw [show mayO 2 2 = true by decide]
    go_wp2_with (refine (HT.out _).mono ?_; rintro e w2 ⟨rfl, rfl⟩)
    go_ret2
    exact ⟨ret_ib HN.out.symm HR.out.symm, hb⟩
  have d1 : decide (n < 0) = false := by simpa using h1
  by_cases h2 : 65536 ≤ n
  · have d2 : decide (65536 ≤ n) = true := by simpa using h2
    have hr : sgB n 2 = false := by unfold sgB; rw [eT]; simp; omega
    have HR := Lib.hid hr
    have HN := Lib.hid (show sgN n 2 = 0 by unfold sgN; rw [hr]; rfl)
    clear hr eT
    go_enter Try.func71, Try.ntmps71
    go_wp2_with fail
    refine HM.out.mono ?_
    rintro e w1 ⟨rfl, hb⟩
    rw [show mayO 2 2 = true by decide]
    go_wp2_with (refine (HT.out _).mono ?_; rintro e w2 ⟨rfl, rfl⟩)
    go_ret2
    exact ⟨ret_ib HN.out.symm HR.out.symm, hb⟩
  have d2 : decide (65536 ≤ n) = false := by simpa using h2
  have hr : sgB n 2 = true := by unfold sgB; rw [eT]; simp; omega
  have HR := Lib.hid hr
  by_cases h3 : 32768 ≤ n
  · have HN := Lib.hid (show sgN n 2 = n - 65536 by unfold sgN; rw [if_pos hr, eT, if_pos (by omega)])
    clear hr eT
    go_enter Try.func71, Try.ntmps71
    go_wp2_with fail
    refine HM.out.mono ?_
    rintro e w1 ⟨rfl, hb⟩
    rw [show mayO 2 2 = true by decide]
    go_wp2_with (refine (HT.out _).mono ?_; rintro e w2 ⟨rfl, rfl⟩)
    go_ret2
    exact ⟨ret_ib HN.out.symm HR.out.symm, hb⟩
  · have h4 : n < 32768 := by omega
    have HN := Lib.hid (show sgN n 2 = n by unfold sgN; rw [if_pos hr, eT, if_neg (by omega)])
    clear hr eT
    go_enter Try.func71, Try.ntmps71
    go_wp2_with fail
    refine HM.out.mono ?_
    rintro e w1 ⟨rfl, hb⟩
    rw [show mayO 2 2 = true by decide]
    go_wp2_with (refine (HT.out _).mono ?_; rintro e w2 ⟨rfl, rfl⟩)
    go_ret2
    exact ⟨ret_ib HN.out.symm HR.out.symm, hb⟩

set_option maxRecDepth 100000 in
set_option maxHeartbeats 1000000 in
theorem plain_2 (n : Int) (w : World) : Calls Try.prog 59 #[.int .i64 n, .int .i64 2] w fun e w' => e = .returned (.tuple #[.int .i64 (plN n 2), .bool (plB n 2)]) ∧ Below w.heap.size w w' := by
  have HM := Lib.hid (may_any 2 2 w)
  have HT := Lib.hid (show ∀ W : World, Calls Try.prog 75 #[.int .i64 2] W fun e w' => e = .returned (.int .i64 65536) ∧ W = w' from fun W => top_any 2 W (by decide))
  have eT : topI 2 = 65536 := by decide
  by_cases h1 : n < -32768
  · have d1 : decide (n < -32768) = true := by simpa using h1
    have hr : plB n 2 = false := by unfold plB; rw [eT]; simp; omega
    have HR := Lib.hid hr
    have HN := Lib.hid (show plN n 2 = 0 by unfold plN; rw [hr]; rfl)
    clear hr eT
    go_enter Try.func59, Try.ntmps59
    go_wp2_with fail
    refine HM.out.mono ?_
    rintro e w1 ⟨rfl, hb⟩
    rw [show mayO 2 2 = true by decide]
    go_wp2_with (refine (HT.out _).mono ?_; rintro e w2 ⟨rfl, rfl⟩)
    go_ret2
    exact ⟨ret_ib HN.out.symm HR.out.symm, hb⟩
  have d1 : decide (n < -32768) = false := by simpa using h1
  by_cases h2 : 32768 ≤ n
  · have d2 : decide (32768 ≤ n) = true := by simpa using h2
    have hr : plB n 2 = false := by unfold plB; rw [eT]; simp; omega
    have HR := Lib.hid hr
    have HN := Lib.hid (show plN n 2 = 0 by unfold plN; rw [hr]; rfl)
    clear hr eT
    go_enter Try.func59, Try.ntmps59
    go_wp2_with fail
    refine HM.out.mono ?_
    rintro e w1 ⟨rfl, hb⟩
    rw [show mayO 2 2 = true by decide]
    go_wp2_with (refine (HT.out _).mono ?_; rintro e w2 ⟨rfl, rfl⟩)
    go_ret2
    exact ⟨ret_ib HN.out.symm HR.out.symm, hb⟩
  have d2 : decide (32768 ≤ n) = false := by simpa using h2
  have hr : plB n 2 = true := by unfold plB; rw [eT]; simp; omega
  have HR := Lib.hid hr
  by_cases h3 : n < 0
  · have HN := Lib.hid (show plN n 2 = n + 65536 by unfold plN; rw [if_pos hr, eT, if_pos (by omega)])
    clear hr eT
    go_enter Try.func59, Try.ntmps59
    go_wp2_with fail
    refine HM.out.mono ?_
    rintro e w1 ⟨rfl, hb⟩
    rw [show mayO 2 2 = true by decide]
    go_wp2_with (refine (HT.out _).mono ?_; rintro e w2 ⟨rfl, rfl⟩)
    go_ret2
    exact ⟨ret_ib HN.out.symm HR.out.symm, hb⟩
  · have h4 : 0 ≤ n := by omega
    have HN := Lib.hid (show plN n 2 = n by unfold plN; rw [if_pos hr, if_neg (by omega)])
    clear hr eT
    go_enter Try.func59, Try.ntmps59
    go_wp2_with fail
    refine HM.out.mono ?_
    rintro e w1 ⟨rfl, hb⟩
    rw [show mayO 2 2 = true by decide]
    go_wp2_with (refine (HT.out _).mono ?_; rintro e w2 ⟨rfl, rfl⟩)
    go_ret2
    exact ⟨ret_ib HN.out.symm HR.out.symm, hb⟩

set_option maxRecDepth 100000 in
set_option maxHeartbeats 1000000 in
theorem signed_4 (n : Int) (w : World) : Calls Try.prog 71 #[.int .i64 n, .int .i64 4] w fun e w' => e = .returned (.tuple #[.int .i64 (sgN n 4), .bool (sgB n 4)]) ∧ Below w.heap.size w w' := by
  have HM := Lib.hid (may_any 4 2 w)
  have HT := Lib.hid (show ∀ W : World, Calls Try.prog 75 #[.int .i64 4] W fun e w' => e = .returned (.int .i64 4294967296) ∧ W = w' from fun W => top_any 4 W (by decide))
  have eT : topI 4 = 4294967296 := by decide
  by_cases h1 : n < 0
  · have d1 : decide (n < 0) = true := by simpa using h1
    have hr : sgB n 4 = false := by unfold sgB; rw [eT]; simp; omega
    have HR := Lib.hid hr
    have HN := Lib.hid (show sgN n 4 = 0 by unfold sgN; rw [hr]; rfl)
    clear hr eT
    go_enter Try.func71, Try.ntmps71
    go_wp2_with fail
    refine HM.out.mono ?_
    rintro e w1 ⟨rfl, hb⟩
    rw [show mayO 4 2 = true by decide]
    go_wp2_with (refine (HT.out _).mono ?_; rintro e w2 ⟨rfl, rfl⟩)
    go_ret2
    exact ⟨ret_ib HN.out.symm HR.out.symm, hb⟩
  have d1 : decide (n < 0) = false := by simpa using h1
  by_cases h2 : 4294967296 ≤ n
  · have d2 : decide (4294967296 ≤ n) = true := by simpa using h2
    have hr : sgB n 4 = false := by unfold sgB; rw [eT]; simp; omega
    have HR := Lib.hid hr
    have HN := Lib.hid (show sgN n 4 = 0 by unfold sgN; rw [hr]; rfl)
    clear hr eT
    go_enter Try.func71, Try.ntmps71
    go_wp2_with fail
    refine HM.out.mono ?_
    rintro e w1 ⟨rfl, hb⟩
    rw [show mayO 4 2 = true by decide]
    go_wp2_with (refine (HT.out _).mono ?_; rintro e w2 ⟨rfl, rfl⟩)
    go_ret2
    exact ⟨ret_ib HN.out.symm HR.out.symm, hb⟩
  have d2 : decide (4294967296 ≤ n) = false := by simpa using h2
  have hr : sgB n 4 = true := by unfold sgB; rw [eT]; simp; omega
  have HR := Lib.hid hr
  by_cases h3 : 2147483648 ≤ n
  · have HN := Lib.hid (show sgN n 4 = n - 4294967296 by unfold sgN; rw [if_pos hr, eT, if_pos (by omega)])
    clear hr eT
    go_enter Try.func71, Try.ntmps71
    go_wp2_with fail
    refine HM.out.mono ?_
    rintro e w1 ⟨rfl, hb⟩
    rw [show mayO 4 2 = true by decide]
    go_wp2_with (refine (HT.out _).mono ?_; rintro e w2 ⟨rfl, rfl⟩)
    go_ret2
    exact ⟨ret_ib HN.out.symm HR.out.symm, hb⟩
  · have h4 : n < 2147483648 := by omega
    have HN := Lib.hid (show sgN n 4 = n by unfold sgN; rw [if_pos hr, eT, if_neg (by omega)])
    clear hr eT
    go_enter Try.func71, Try.ntmps71
    go_wp2_with fail
    refine HM.out.mono ?_
    rintro e w1 ⟨rfl, hb⟩
    rw [show mayO 4 2 = true by decide]
    go_wp2_with (refine (HT.out _).mono ?_; rintro e w2 ⟨rfl, rfl⟩)
    go_ret2
    exact ⟨ret_ib HN.out.symm HR.out.symm, hb⟩

set_option maxRecDepth 100000 in
set_option maxHeartbeats 1000000 in
theorem plain_4 (n : Int) (w : World) : Calls Try.prog 59 #[.int .i64 n, .int .i64 4] w fun e w' => e = .returned (.tuple #[.int .i64 (plN n 4), .bool (plB n 4)]) ∧ Below w.heap.size w w' := by
  have HM := Lib.hid (may_any 4 2 w)
  have HT := Lib.hid (show ∀ W : World, Calls Try.prog 75 #[.int .i64 4] W fun e w' => e = .returned (.int .i64 4294967296) ∧ W = w' from fun W => top_any 4 W (by decide))
  have eT : topI 4 = 4294967296 := by decide
  by_cases h1 : n < -2147483648
  · have d1 : decide (n < -2147483648) = true := by simpa using h1
    have hr : plB n 4 = false := by unfold plB; rw [eT]; simp; omega
    have HR := Lib.hid hr
    have HN := Lib.hid (show plN n 4 = 0 by unfold plN; rw [hr]; rfl)
    clear hr eT
    go_enter Try.func59, Try.ntmps59
    go_wp2_with fail
    refine HM.out.mono ?_
    rintro e w1 ⟨rfl, hb⟩
    rw [show mayO 4 2 = true by decide]
    go_wp2_with (refine (HT.out _).mono ?_; rintro e w2 ⟨rfl, rfl⟩)
    go_ret2
    exact ⟨ret_ib HN.out.symm HR.out.symm, hb⟩
  have d1 : decide (n < -2147483648) = false := by simpa using h1
  by_cases h2 : 2147483648 ≤ n
  · have d2 : decide (2147483648 ≤ n) = true := by simpa using h2
    have hr : plB n 4 = false := by unfold plB; rw [eT]; simp; omega
    have HR := Lib.hid hr
    have HN := Lib.hid (show plN n 4 = 0 by unfold plN; rw [hr]; rfl)
    clear hr eT
    go_enter Try.func59, Try.ntmps59
    go_wp2_with fail
    refine HM.out.mono ?_
    rintro e w1 ⟨rfl, hb⟩
    rw [show mayO 4 2 = true by decide]
    go_wp2_with (refine (HT.out _).mono ?_; rintro e w2 ⟨rfl, rfl⟩)
    go_ret2
    exact ⟨ret_ib HN.out.symm HR.out.symm, hb⟩
  have d2 : decide (2147483648 ≤ n) = false := by simpa using h2
  have hr : plB n 4 = true := by unfold plB; rw [eT]; simp; omega
  have HR := Lib.hid hr
  by_cases h3 : n < 0
  · have HN := Lib.hid (show plN n 4 = n + 4294967296 by unfold plN; rw [if_pos hr, eT, if_pos (by omega)])
    clear hr eT
    go_enter Try.func59, Try.ntmps59
    go_wp2_with fail
    refine HM.out.mono ?_
    rintro e w1 ⟨rfl, hb⟩
    rw [show mayO 4 2 = true by decide]
    go_wp2_with (refine (HT.out _).mono ?_; rintro e w2 ⟨rfl, rfl⟩)
    go_ret2
    exact ⟨ret_ib HN.out.symm HR.out.symm, hb⟩
  · have h4 : 0 ≤ n := by omega
    have HN := Lib.hid (show plN n 4 = n by unfold plN; rw [if_pos hr, if_neg (by omega)])
    clear hr eT
    go_enter Try.func59, Try.ntmps59
    go_wp2_with fail
    refine HM.out.mono ?_
    rintro e w1 ⟨rfl, hb⟩
    rw [show mayO 4 2 = true by decide]
    go_wp2_with (refine (HT.out _).mono ?_; rintro e w2 ⟨rfl, rfl⟩)
    go_ret2
    exact ⟨ret_ib HN.out.symm HR.out.symm, hb⟩


theorem sz_no {s : Int} (hz : szB s = false) (n : Int) : sgB n s = false ∧ sgN n s = 0 ∧ plB n s = false ∧ plN n s = 0 := by
  have ht := topI_no hz
  have h1 : sgB n s = false := by unfold sgB; rw [ht]; simp
  have h2 : plB n s = false := by unfold plB; rw [ht]; simp
  refine ⟨h1, by unfold sgN; rw [h1]; rfl, h2, by unfold plN; rw [h2]; rfl⟩

theorem signed_any (n s : Int) (w : World) : Calls Try.prog 71 #[.int .i64 n, .int .i64 s] w fun e w' => e = .returned (.tuple #[.int .i64 (sgN n s), .bool (sgB n s)]) ∧ Below w.heap.size w w' := by
  cases hz : szB s
  · obtain ⟨h1, h2, _⟩ := sz_no hz n
    rw [h1, h2]
    have hm : mayO s 2 = false := by unfold mayO; rw [hz]; rfl
    have HM := Lib.hid hm
    clear hm h1 h2 hz
    go_enter Try.func71, Try.ntmps71
    go_wp2_with fail
    refine (may_any s 2 w).mono ?_
    rintro e w1 ⟨rfl, hb⟩
    rw [HM.out]
    go_wp2_with fail
    go_ret2
    exact ⟨rfl, hb⟩
  · rcases szB_t hz with rfl | rfl | rfl
    · exact signed_1 n w
    · exact signed_2 n w
    · exact signed_4 n w
theorem plain_any (n s : Int) (w : World) : Calls Try.prog 59 #[.int .i64 n, .int .i64 s] w fun e w' => e = .returned (.tuple #[.int .i64 (plN n s), .bool (plB n s)]) ∧ Below w.heap.size w w' := by
  cases hz : szB s
  · obtain ⟨_, _, h1, h2⟩ := sz_no hz n
    rw [h1, h2]
    have hm : mayO s 2 = false := by unfold mayO; rw [hz]; rfl
    have HM := Lib.hid hm
    clear hm h1 h2 hz
    go_enter Try.func59, Try.ntmps59
    go_wp2_with fail
    refine (may_any s 2 w).mono ?_
    rintro e w1 ⟨rfl, hb⟩
    rw [HM.out]
    go_wp2_with fail
    go_ret2
    exact ⟨rfl, hb⟩
  · rcases szB_t hz with rfl | rfl | rfl
    · exact plain_1 n w
    · exact plain_2 n w
    · exact plain_4 n w
end Go.Proofs.Ytmdcdmgbillehaa
/- The contracts of the references of Signed and Plain, of Add, Room, Even and theirs, and of what is asked of two answers. -/
namespace Go.Proofs.Ytmdcdmgbillehaa
open Go.RowKit
open Go.Tin
set_option linter.unusedVariables false
set_option linter.unusedSimpArgs false


set_option maxRecDepth 100000 in
set_option maxHeartbeats 1000000 in
theorem rsigned_1 (n s : Int) (w : World) (eT : topI s = 256) : Calls Try.prog 73 #[.int .i64 n, .int .i64 s] w fun e w' => e = .returned (.tuple #[.int .i64 (sgN n s), .bool (sgB n s)]) ∧ w = w' := by
  have HT := Lib.hid (show ∀ W : World, Calls Try.prog 69 #[.int .i64 s] W fun e w' => e = .returned (.int .i64 256) ∧ W = w' from fun W => by rw [← eT]; exact rtop_any s W)
  by_cases h1 : n < 0
  · have d1 : decide (n < 0) = true := by simpa using h1
    have hr : sgB n s = false := by unfold sgB; rw [eT]; simp; omega
    have HR := Lib.hid hr
    have HN := Lib.hid (show sgN n s = 0 by unfold sgN; rw [hr]; rfl)
    clear hr eT
    go_enter Try.func73, Try.ntmps73
    go_wp2_with (refine (HT.out _).mono ?_; rintro e w2 ⟨rfl, rfl⟩)
    go_ret2
    exact ⟨ret_ib HN.out.symm HR.out.symm, rfl⟩
  have d1 : decide (n < 0) = false := by simpa using h1
  by_cases h2 : 256 ≤ n
  · have d2 : decide (256 ≤ n) = true := by simpa using h2
    have hr : sgB n s = false := by unfold sgB; rw [eT]; simp; omega
    have HR := Lib.hid hr
    have HN := Lib.hid (show sgN n s = 0 by unfold sgN; rw [hr]; rfl)
    clear hr eT
    go_enter Try.func73, Try.ntmps73
    go_wp2_with (refine (HT.out _).mono ?_; rintro e w2 ⟨rfl, rfl⟩)
    go_ret2
    exact ⟨ret_ib HN.out.symm HR.out.symm, rfl⟩
  have d2 : decide (256 ≤ n) = false := by simpa using h2
  have hr : sgB n s = true := by unfold sgB; rw [eT]; simp; omega
  have HR := Lib.hid hr
  by_cases h3 : 256 ≤ 2 * n
  · have HN := Lib.hid (show sgN n s = n - 256 by unfold sgN; rw [if_pos hr, eT, if_pos (by omega)])
    clear hr eT
    go_enter Try.func73, Try.ntmps73
    go_wp2_with (refine (HT.out _).mono ?_; rintro e w2 ⟨rfl, rfl⟩)
    go_ret2
    exact ⟨ret_ib HN.out.symm HR.out.symm, rfl⟩
  · have h4 : 2 * n < 256 := by omega
    have HN := Lib.hid (show sgN n s = n by unfold sgN; rw [if_pos hr, eT, if_neg (by omega)])
    clear hr eT
    go_enter Try.func73, Try.ntmps73
    go_wp2_with (refine (HT.out _).mono ?_; rintro e w2 ⟨rfl, rfl⟩)
    go_ret2
    exact ⟨ret_ib HN.out.symm HR.out.symm, rfl⟩

set_option maxRecDepth 100000 in
set_option maxHeartbeats 1000000 in
theorem rplain_1 (n s : Int) (w : World) (eT : topI s = 256) : Calls Try.prog 62 #[.int .i64 n, .int .i64 s] w fun e w' => e = .returned (.tuple #[.int .i64 (plN n s), .bool (plB n s)]) ∧ w = w' := by
  have HT := Lib.hid (show ∀ W : World, Calls Try.prog 69 #[.int .i64 s] W fun e w' => e = .returned (.int .i64 256) ∧ W = w' from fun W => by rw [← eT]; exact rtop_any s W)
  have eH : topI s / 2 = 128 := by rw [eT]; rfl
  by_cases h1 : n < -128
  · have d1 : decide (n < -128) = true := by simpa using h1
    have hr : plB n s = false := by unfold plB; rw [eH]; simp; omega
    have HR := Lib.hid hr
    have HN := Lib.hid (show plN n s = 0 by unfold plN; rw [hr]; rfl)
    clear hr eT eH
    go_enter Try.func62, Try.ntmps62
    go_wp2_with (refine (HT.out _).mono ?_; rintro e w2 ⟨rfl, rfl⟩)
    go_ret2
    exact ⟨ret_ib HN.out.symm HR.out.symm, rfl⟩
  have d1 : decide (n < -128) = false := by simpa using h1
  by_cases h2 : 128 ≤ n
  · have d2 : decide (128 ≤ n) = true := by simpa using h2
    have hr : plB n s = false := by unfold plB; rw [eH]; simp; omega
    have HR := Lib.hid hr
    have HN := Lib.hid (show plN n s = 0 by unfold plN; rw [hr]; rfl)
    clear hr eT eH
    go_enter Try.func62, Try.ntmps62
    go_wp2_with (refine (HT.out _).mono ?_; rintro e w2 ⟨rfl, rfl⟩)
    go_ret2
    exact ⟨ret_ib HN.out.symm HR.out.symm, rfl⟩
  have d2 : decide (128 ≤ n) = false := by simpa using h2
  have hr : plB n s = true := by unfold plB; rw [eH]; simp; omega
  have HR := Lib.hid hr
  by_cases h3 : n < 0
  · have HN := Lib.hid (show plN n s = n + 256 by unfold plN; rw [if_pos hr, eT, if_pos (by omega)])
    clear hr eT eH
    go_enter Try.func62, Try.ntmps62
    go_wp2_with (refine (HT.out _).mono ?_; rintro e w2 ⟨rfl, rfl⟩)
    go_ret2
    exact ⟨ret_ib HN.out.symm HR.out.symm, rfl⟩
  · have h4 : 0 ≤ n := by omega
    have HN := Lib.hid (show plN n s = n by unfold plN; rw [if_pos hr, if_neg (by omega)])
    clear hr eT eH
    go_enter Try.func62, Try.ntmps62
    go_wp2_with (refine (HT.out _).mono ?_; rintro e w2 ⟨rfl, rfl⟩)
    go_ret2
    exact ⟨ret_ib HN.out.symm HR.out.symm, rfl⟩

set_option maxRecDepth 100000 in
set_option maxHeartbeats 1000000 in
theorem rsigned_2 (n s : Int) (w : World) (eT : topI s = 65536) : Calls Try.prog 73 #[.int .i64 n, .int .i64 s] w fun e w' => e = .returned (.tuple #[.int .i64 (sgN n s), .bool (sgB n s)]) ∧ w = w' := by
  have HT := Lib.hid (show ∀ W : World, Calls Try.prog 69 #[.int .i64 s] W fun e w' => e = .returned (.int .i64 65536) ∧ W = w' from fun W => by rw [← eT]; exact rtop_any s W)
  by_cases h1 : n < 0
  · have d1 : decide (n < 0) = true := by simpa using h1
    have hr : sgB n s = false := by unfold sgB; rw [eT]; simp; omega
    have HR := Lib.hid hr
    have HN := Lib.hid (show sgN n s = 0 by unfold sgN; rw [hr]; rfl)
    clear hr eT
    go_enter Try.func73, Try.ntmps73
    go_wp2_with (refine (HT.out _).mono ?_; rintro e w2 ⟨rfl, rfl⟩)
    go_ret2
    exact ⟨ret_ib HN.out.symm HR.out.symm, rfl⟩
  have d1 : decide (n < 0) = false := by simpa using h1
  by_cases h2 : 65536 ≤ n
  · have d2 : decide (65536 ≤ n) = true := by simpa using h2
    have hr : sgB n s = false := by unfold sgB; rw [eT]; simp; omega
    have HR := Lib.hid hr
    have HN := Lib.hid (show sgN n s = 0 by unfold sgN; rw [hr]; rfl)
    clear hr eT
    go_enter Try.func73, Try.ntmps73
    go_wp2_with (refine (HT.out _).mono ?_; rintro e w2 ⟨rfl, rfl⟩)
    go_ret2
    exact ⟨ret_ib HN.out.symm HR.out.symm, rfl⟩
  have d2 : decide (65536 ≤ n) = false := by simpa using h2
  have hr : sgB n s = true := by unfold sgB; rw [eT]; simp; omega
  have HR := Lib.hid hr
  by_cases h3 : 65536 ≤ 2 * n
  · have HN := Lib.hid (show sgN n s = n - 65536 by unfold sgN; rw [if_pos hr, eT, if_pos (by omega)])
    clear hr eT
    go_enter Try.func73, Try.ntmps73
    go_wp2_with (refine (HT.out _).mono ?_; rintro e w2 ⟨rfl, rfl⟩)
    go_ret2
    exact ⟨ret_ib HN.out.symm HR.out.symm, rfl⟩
  · have h4 : 2 * n < 65536 := by omega
    have HN := Lib.hid (show sgN n s = n by unfold sgN; rw [if_pos hr, eT, if_neg (by omega)])
    clear hr eT
    go_enter Try.func73, Try.ntmps73
    go_wp2_with (refine (HT.out _).mono ?_; rintro e w2 ⟨rfl, rfl⟩)
    go_ret2
    exact ⟨ret_ib HN.out.symm HR.out.symm, rfl⟩

set_option maxRecDepth 100000 in
set_option maxHeartbeats 1000000 in
theorem rplain_2 (n s : Int) (w : World) (eT : topI s = 65536) : Calls Try.prog 62 #[.int .i64 n, .int .i64 s] w fun e w' => e = .returned (.tuple #[.int .i64 (plN n s), .bool (plB n s)]) ∧ w = w' := by
  have HT := Lib.hid (show ∀ W : World, Calls Try.prog 69 #[.int .i64 s] W fun e w' => e = .returned (.int .i64 65536) ∧ W = w' from fun W => by rw [← eT]; exact rtop_any s W)
  have eH : topI s / 2 = 32768 := by rw [eT]; rfl
  by_cases h1 : n < -32768
  · have d1 : decide (n < -32768) = true := by simpa using h1
    have hr : plB n s = false := by unfold plB; rw [eH]; simp; omega
    have HR := Lib.hid hr
    have HN := Lib.hid (show plN n s = 0 by unfold plN; rw [hr]; rfl)
    clear hr eT eH
    go_enter Try.func62, Try.ntmps62
    go_wp2_with (refine (HT.out _).mono ?_; rintro e w2 ⟨rfl, rfl⟩)
    go_ret2
    exact ⟨ret_ib HN.out.symm HR.out.symm, rfl⟩
  have d1 : decide (n < -32768) = false := by simpa using h1
  by_cases h2 : 32768 ≤ n
  · have d2 : decide (32768 ≤ n) = true := by simpa using h2
    have hr : plB n s = false := by unfold plB; rw [eH]; simp; omega
    have HR := Lib.hid hr
    have HN := Lib.hid (show plN n s = 0 by unfold plN; rw [hr]; rfl)
    clear hr eT eH
    go_enter Try.func62, Try.ntmps62
    go_wp2_with (refine (HT.out _).mono ?_; rintro e w2 ⟨rfl, rfl⟩)
    go_ret2
    exact ⟨ret_ib HN.out.symm HR.out.symm, rfl⟩
  have d2 : decide (32768 ≤ n) = false := by simpa using h2
  have hr : plB n s = true := by unfold plB; rw [eH]; simp; omega
  have HR := Lib.hid hr
  by_cases h3 : n < 0
  · have HN := Lib.hid (show plN n s = n + 65536 by unfold plN; rw [if_pos hr, eT, if_pos (by omega)])
    clear hr eT eH
    go_enter Try.func62, Try.ntmps62
    go_wp2_with (refine (HT.out _).mono ?_; rintro e w2 ⟨rfl, rfl⟩)
    go_ret2
    exact ⟨ret_ib HN.out.symm HR.out.symm, rfl⟩
  · have h4 : 0 ≤ n := by omega
    have HN := Lib.hid (show plN n s = n by unfold plN; rw [if_pos hr, if_neg (by omega)])
    clear hr eT eH
    go_enter Try.func62, Try.ntmps62
    go_wp2_with (refine (HT.out _).mono ?_; rintro e w2 ⟨rfl, rfl⟩)
    go_ret2
    exact ⟨ret_ib HN.out.symm HR.out.symm, rfl⟩

set_option maxRecDepth 100000 in
set_option maxHeartbeats 1000000 in
theorem rsigned_4 (n s : Int) (w : World) (eT : topI s = 4294967296) : Calls Try.prog 73 #[.int .i64 n, .int .i64 s] w fun e w' => e = .returned (.tuple #[.int .i64 (sgN n s), .bool (sgB n s)]) ∧ w = w' := by
  have HT := Lib.hid (show ∀ W : World, Calls Try.prog 69 #[.int .i64 s] W fun e w' => e = .returned (.int .i64 4294967296) ∧ W = w' from fun W => by rw [← eT]; exact rtop_any s W)
  by_cases h1 : n < 0
  · have d1 : decide (n < 0) = true := by simpa using h1
    have hr : sgB n s = false := by unfold sgB; rw [eT]; simp; omega
    have HR := Lib.hid hr
    have HN := Lib.hid (show sgN n s = 0 by unfold sgN; rw [hr]; rfl)
    clear hr eT
    go_enter Try.func73, Try.ntmps73
    go_wp2_with (refine (HT.out _).mono ?_; rintro e w2 ⟨rfl, rfl⟩)
    go_ret2
    exact ⟨ret_ib HN.out.symm HR.out.symm, rfl⟩
  have d1 : decide (n < 0) = false := by simpa using h1
  by_cases h2 : 4294967296 ≤ n
  · have d2 : decide (4294967296 ≤ n) = true := by simpa using h2
    have hr : sgB n s = false := by unfold sgB; rw [eT]; simp; omega
    have HR := Lib.hid hr
    have HN := Lib.hid (show sgN n s = 0 by unfold sgN; rw [hr]; rfl)
    clear hr eT
    go_enter Try.func73, Try.ntmps73
    go_wp2_with (refine (HT.out _).mono ?_; rintro e w2 ⟨rfl, rfl⟩)
    go_ret2
    exact ⟨ret_ib HN.out.symm HR.out.symm, rfl⟩
  have d2 : decide (4294967296 ≤ n) = false := by simpa using h2
  have hr : sgB n s = true := by unfold sgB; rw [eT]; simp; omega
  have HR := Lib.hid hr
  by_cases h3 : 4294967296 ≤ 2 * n
  · have HN := Lib.hid (show sgN n s = n - 4294967296 by unfold sgN; rw [if_pos hr, eT, if_pos (by omega)])
    clear hr eT
    go_enter Try.func73, Try.ntmps73
    go_wp2_with (refine (HT.out _).mono ?_; rintro e w2 ⟨rfl, rfl⟩)
    go_ret2
    exact ⟨ret_ib HN.out.symm HR.out.symm, rfl⟩
  · have h4 : 2 * n < 4294967296 := by omega
    have HN := Lib.hid (show sgN n s = n by unfold sgN; rw [if_pos hr, eT, if_neg (by omega)])
    clear hr eT
    go_enter Try.func73, Try.ntmps73
    go_wp2_with (refine (HT.out _).mono ?_; rintro e w2 ⟨rfl, rfl⟩)
    go_ret2
    exact ⟨ret_ib HN.out.symm HR.out.symm, rfl⟩

set_option maxRecDepth 100000 in
set_option maxHeartbeats 1000000 in
theorem rplain_4 (n s : Int) (w : World) (eT : topI s = 4294967296) : Calls Try.prog 62 #[.int .i64 n, .int .i64 s] w fun e w' => e = .returned (.tuple #[.int .i64 (plN n s), .bool (plB n s)]) ∧ w = w' := by
  have HT := Lib.hid (show ∀ W : World, Calls Try.prog 69 #[.int .i64 s] W fun e w' => e = .returned (.int .i64 4294967296) ∧ W = w' from fun W => by rw [← eT]; exact rtop_any s W)
  have eH : topI s / 2 = 2147483648 := by rw [eT]; rfl
  by_cases h1 : n < -2147483648
  · have d1 : decide (n < -2147483648) = true := by simpa using h1
    have hr : plB n s = false := by unfold plB; rw [eH]; simp; omega
    have HR := Lib.hid hr
    have HN := Lib.hid (show plN n s = 0 by unfold plN; rw [hr]; rfl)
    clear hr eT eH
    go_enter Try.func62, Try.ntmps62
    go_wp2_with (refine (HT.out _).mono ?_; rintro e w2 ⟨rfl, rfl⟩)
    go_ret2
    exact ⟨ret_ib HN.out.symm HR.out.symm, rfl⟩
  have d1 : decide (n < -2147483648) = false := by simpa using h1
  by_cases h2 : 2147483648 ≤ n
  · have d2 : decide (2147483648 ≤ n) = true := by simpa using h2
    have hr : plB n s = false := by unfold plB; rw [eH]; simp; omega
    have HR := Lib.hid hr
    have HN := Lib.hid (show plN n s = 0 by unfold plN; rw [hr]; rfl)
    clear hr eT eH
    go_enter Try.func62, Try.ntmps62
    go_wp2_with (refine (HT.out _).mono ?_; rintro e w2 ⟨rfl, rfl⟩)
    go_ret2
    exact ⟨ret_ib HN.out.symm HR.out.symm, rfl⟩
  have d2 : decide (2147483648 ≤ n) = false := by simpa using h2
  have hr : plB n s = true := by unfold plB; rw [eH]; simp; omega
  have HR := Lib.hid hr
  by_cases h3 : n < 0
  · have HN := Lib.hid (show plN n s = n + 4294967296 by unfold plN; rw [if_pos hr, eT, if_pos (by omega)])
    clear hr eT eH
    go_enter Try.func62, Try.ntmps62
    go_wp2_with (refine (HT.out _).mono ?_; rintro e w2 ⟨rfl, rfl⟩)
    go_ret2
    exact ⟨ret_ib HN.out.symm HR.out.symm, rfl⟩
  · have h4 : 0 ≤ n := by omega
    have HN := Lib.hid (show plN n s = n by unfold plN; rw [if_pos hr, if_neg (by omega)])
    clear hr eT eH
    go_enter Try.func62, Try.ntmps62
    go_wp2_with (refine (HT.out _).mono ?_; rintro e w2 ⟨rfl, rfl⟩)
    go_ret2
    exact ⟨ret_ib HN.out.symm HR.out.symm, rfl⟩

theorem no_top (n s : Int) (eT : topI s = 0) : sgB n s = false ∧ sgN n s = 0 ∧ plB n s = false ∧ plN n s = 0 := by
  have h1 : sgB n s = false := by unfold sgB; rw [eT]; simp
  have h2 : plB n s = false := by unfold plB; rw [eT]; simp
  refine ⟨h1, by unfold sgN; rw [h1]; rfl, h2, by unfold plN; rw [h2]; rfl⟩
theorem rsigned_0 (n s : Int) (w : World) (eT : topI s = 0) : Calls Try.prog 73 #[.int .i64 n, .int .i64 s] w fun e w' => e = .returned (.tuple #[.int .i64 (sgN n s), .bool (sgB n s)]) ∧ w = w' := by
  obtain ⟨h1, h2, _, _⟩ := no_top n s eT
  rw [h1, h2]
  clear h1 h2
  have HT := Lib.hid (show ∀ W : World, Calls Try.prog 69 #[.int .i64 s] W fun e w' => e = .returned (.int .i64 0) ∧ W = w' from fun W => by rw [← eT]; exact rtop_any s W)
  clear eT
  by_cases h3 : n < 0
  · go_enter Try.func73, Try.ntmps73
    go_wp2_with (refine (HT.out _).mono ?_; rintro e w2 ⟨rfl, rfl⟩)
    go_ret2
    exact ⟨rfl, rfl⟩
  · have h4 : 0 ≤ n := by omega
    go_enter Try.func73, Try.ntmps73
    go_wp2_with (refine (HT.out _).mono ?_; rintro e w2 ⟨rfl, rfl⟩)
    go_ret2
    exact ⟨rfl, rfl⟩
theorem rplain_0 (n s : Int) (w : World) (eT : topI s = 0) : Calls Try.prog 62 #[.int .i64 n, .int .i64 s] w fun e w' => e = .returned (.tuple #[.int .i64 (plN n s), .bool (plB n s)]) ∧ w = w' := by
  obtain ⟨_, _, h1, h2⟩ := no_top n s eT
  rw [h1, h2]
  clear h1 h2
  have HT := Lib.hid (show ∀ W : World, Calls Try.prog 69 #[.int .i64 s] W fun e w' => e = .returned (.int .i64 0) ∧ W = w' from fun W => by rw [← eT]; exact rtop_any s W)
  clear eT
  by_cases h3 : n < 0
  · go_enter Try.func62, Try.ntmps62
    go_wp2_with (refine (HT.out _).mono ?_; rintro e w2 ⟨rfl, rfl⟩)
    go_ret2
    exact ⟨rfl, rfl⟩
  · have h4 : 0 ≤ n := by omega
    go_enter Try.func62, Try.ntmps62
    go_wp2_with (refine (HT.out _).mono ?_; rintro e w2 ⟨rfl, rfl⟩)
    go_ret2
    exact ⟨rfl, rfl⟩
theorem top4 (s : Int) : topI s = 0 ∨ topI s = 256 ∨ topI s = 65536 ∨ topI s = 4294967296 := by unfold topI; split <;> (try split) <;> (try split) <;> simp
theorem rsigned_any (n s : Int) (w : World) : Calls Try.prog 73 #[.int .i64 n, .int .i64 s] w fun e w' => e = .returned (.tuple #[.int .i64 (sgN n s), .bool (sgB n s)]) ∧ w = w' := by
  rcases top4 s with h | h | h | h
  · exact rsigned_0 n s w h
  · exact rsigned_1 n s w h
  · exact rsigned_2 n s w h
  · exact rsigned_4 n s w h
theorem rplain_any (n s : Int) (w : World) : Calls Try.prog 62 #[.int .i64 n, .int .i64 s] w fun e w' => e = .returned (.tuple #[.int .i64 (plN n s), .bool (plB n s)]) ∧ w = w' := by
  rcases top4 s with h | h | h | h
  · exact rplain_0 n s w h
  · exact rplain_1 n s w h
  · exact rplain_2 n s w h
  · exact rplain_4 n s w h
end Go.Proofs.Ytmdcdmgbillehaa
/- The contract of Turn: bytes turned, number by number. -/
namespace Go.Proofs.Ytmdcdmgbillehaa
open Go.RowKit
open Go.Tin
set_option linter.unusedVariables false
set_option linter.unusedSimpArgs false


/-- Turned up to a place. -/
def turnP (l : List Int) (s a : Nat) : List Int := (List.range l.length).map fun i => nth l (if i < a then i - i % s + (s - 1 - i % s) else i)
@[simp] theorem turnP_len (l : List Int) (s a : Nat) : (turnP l s a).length = l.length := by simp [turnP]
theorem turnP_nth (l : List Int) (s a i : Nat) (hi : i < l.length) : nth (turnP l s a) i = nth l (if i < a then i - i % s + (s - 1 - i % s) else i) := by
  conv => lhs; unfold nth turnP
  simp [List.getD_eq_getElem?_getD, hi]
theorem turnP_zero (l : List Int) (s : Nat) : turnP l s 0 = l := by
  refine ext_nth (by simp) fun i hi => ?_
  rw [turnP_len] at hi
  rw [turnP_nth l s 0 i hi, if_neg (by omega)]
theorem turnP_step (l : List Int) (s a t : Nat) (hs : s = 1 ∨ s = 2 ∨ s = 4 ∨ s = 8) (ha : a = s * t) (hfit : a + s ≤ l.length) : revF (turnP l s a) a s = turnP l s (a + s) := by
  refine ext_nth (by simp [revF]) fun i hi => ?_
  simp only [revF, revP_len, turnP_len] at hi
  unfold revF
  rw [revP_nth _ a s s i (by simpa using hi), turnP_nth l s (a + s) i hi]
  by_cases h1 : a ≤ i ∧ i < a + s
  · rw [if_pos (show a ≤ i ∧ i < a + s ∧ (i < a + s ∨ a + s ≤ i + s) by omega), if_pos h1.2, turnP_nth l s a _ (by omega), if_neg (by omega)]
    congr 1
    rcases hs with rfl | rfl | rfl | rfl <;> omega
  · rw [if_neg (by omega), turnP_nth l s a i hi]
    by_cases h2 : i < a
    · rw [if_pos h2, if_pos (by omega)]
    · rw [if_neg h2, if_neg (by omega)]
theorem turnB_t {s o : Int} (h : turnB s o = true) : (s = 1 ∨ s = 2 ∨ s = 4 ∨ s = 8) ∧ (o = 1 ∨ o = 2) := by
  unfold turnB at h
  rw [Bool.and_eq_true, Bool.or_eq_true] at h
  refine ⟨?_, orB_t h.2⟩
  rcases h.1 with h | h
  · have := szB_t h; omega
  · simp at h; omega
theorem turnP_end (l : List Int) (s a t : Nat) (hs : s = 1 ∨ s = 2 ∨ s = 4 ∨ s = 8) (ha : a = s * t) (h : l.length < a + s) (h' : a ≤ l.length) (hy : turnB s 1 = true) : turnP l s a = turnL l s 1 := by
  unfold turnL
  rw [if_pos hy]
  unfold turnP turnI
  refine List.map_congr_left fun i hi => ?_
  simp only [true_and, Int.toNat_natCast]
  have : l.length - l.length % s = a := by rcases hs with rfl | rfl | rfl | rfl <;> omega
  rw [this]
theorem turnL_big (l : List Int) (s : Int) (hy : turnB s 2 = true) : turnL l s 2 = l := by
  unfold turnL
  rw [if_pos hy]
  refine ext_nth (by simp) fun i hi => ?_
  have hi' : i < l.length := by simpa using hi
  unfold turnI
  conv => lhs; unfold nth
  simp [List.getD_eq_getElem?_getD, hi', nth]
theorem turnL_len (l : List Int) (s o : Int) (hy : turnB s o = true) : (turnL l s o).length = l.length := by
  unfold turnL
  rw [if_pos hy]
  simp

set_option maxRecDepth 100000 in
set_option maxHeartbeats 2000000 in
theorem turn_no (A : Option Addr) (n c : Nat) (s o : Int) (w : World) (hno : turnB s o = false) :
    Calls Try.prog 47 #[.slice A n c, .int .i64 s, .int .i64 o] w fun e w' => e = .returned (.slice none 0 0) ∧ Below w.heap.size w w' := by
  unfold turnB at hno
  have hm : mayO s o = false := by
    unfold mayO
    cases h1 : szB s <;> cases h2 : orB o <;> simp_all
  by_cases h8 : s = 8
  · subst h8
    have ho : orB o = false := by simpa using hno
    have hm1 : mayO 1 o = false := by unfold mayO; rw [ho]; simp
    have HM := Lib.hid hm
    have HM1 := Lib.hid hm1
    clear hno hm hm1 ho
    go_enter Try.func47, Try.ntmps47
    go_wp2_with fail
    refine (may_any 8 o w).mono ?_
    rintro e w1 ⟨rfl, hb⟩
    rw [HM.out]
    go_wp2_with fail
    refine (may_any 1 o w1).mono ?_
    rintro e w2 ⟨rfl, hb2⟩
    rw [HM1.out]
    go_wp2_with fail
    go_ret
    exact ⟨rfl, bt hb hb2⟩
  · have d8 : (s != 8) = true := by simpa using h8
    have HM := Lib.hid hm
    clear hno hm h8
    go_enter Try.func47, Try.ntmps47
    go_wp2_with fail
    refine (may_any s o w).mono ?_
    rintro e w1 ⟨rfl, hb⟩
    rw [HM.out]
    go_wp2_with fail
    go_ret
    exact ⟨rfl, hb⟩

set_option maxRecDepth 100000 in
set_option maxHeartbeats 4000000 in
theorem turn_yes (A : Option Addr) (l : List Int) (c : Nat) (s : Nat) (o : Int) (w : World) (hs : Sl .u8 w A l) (hl : l.length ≤ 1000000000) (hy : turnB s o = true) :
    Calls Try.prog 47 #[.slice A l.length c, .int .i64 (s : Int), .int .i64 o] w fun e w' => ∃ A' c', e = .returned (.slice A' l.length c') ∧ Own .u8 5 w' w.heap.size (.slice A' l.length c') (turnL l s o) ∧ Below w.heap.size w w' := by
  obtain ⟨hs4, horder⟩ := turnB_t hy
  have HY := Lib.hid hy
  by_cases h8 : s = 8
  · subst h8
    have HM := Lib.hid (show mayO 8 o = false by unfold mayO; rfl)
    have HM1 := Lib.hid (show mayO 1 o = true by unfold mayO; rcases horder with rfl | rfl <;> rfl)
    clear hy
    go_enter Try.func47, Try.ntmps47
    go_wp2_with fail
    refine (may_any 8 o w).mono ?_
    rintro e w0 ⟨rfl, hb0⟩
    rw [HM.out]
    go_wp2_with fail
    refine (may_any 1 o w0).mono ?_
    rintro e w1 ⟨rfl, hb1⟩
    rw [HM1.out]
    have hb := bt hb0 hb1
    have HS := Lib.hid (hs.keep hb)
    clear hb0 hb1 hs
    go_wp2_with (first | (at_make; refine Tin.wpl_makeN bt5 _ rfl (.tmp 23) (.tmp 23) rfl w1.heap.size .i64 .i64 _ _ l.length rfl rfl rfl rfl (by omega) (by unfold maxLen; omega) (Nat.le_refl _) ?_; intro w3 ho3 hg3; have hk3 := (brefl w1).grown hg3 (Nat.le_refl _) (fun k hk => by cases hk); have hS3 := Lib.hid (HS.out.keep hk3); have hz3 := hg3.size) | ((with_reducible refine Tin.wpl_copyAll bt5 _ ?_ (.tmp 25) (.tmp 26) ?_ w1.heap.size w1.heap.size l.length l.length _ List.length_replicate ?_ ho3 A c l ?_ ?_ hS3.out hz3 ?_); rfl; rfl; rfl; rfl; rfl; intro w4 ho4 hg4 hz4; simp only [Act.put]))
    have hb4 := hk3.grown hg4 hz3 (fun k hk => by cases hk; omega)
    have hgz : w1.heap.size < w4.heap.size := (World.ownsRow.lt ho4 _ rfl).2
    have hle : w.heap.size ≤ w1.heap.size := hb.size
    generalize w1.heap.size = g at *
    clear hg3 hg4 hz4 ho3 hk3 hS3 hz3 HM hgz
    rcases horder with rfl | rfl
    · go_loopw [8] (fun s8 wr => ∃ a t : Nat, a = 8 * t ∧ a ≤ l.length ∧ s8 = .int .i64 (a : Int) ∧ Own .u8 5 wr g (.slice (some ⟨g, 0, none⟩) l.length l.length) (turnP l 8 a) ∧ Below g w1 wr) (fun s8 _ => l.length - (intOf s8).toNat)
      case atStart => exact ⟨0, 0, by omega, by omega, rfl, by rw [turnP_zero]; exact ho4, hb4⟩
      case round =>
        clear ho4 hb4
        obtain ⟨a, t, hat, hal, rfl, ho5, hb5⟩ := hrel
        have HO := Lib.hid ho5
        have HA := Lib.hid hat
        clear ho5 hat
        by_cases hf : a + 8 ≤ l.length
        · have a0 : (a : Int) + 8 ≤ (l.length : Int) := by omega
          go_wp2_with fail
          refine (rev_any g g _ _ a 8 _ _ wr HO.out (by simpa using hf) (by omega) (by simpa using hl)).mono ?_
          rintro e w6 ⟨rfl, ho6, hg6, hz6⟩
          have HO6 := Lib.hid (show Own .u8 5 w6 g (.slice (some ⟨g, 0, none⟩) l.length l.length) (turnP l 8 (a + 8)) by rw [← turnP_step l 8 a t (by omega) HA.out hf]; exact ho6)
          have hgr : g < wr.heap.size := (World.ownsRow.lt HO.out _ rfl).2
          have hb6 := hb5.grown hg6 (by omega) (fun k hk => by cases hk; omega)
          have HA6 := Lib.hid (show a + 8 = 8 * (t + 1) by rw [HA.out, Nat.mul_add, Nat.mul_one])
          clear ho6 hg6 hz6
          go_wp2_with fail
          go_roundw
          case rel => exact ⟨a + 8, t + 1, HA6.out, hf, by go_num, HO6.out, hb6⟩
          case measure => simp [intOf]; omega
        · have a0 : (l.length : Int) < (a : Int) + 8 := by omega
          have a1 : decide ((a : Int) + 8 ≤ (l.length : Int)) = false := by simp; omega
          have HO6 := Lib.hid (show Own .u8 5 wr g (.slice (some ⟨g, 0, none⟩) l.length l.length) (turnL l 8 1) by have h := HO.out; rw [turnP_end l 8 a t (by omega) HA.out (by omega) hal HY.out] at h; exact h)
          go_wp2_with fail
          go_ret
          exact ⟨_, _, rfl, HO6.out.mono hle, hb.trans (hb5.mono hle)⟩
    · go_loopw [8] (fun s8 wr => s8 = .int .i64 0 ∧ wr = w4) (fun s8 _ => 0)
      case atStart => exact ⟨rfl, rfl⟩
      case round =>
        obtain ⟨rfl, rfl⟩ := hrel
        have HO6 := Lib.hid (show Own .u8 5 wr g (.slice (some ⟨g, 0, none⟩) l.length l.length) (turnL l 8 2) by rw [turnL_big l 8 HY.out]; exact ho4)
        clear ho4
        go_wp2_with fail
        go_ret
        exact ⟨_, _, rfl, HO6.out.mono hle, hb.trans (hb4.mono hle)⟩

  · have hm : mayO s o = true := by
      unfold turnB at hy
      have e8 : decide ((s : Int) = 8) = false := by simp; omega
      rw [e8, Bool.or_false] at hy
      exact hy
    have HM := Lib.hid hm
    clear hm hy
    go_enter Try.func47, Try.ntmps47
    go_wp2_with fail
    refine (may_any s o w).mono ?_
    rintro e w1 ⟨rfl, hb⟩
    rw [HM.out]
    have HS := Lib.hid (hs.keep hb)
    clear hs
    go_wp2_with (first | (at_make; refine Tin.wpl_makeN bt5 _ rfl (.tmp 23) (.tmp 23) rfl w1.heap.size .i64 .i64 _ _ l.length rfl rfl rfl rfl (by omega) (by unfold maxLen; omega) (Nat.le_refl _) ?_; intro w3 ho3 hg3; have hk3 := (brefl w1).grown hg3 (Nat.le_refl _) (fun k hk => by cases hk); have hS3 := Lib.hid (HS.out.keep hk3); have hz3 := hg3.size) | ((with_reducible refine Tin.wpl_copyAll bt5 _ ?_ (.tmp 25) (.tmp 26) ?_ w1.heap.size w1.heap.size l.length l.length _ List.length_replicate ?_ ho3 A c l ?_ ?_ hS3.out hz3 ?_); rfl; rfl; rfl; rfl; rfl; intro w4 ho4 hg4 hz4; simp only [Act.put]))
    have hb4 := hk3.grown hg4 hz3 (fun k hk => by cases hk; omega)
    have hgz : w1.heap.size < w4.heap.size := (World.ownsRow.lt ho4 _ rfl).2
    have hle : w.heap.size ≤ w1.heap.size := hb.size
    generalize w1.heap.size = g at *
    clear hg3 hg4 hz4 ho3 hk3 hS3 hz3 HM hgz
    rcases horder with rfl | rfl
    · go_loopw [8] (fun s8 wr => ∃ a t : Nat, a = s * t ∧ a ≤ l.length ∧ s8 = .int .i64 (a : Int) ∧ Own .u8 5 wr g (.slice (some ⟨g, 0, none⟩) l.length l.length) (turnP l s a) ∧ Below g w1 wr) (fun s8 _ => l.length - (intOf s8).toNat)
      case atStart => exact ⟨0, 0, by omega, by omega, rfl, by rw [turnP_zero]; exact ho4, hb4⟩
      case round =>
        clear ho4 hb4
        obtain ⟨a, t, hat, hal, rfl, ho5, hb5⟩ := hrel
        have HO := Lib.hid ho5
        have HA := Lib.hid hat
        clear ho5 hat
        by_cases hf : a + s ≤ l.length
        · have a0 : (a : Int) + s ≤ (l.length : Int) := by omega
          go_wp2_with fail
          refine (rev_any g g _ _ a s _ _ wr HO.out (by simpa using hf) (by omega) (by simpa using hl)).mono ?_
          rintro e w6 ⟨rfl, ho6, hg6, hz6⟩
          have HO6 := Lib.hid (show Own .u8 5 w6 g (.slice (some ⟨g, 0, none⟩) l.length l.length) (turnP l s (a + s)) by rw [← turnP_step l s a t (by omega) HA.out hf]; exact ho6)
          have hgr : g < wr.heap.size := (World.ownsRow.lt HO.out _ rfl).2
          have hb6 := hb5.grown hg6 (by omega) (fun k hk => by cases hk; omega)
          have HA6 := Lib.hid (show a + s = s * (t + 1) by rw [HA.out, Nat.mul_add, Nat.mul_one])
          clear ho6 hg6 hz6
          go_wp2_with fail
          go_roundw
          case rel => exact ⟨a + s, t + 1, HA6.out, hf, by go_num, HO6.out, hb6⟩
          case measure => simp [intOf]; omega
        · have a0 : (l.length : Int) < (a : Int) + s := by omega
          have a1 : decide ((a : Int) + s ≤ (l.length : Int)) = false := by simp; omega
          have HO6 := Lib.hid (show Own .u8 5 wr g (.slice (some ⟨g, 0, none⟩) l.length l.length) (turnL l s 1) by have h := HO.out; rw [turnP_end l s a t (by omega) HA.out (by omega) hal HY.out] at h; exact h)
          go_wp2_with fail
          go_ret
          exact ⟨_, _, rfl, HO6.out.mono hle, hb.trans (hb5.mono hle)⟩
    · go_loopw [8] (fun s8 wr => s8 = .int .i64 0 ∧ wr = w4) (fun s8 _ => 0)
      case atStart => exact ⟨rfl, rfl⟩
      case round =>
        obtain ⟨rfl, rfl⟩ := hrel
        have HO6 := Lib.hid (show Own .u8 5 wr g (.slice (some ⟨g, 0, none⟩) l.length l.length) (turnL l s 2) by rw [turnL_big l s HY.out]; exact ho4)
        clear ho4
        go_wp2_with fail
        go_ret
        exact ⟨_, _, rfl, HO6.out.mono hle, hb.trans (hb4.mono hle)⟩


theorem turn_any (A : Option Addr) (l : List Int) (c : Nat) (s o : Int) (w : World) (hs : Sl .u8 w A l) (hl : l.length ≤ 1000000000) :
    Calls Try.prog 47 #[.slice A l.length c, .int .i64 s, .int .i64 o] w fun e w' => ∃ A' c', e = .returned (.slice A' (turnL l s o).length c') ∧ Own .u8 5 w' w.heap.size (.slice A' (turnL l s o).length c') (turnL l s o) ∧ Below w.heap.size w w' := by
  by_cases h : turnB s o = true
  · rw [turnL_len l s o h]
    obtain ⟨s, rfl⟩ := Int.eq_ofNat_of_zero_le (show 0 ≤ s by have := (turnB_t h).1; omega)
    exact turn_yes A l c s o w hs hl h
  · have h' : turnB s o = false := by simpa using h
    have e : turnL l s o = [] := by unfold turnL; rw [if_neg h]
    rw [e]
    refine (turn_no A l.length c s o w h').mono ?_
    rintro e w' ⟨rfl, hb⟩
    exact ⟨none, 0, rfl, Own.nil_ _ _ _ _, hb⟩
end Go.Proofs.Ytmdcdmgbillehaa
/- The contract of the reference of Turn: bytes turned, number by number. -/
namespace Go.Proofs.Ytmdcdmgbillehaa
open Go.RowKit
open Go.Tin
set_option linter.unusedVariables false
set_option linter.unusedSimpArgs false


theorem turnB_f {s o : Int} (h : turnB s o = false) : (szB s = false ∧ s ≠ 8) ∨ o < 1 ∨ 2 < o := by
  unfold turnB at h
  cases h2 : orB o
  · have := orB_f h2; omega
  · rw [h2] at h
    simp at h
    exact .inl ⟨h.1, h.2⟩
theorem topI_ne (s : Int) (h : topI s = 0) : (topI s == 0) = true := by simp [h]
set_option maxRecDepth 100000 in
set_option maxHeartbeats 1000000 in
theorem rturn_no (A : Option Addr) (n c : Nat) (s o : Int) (w : World) (hno : turnB s o = false) :
    Calls Try.prog 48 #[.slice A n c, .int .i64 s, .int .i64 o] w fun e w' => e = .returned (.slice none 0 0) ∧ Below w.heap.size w w' := by
  have hf := turnB_f hno
  have ht := topI_eq0 s
  clear hno
  by_cases h8 : szB s = false ∧ s ≠ 8
  · rw [h8.1] at ht
    have d8 : (s != 8) = true := by simpa using h8.2
    clear hf h8
    go_enter Try.func48, Try.ntmps48
    go_wp2_with (refine (rtop_any _ _).mono ?_; rintro e w1 ⟨rfl, rfl⟩)
    go_ret
    exact ⟨rfl, brefl _⟩
  · have hf' : o < 1 ∨ 2 < o := by
      rcases hf with h | h
      · exact absurd h h8
      · exact h
    cases hz : szB s
    · rw [hz] at ht
      obtain rfl : s = 8 := by rw [hz] at h8; simpa using h8
      clear hf h8 hz
      by_cases h1 : o < 1
      · have d1 : decide (o < 1) = true := by simpa using h1
        clear hf' h1
        go_enter Try.func48, Try.ntmps48
        go_wp2_with (refine (rtop_any _ _).mono ?_; rintro e w1 ⟨rfl, rfl⟩)
        go_ret
        exact ⟨rfl, brefl _⟩
      · have d1 : decide (o < 1) = false := by simpa using h1
        have d2 : decide (2 < o) = true := by simp; omega
        clear hf' h1
        go_enter Try.func48, Try.ntmps48
        go_wp2_with (refine (rtop_any _ _).mono ?_; rintro e w1 ⟨rfl, rfl⟩)
        go_ret
        exact ⟨rfl, brefl _⟩
    · rw [hz] at ht
      clear hf h8 hz
      by_cases h1 : o < 1
      · have d1 : decide (o < 1) = true := by simpa using h1
        clear hf' h1
        go_enter Try.func48, Try.ntmps48
        go_wp2_with (refine (rtop_any _ _).mono ?_; rintro e w1 ⟨rfl, rfl⟩)
        go_ret
        exact ⟨rfl, brefl _⟩
      · have d1 : decide (o < 1) = false := by simpa using h1
        have d2 : decide (2 < o) = true := by simp; omega
        clear hf' h1
        go_enter Try.func48, Try.ntmps48
        go_wp2_with (refine (rtop_any _ _).mono ?_; rintro e w1 ⟨rfl, rfl⟩)
        go_ret
        exact ⟨rfl, brefl _⟩

/-- Where a number's byte stands behind its turn. -/
def turnK (i s : Nat) : Nat := i - i % s + (s - 1 - i % s)
theorem turnK_lt (i s n : Nat) (hs : 0 < s) (h : i < n - n % s) : turnK i s < n := by
  have h1 := Nat.div_add_mod i s
  have h2 := Nat.div_add_mod n s
  have h3 := Nat.mod_lt i hs
  have h4 : i / s < n / s := by
    apply Nat.lt_of_not_le
    intro h5
    have := Nat.mul_le_mul_left s h5
    omega
  have h6 : s * (i / s) + s ≤ s * (n / s) := by
    have := Nat.mul_le_mul_left s (show i / s + 1 ≤ n / s by omega)
    rw [Nat.mul_add, Nat.mul_one] at this
    exact this
  unfold turnK
  omega
theorem turnL_nth (l : List Int) (s : Nat) (o : Int) (i : Nat) (hy : turnB s o = true) (hi : i < l.length) : nth (turnL l s o) i = if o = 1 ∧ i < l.length - l.length % s then nth l (turnK i s) else nth l i := by
  unfold turnL
  rw [if_pos hy]
  conv => lhs; unfold nth
  simp only [List.getD_eq_getElem?_getD, List.getElem?_map, List.getElem?_range hi, Option.map_some, Option.getD_some, turnI, Int.toNat_natCast]
  split <;> rfl

set_option maxRecDepth 100000 in
set_option maxHeartbeats 4000000 in
theorem rturn_yes (A : Option Addr) (l : List Int) (c : Nat) (s : Nat) (o : Int) (w : World) (hs : Sl .u8 w A l) (hl : l.length ≤ 1000000000) (hy : turnB s o = true) :
    Calls Try.prog 48 #[.slice A l.length c, .int .i64 (s : Int), .int .i64 o] w fun e w' => ∃ A' c', e = .returned (.slice A' l.length c') ∧ Own .u8 5 w' w.heap.size (.slice A' l.length c') (turnL l s o) ∧ Below w.heap.size w w' := by
  obtain ⟨hs4, horder⟩ := turnB_t hy
  have HY := Lib.hid hy
  have HS := Lib.hid hs
  have d1 : decide (o < 1) = false := by simp; omega
  have d2 : decide (2 < o) = false := by simp; omega
  have d3 : szB s = false → ((s : Int) != 8) = false := fun h => by have := szB_f h; simp; omega
  have ht := topI_eq0 s
  have s0 : 1 ≤ s := by omega
  have s1 : s ≤ 8 := by omega
  cases hz : szB s
  · rw [hz] at ht
    have d4 := d3 hz
    clear d3 hz hy hs hs4
    go_enter Try.func48, Try.ntmps48
    go_wp2_with (refine (rtop_any _ _).mono ?_; rintro e w1 ⟨rfl, rfl⟩)
    go_loopw [7, 8] (fun s7 s8 wr => ∃ (i : Nat) (A' : Option Addr) (c' : Nat), i ≤ l.length ∧ s8 = .int .i64 (i : Int) ∧ s7 = .slice A' i c' ∧ Own .u8 5 wr w.heap.size (.slice A' i c') ((turnL l s o).take i) ∧ Below w.heap.size w wr) (fun _ s8 _ => l.length - (intOf s8).toNat)
    case atStart => exact ⟨0, none, 0, by omega, rfl, rfl, Own.nil_ _ _ _ _, brefl w⟩
    case round =>
      obtain ⟨i, A', c', hi, rfl, rfl, ho, hb⟩ := hrel
      have HO := Lib.hid ho
      clear ho
      by_cases hil : i < l.length
      · have i1 : (i : Int) < (l.length : Int) := by omega
        have m0 : 0 ≤ (i : Int) % (s : Int) := Int.emod_nonneg _ (by omega)
        have m1 : (i : Int) % (s : Int) < (s : Int) := Int.emod_lt_of_pos _ (by omega)
        have m2 : (i : Int) % (s : Int) ≤ (i : Int) := by
          have h := Nat.mod_le i s
          rw [show (i : Int) % (s : Int) = ((i % s : Nat) : Int) from rfl]
          omega
        have n0 : 0 ≤ (l.length : Int) % (s : Int) := Int.emod_nonneg _ (by omega)
        have n1 : (l.length : Int) % (s : Int) < (s : Int) := Int.emod_lt_of_pos _ (by omega)
        obtain ⟨b, off, rfl, hlt, hcell⟩ := (HS.out.keep hb).at_ (by omega)
        have HK := Lib.hid hcell
        clear hcell
        have hz := hb.size
        have hnm : i - i % s + (s - 1 - i % s) = turnK i s := rfl
        have HTN := Lib.hid (turnL_nth l s o i HY.out hil)
        rcases horder with rfl | rfl
        · by_cases hk : i < l.length - l.length % s
          · have k1 : (i : Int) < (l.length : Int) - (l.length : Int) % (s : Int) := by
              rw [show (l.length : Int) % (s : Int) = ((l.length % s : Nat) : Int) from rfl]
              omega
            have hm : i % s ≤ i := Nat.mod_le i s
            have hm2 : i % s < s := Nat.mod_lt i (by omega)
            have hkl : turnK i s < l.length := turnK_lt i s l.length (by omega) hk
            have e1 : (i : Int) - (i : Int) % (s : Int) + (s : Int) - 1 - (i : Int) % (s : Int) = ((turnK i s : Nat) : Int) := by
              rw [show (i : Int) % (s : Int) = ((i % s : Nat) : Int) from rfl]
              unfold turnK
              omega
            have k0 := HK.out (turnK i s) hkl
            rw [show l.getD (turnK i s) 0 = nth l (turnK i s) from rfl] at k0
            have HTN2 := Lib.hid (show nth (turnL l s 1) i = nth l (turnK i s) by rw [HTN.out, if_pos ⟨rfl, hk⟩])
            generalize turnK i s = K at *
            clear hm hm2 HTN hk hnm
            go_wp2_with fail
            refine Tin.reg_begin 0 13 (by rfl) (by kernel_rfl) ?_
            refine Tin.reg_quiets [0, 1, 2, 3, 4, 5, 6, 7, 8, 9, 10, 11, 12] _ 0 rfl (by simp only [Tin.pick, List.map_cons, List.map_nil, Array.getD_eq_getD_getElem?, List.getElem?_toArray, List.getElem?_cons_zero, List.getElem?_cons_succ, Option.getD_some]; rfl) (by kernel_rfl) (by kernel_rfl) ?_
            repeat (first | go_big_quiet_step (fail))
            refine wpQuiet_nil ?_
            refine Tin.reg_done (by kernel_rfl) ?_
            go_wp2_with (at_builtin; refine Tin.wpl_app bt5 _ rfl (.tmp 57) (.tmp 62) rfl w.heap.size _ _ rfl (HO.out.drew.alloc _) (some ⟨wr.heap.size, 0, none⟩) 1 1 [nth l K] rfl (Sl.new_ wr.drew _ _ _ rfl) rfl (by rw [List.length_take]; simp; omega) (by rw [List.length_take]; simp; omega) (by simp; omega) ?_; intro v4 w4 ho4 hg4 how4)
            have HO4 := Lib.hid (show Own .u8 5 w4 w.heap.size v4 ((turnL l s 1).take (i + 1)) by rw [take_snoc_nth _ i (by rw [turnL_len l s 1 HY.out]; exact hil), HTN2.out]; exact ho4)
            obtain ⟨A4, c4, rfl⟩ := own_form HO4.out
            have hlen : ((turnL l s 1).take (i + 1)).length = i + 1 := by rw [List.length_take, turnL_len l s 1 HY.out]; omega
            rw [hlen] at HO4
            have hb4 : Below w.heap.size w w4 := (HO.out.drew.alloc (.cells #[.int .u8 (nth l K)] 5)).grown ((hb.drew).alloc hz (.cells #[.int .u8 (nth l K)] 5)) (by simp; omega) hg4
            clear ho4 hg4 how4
            simp only [hlen]
            clear hlen
            go_wp2_with fail
            go_roundw
            case rel => exact ⟨i + 1, A4, c4, by omega, by go_num, rfl, HO4.out, hb4⟩
            case measure => simp [intOf]; omega

          · have k1 : (l.length : Int) - (l.length : Int) % (s : Int) ≤ (i : Int) := by
              rw [show (l.length : Int) % (s : Int) = ((l.length % s : Nat) : Int) from rfl]
              omega
            have k2 : decide ((i : Int) < (l.length : Int) - (l.length : Int) % (s : Int)) = false := by simp; omega
            have k0 := HK.out i hil
            rw [show l.getD i 0 = nth l i from rfl] at k0
            have HTN2 := Lib.hid (show nth (turnL l s 1) i = nth l i by rw [HTN.out, if_neg (fun h => hk h.2)])
            clear HTN hk hnm
            go_wp2_with (at_builtin; refine Tin.wpl_app bt5 _ rfl (.tmp 57) (.tmp 62) rfl w.heap.size _ _ rfl (HO.out.alloc _) (some ⟨wr.heap.size, 0, none⟩) 1 1 [nth l i] rfl (Sl.new_ wr _ _ _ rfl) rfl (by rw [List.length_take]; simp; omega) (by rw [List.length_take]; simp; omega) (by simp; omega) ?_; intro v4 w4 ho4 hg4 how4)
            have HO4 := Lib.hid (show Own .u8 5 w4 w.heap.size v4 ((turnL l s 1).take (i + 1)) by rw [take_snoc_nth _ i (by rw [turnL_len l s 1 HY.out]; exact hil), HTN2.out]; exact ho4)
            obtain ⟨A4, c4, rfl⟩ := own_form HO4.out
            have hlen : ((turnL l s 1).take (i + 1)).length = i + 1 := by rw [List.length_take, turnL_len l s 1 HY.out]; omega
            rw [hlen] at HO4
            have hb4 : Below w.heap.size w w4 := (HO.out.alloc (.cells #[.int .u8 (nth l i)] 5)).grown ((hb).alloc hz (.cells #[.int .u8 (nth l i)] 5)) (by simp; omega) hg4
            clear ho4 hg4 how4
            simp only [hlen]
            clear hlen
            go_wp2_with fail
            go_roundw
            case rel => exact ⟨i + 1, A4, c4, by omega, by go_num, rfl, HO4.out, hb4⟩
            case measure => simp [intOf]; omega

        · have k0 := HK.out i hil
          rw [show l.getD i 0 = nth l i from rfl] at k0
          have HTN2 := Lib.hid (show nth (turnL l s 2) i = nth l i by rw [HTN.out, if_neg (fun h => by cases h.1)])
          clear HTN hnm
          · go_wp2_with (at_builtin; refine Tin.wpl_app bt5 _ rfl (.tmp 57) (.tmp 62) rfl w.heap.size _ _ rfl (HO.out.alloc _) (some ⟨wr.heap.size, 0, none⟩) 1 1 [nth l i] rfl (Sl.new_ wr _ _ _ rfl) rfl (by rw [List.length_take]; simp; omega) (by rw [List.length_take]; simp; omega) (by simp; omega) ?_; intro v4 w4 ho4 hg4 how4)
            have HO4 := Lib.hid (show Own .u8 5 w4 w.heap.size v4 ((turnL l s 2).take (i + 1)) by rw [take_snoc_nth _ i (by rw [turnL_len l s 2 HY.out]; exact hil), HTN2.out]; exact ho4)
            obtain ⟨A4, c4, rfl⟩ := own_form HO4.out
            have hlen : ((turnL l s 2).take (i + 1)).length = i + 1 := by rw [List.length_take, turnL_len l s 2 HY.out]; omega
            rw [hlen] at HO4
            have hb4 : Below w.heap.size w w4 := (HO.out.alloc (.cells #[.int .u8 (nth l i)] 5)).grown ((hb).alloc hz (.cells #[.int .u8 (nth l i)] 5)) (by simp; omega) hg4
            clear ho4 hg4 how4
            simp only [hlen]
            clear hlen
            go_wp2_with fail
            go_roundw
            case rel => exact ⟨i + 1, A4, c4, by omega, by go_num, rfl, HO4.out, hb4⟩
            case measure => simp [intOf]; omega

      · obtain rfl : i = l.length := by omega
        have HO6 := Lib.hid (show Own .u8 5 wr w.heap.size (.slice A' l.length c') (turnL l s o) by have h := HO.out; rw [List.take_of_length_le (by rw [turnL_len l s o HY.out]; omega)] at h; exact h)
        go_wp2_with fail
        go_ret
        exact ⟨_, _, rfl, HO6.out, hb⟩

  · rw [hz] at ht
    clear d3 hz hy hs hs4
    go_enter Try.func48, Try.ntmps48
    go_wp2_with (refine (rtop_any _ _).mono ?_; rintro e w1 ⟨rfl, rfl⟩)
    go_loopw [7, 8] (fun s7 s8 wr => ∃ (i : Nat) (A' : Option Addr) (c' : Nat), i ≤ l.length ∧ s8 = .int .i64 (i : Int) ∧ s7 = .slice A' i c' ∧ Own .u8 5 wr w.heap.size (.slice A' i c') ((turnL l s o).take i) ∧ Below w.heap.size w wr) (fun _ s8 _ => l.length - (intOf s8).toNat)
    case atStart => exact ⟨0, none, 0, by omega, rfl, rfl, Own.nil_ _ _ _ _, brefl w⟩
    case round =>
      obtain ⟨i, A', c', hi, rfl, rfl, ho, hb⟩ := hrel
      have HO := Lib.hid ho
      clear ho
      by_cases hil : i < l.length
      · have i1 : (i : Int) < (l.length : Int) := by omega
        have m0 : 0 ≤ (i : Int) % (s : Int) := Int.emod_nonneg _ (by omega)
        have m1 : (i : Int) % (s : Int) < (s : Int) := Int.emod_lt_of_pos _ (by omega)
        have m2 : (i : Int) % (s : Int) ≤ (i : Int) := by
          have h := Nat.mod_le i s
          rw [show (i : Int) % (s : Int) = ((i % s : Nat) : Int) from rfl]
          omega
        have n0 : 0 ≤ (l.length : Int) % (s : Int) := Int.emod_nonneg _ (by omega)
        have n1 : (l.length : Int) % (s : Int) < (s : Int) := Int.emod_lt_of_pos _ (by omega)
        obtain ⟨b, off, rfl, hlt, hcell⟩ := (HS.out.keep hb).at_ (by omega)
        have HK := Lib.hid hcell
        clear hcell
        have hz := hb.size
        have hnm : i - i % s + (s - 1 - i % s) = turnK i s := rfl
        have HTN := Lib.hid (turnL_nth l s o i HY.out hil)
        rcases horder with rfl | rfl
        · by_cases hk : i < l.length - l.length % s
          · have k1 : (i : Int) < (l.length : Int) - (l.length : Int) % (s : Int) := by
              rw [show (l.length : Int) % (s : Int) = ((l.length % s : Nat) : Int) from rfl]
              omega
            have hm : i % s ≤ i := Nat.mod_le i s
            have hm2 : i % s < s := Nat.mod_lt i (by omega)
            have hkl : turnK i s < l.length := turnK_lt i s l.length (by omega) hk
            have e1 : (i : Int) - (i : Int) % (s : Int) + (s : Int) - 1 - (i : Int) % (s : Int) = ((turnK i s : Nat) : Int) := by
              rw [show (i : Int) % (s : Int) = ((i % s : Nat) : Int) from rfl]
              unfold turnK
              omega
            have k0 := HK.out (turnK i s) hkl
            rw [show l.getD (turnK i s) 0 = nth l (turnK i s) from rfl] at k0
            have HTN2 := Lib.hid (show nth (turnL l s 1) i = nth l (turnK i s) by rw [HTN.out, if_pos ⟨rfl, hk⟩])
            generalize turnK i s = K at *
            clear hm hm2 HTN hk hnm
            go_wp2_with fail
            refine Tin.reg_begin 0 13 (by rfl) (by kernel_rfl) ?_
            refine Tin.reg_quiets [0, 1, 2, 3, 4, 5, 6, 7, 8, 9, 10, 11, 12] _ 0 rfl (by simp only [Tin.pick, List.map_cons, List.map_nil, Array.getD_eq_getD_getElem?, List.getElem?_toArray, List.getElem?_cons_zero, List.getElem?_cons_succ, Option.getD_some]; rfl) (by kernel_rfl) (by kernel_rfl) ?_
            repeat (first | go_big_quiet_step (fail))
            refine wpQuiet_nil ?_
            refine Tin.reg_done (by kernel_rfl) ?_
            go_wp2_with (at_builtin; refine Tin.wpl_app bt5 _ rfl (.tmp 57) (.tmp 62) rfl w.heap.size _ _ rfl (HO.out.drew.alloc _) (some ⟨wr.heap.size, 0, none⟩) 1 1 [nth l K] rfl (Sl.new_ wr.drew _ _ _ rfl) rfl (by rw [List.length_take]; simp; omega) (by rw [List.length_take]; simp; omega) (by simp; omega) ?_; intro v4 w4 ho4 hg4 how4)
            have HO4 := Lib.hid (show Own .u8 5 w4 w.heap.size v4 ((turnL l s 1).take (i + 1)) by rw [take_snoc_nth _ i (by rw [turnL_len l s 1 HY.out]; exact hil), HTN2.out]; exact ho4)
            obtain ⟨A4, c4, rfl⟩ := own_form HO4.out
            have hlen : ((turnL l s 1).take (i + 1)).length = i + 1 := by rw [List.length_take, turnL_len l s 1 HY.out]; omega
            rw [hlen] at HO4
            have hb4 : Below w.heap.size w w4 := (HO.out.drew.alloc (.cells #[.int .u8 (nth l K)] 5)).grown ((hb.drew).alloc hz (.cells #[.int .u8 (nth l K)] 5)) (by simp; omega) hg4
            clear ho4 hg4 how4
            simp only [hlen]
            clear hlen
            go_wp2_with fail
            go_roundw
            case rel => exact ⟨i + 1, A4, c4, by omega, by go_num, rfl, HO4.out, hb4⟩
            case measure => simp [intOf]; omega

          · have k1 : (l.length : Int) - (l.length : Int) % (s : Int) ≤ (i : Int) := by
              rw [show (l.length : Int) % (s : Int) = ((l.length % s : Nat) : Int) from rfl]
              omega
            have k2 : decide ((i : Int) < (l.length : Int) - (l.length : Int) % (s : Int)) = false := by simp; omega
            have k0 := HK.out i hil
            rw [show l.getD i 0 = nth l i from rfl] at k0
            have HTN2 := Lib.hid (show nth (turnL l s 1) i = nth l i by rw [HTN.out, if_neg (fun h => hk h.2)])
            clear HTN hk hnm
            go_wp2_with (at_builtin; refine Tin.wpl_app bt5 _ rfl (.tmp 57) (.tmp 62) rfl w.heap.size _ _ rfl (HO.out.alloc _) (some ⟨wr.heap.size, 0, none⟩) 1 1 [nth l i] rfl (Sl.new_ wr _ _ _ rfl) rfl (by rw [List.length_take]; simp; omega) (by rw [List.length_take]; simp; omega) (by simp; omega) ?_; intro v4 w4 ho4 hg4 how4)
            have HO4 := Lib.hid (show Own .u8 5 w4 w.heap.size v4 ((turnL l s 1).take (i + 1)) by rw [take_snoc_nth _ i (by rw [turnL_len l s 1 HY.out]; exact hil), HTN2.out]; exact ho4)
            obtain ⟨A4, c4, rfl⟩ := own_form HO4.out
            have hlen : ((turnL l s 1).take (i + 1)).length = i + 1 := by rw [List.length_take, turnL_len l s 1 HY.out]; omega
            rw [hlen] at HO4
            have hb4 : Below w.heap.size w w4 := (HO.out.alloc (.cells #[.int .u8 (nth l i)] 5)).grown ((hb).alloc hz (.cells #[.int .u8 (nth l i)] 5)) (by simp; omega) hg4
            clear ho4 hg4 how4
            simp only [hlen]
            clear hlen
            go_wp2_with fail
            go_roundw
            case rel => exact ⟨i + 1, A4, c4, by omega, by go_num, rfl, HO4.out, hb4⟩
            case measure => simp [intOf]; omega

        · have k0 := HK.out i hil
          rw [show l.getD i 0 = nth l i from rfl] at k0
          have HTN2 := Lib.hid (show nth (turnL l s 2) i = nth l i by rw [HTN.out, if_neg (fun h => by cases h.1)])
          clear HTN hnm
          · go_wp2_with (at_builtin; refine Tin.wpl_app bt5 _ rfl (.tmp 57) (.tmp 62) rfl w.heap.size _ _ rfl (HO.out.alloc _) (some ⟨wr.heap.size, 0, none⟩) 1 1 [nth l i] rfl (Sl.new_ wr _ _ _ rfl) rfl (by rw [List.length_take]; simp; omega) (by rw [List.length_take]; simp; omega) (by simp; omega) ?_; intro v4 w4 ho4 hg4 how4)
            have HO4 := Lib.hid (show Own .u8 5 w4 w.heap.size v4 ((turnL l s 2).take (i + 1)) by rw [take_snoc_nth _ i (by rw [turnL_len l s 2 HY.out]; exact hil), HTN2.out]; exact ho4)
            obtain ⟨A4, c4, rfl⟩ := own_form HO4.out
            have hlen : ((turnL l s 2).take (i + 1)).length = i + 1 := by rw [List.length_take, turnL_len l s 2 HY.out]; omega
            rw [hlen] at HO4
            have hb4 : Below w.heap.size w w4 := (HO.out.alloc (.cells #[.int .u8 (nth l i)] 5)).grown ((hb).alloc hz (.cells #[.int .u8 (nth l i)] 5)) (by simp; omega) hg4
            clear ho4 hg4 how4
            simp only [hlen]
            clear hlen
            go_wp2_with fail
            go_roundw
            case rel => exact ⟨i + 1, A4, c4, by omega, by go_num, rfl, HO4.out, hb4⟩
            case measure => simp [intOf]; omega

      · obtain rfl : i = l.length := by omega
        have HO6 := Lib.hid (show Own .u8 5 wr w.heap.size (.slice A' l.length c') (turnL l s o) by have h := HO.out; rw [List.take_of_length_le (by rw [turnL_len l s o HY.out]; omega)] at h; exact h)
        go_wp2_with fail
        go_ret
        exact ⟨_, _, rfl, HO6.out, hb⟩


theorem rturn_any (A : Option Addr) (l : List Int) (c : Nat) (s o : Int) (w : World) (hs : Sl .u8 w A l) (hl : l.length ≤ 1000000000) :
    Calls Try.prog 48 #[.slice A l.length c, .int .i64 s, .int .i64 o] w fun e w' => ∃ A' c', e = .returned (.slice A' (turnL l s o).length c') ∧ Own .u8 5 w' w.heap.size (.slice A' (turnL l s o).length c') (turnL l s o) ∧ Below w.heap.size w w' := by
  by_cases h : turnB s o = true
  · rw [turnL_len l s o h]
    obtain ⟨s, rfl⟩ := Int.eq_ofNat_of_zero_le (show 0 ≤ s by have := (turnB_t h).1; omega)
    exact rturn_yes A l c s o w hs hl h
  · have h' : turnB s o = false := by simpa using h
    have e : turnL l s o = [] := by unfold turnL; rw [if_neg h]
    rw [e]
    refine (rturn_no A l.length c s o w h').mono ?_
    rintro e w' ⟨rfl, hb⟩
    exact ⟨none, 0, rfl, Own.nil_ _ _ _ _, hb⟩
end Go.Proofs.Ytmdcdmgbillehaa
