/- Texts put together: OcM, OcA, OcB, OcC, OcD, OcE, OcF, OcG, OcH, OcI, OcJ, OcK, OcL. -/
import Derived.Test.YtkepbobnjplpoaaLb
import Derived.Laws.BitsAllLaws
import Derived.Test.YtkepbobnjplpoaaRows
import Derived.WalkKit
import Derived.Lib.Hide
import Derived.Outline
import Derived.OpenShut
import Derived.Maps.RangeWalk
import Derived.Maps.AppendAt
/- The plain law of numbers in bytes: what a number's bytes are, what bytes say, signed numbers, turned rows. No program in sight. -/
namespace Go.Tin
open Go.RowKit
set_option linter.unusedSimpArgs false
set_option linter.unusedVariables false

/-- One more than the greatest number of a size. -/
def topI (s : Int) : Int := if s = 1 then 256 else if s = 2 then 65536 else if s = 4 then 4294967296 else 0
def szB (s : Int) : Bool := decide (s = 1) || (decide (s = 2) || decide (s = 4))
def orB (o : Int) : Bool := decide (o = 1) || decide (o = 2)
/-- May a size and an order be? -/
def mayO (s o : Int) : Bool := szB s && orB o
theorem szB_t {s : Int} (h : szB s = true) : s = 1 ∨ s = 2 ∨ s = 4 := by unfold szB at h; simpa using h
theorem szB_f {s : Int} (h : szB s = false) : s ≠ 1 ∧ s ≠ 2 ∧ s ≠ 4 := by unfold szB at h; simpa using h
theorem orB_t {o : Int} (h : orB o = true) : o = 1 ∨ o = 2 := by unfold orB at h; simpa using h
theorem orB_f {o : Int} (h : orB o = false) : o ≠ 1 ∧ o ≠ 2 := by unfold orB at h; simpa using h
theorem topI_pos {s : Int} (h : szB s = true) : 256 ≤ topI s ∧ topI s ≤ 4294967296 := by
  rcases szB_t h with rfl | rfl | rfl <;> decide
theorem topI_no {s : Int} (h : szB s = false) : topI s = 0 := by
  obtain ⟨h1, h2, h4⟩ := szB_f h
  unfold topI
  rw [if_neg h1, if_neg h2, if_neg h4]

/-- The number of bytes, the greatest one first. -/
def be (l : List Int) : Int := l.foldl (fun n x => 256 * n + x) 0
theorem be_snoc (l : List Int) (x : Int) : be (l ++ [x]) = 256 * be l + x := by simp [be]
/-- Bytes in an order. -/
def ordL (o : Int) (l : List Int) : List Int := if o = 1 then l.reverse else l
/-- Is there a number of that size? -/
def getB (n : Nat) (at_ s o : Int) : Bool := mayO s o && (decide (0 ≤ at_) && decide (at_ ≤ (n : Int) - s))
def getN (l : List Int) (at_ s o : Int) : Int := if getB l.length at_ s o = true then be (ordL o ((l.drop at_.toNat).take s.toNat)) else 0
/-- A number's bytes, the greatest one first. -/
def bytesOf : Nat → Int → List Int
  | 0, _ => []
  | k + 1, n => bytesOf k (n / 256) ++ [n % 256]
theorem bytesOf_len : ∀ (k : Nat) (n : Int), (bytesOf k n).length = k
  | 0, _ => rfl
  | k + 1, n => by rw [bytesOf, List.length_append, bytesOf_len k]; rfl
def putB (n s o : Int) : Bool := mayO s o && (decide (0 ≤ n) && decide (n < topI s))
def putL (n s o : Int) : List Int := if putB n s o = true then ordL o (bytesOf s.toNat n) else []
def sgB (n s : Int) : Bool := decide (0 ≤ n) && decide (n < topI s)
def sgN (n s : Int) : Int := if sgB n s = true then (if topI s ≤ 2 * n then n - topI s else n) else 0
def plB (n s : Int) : Bool := decide (-(topI s / 2) ≤ n) && decide (n < topI s / 2)
def plN (n s : Int) : Int := if plB n s = true then (if n < 0 then n + topI s else n) else 0
def addB (a b : Int) : Bool := decide (0 ≤ a) && decide (0 ≤ b) && decide (a + b ≤ 4294967295)
def addN (a b : Int) : Int := if addB a b = true then a + b else 0
def roomB (a l e : Int) : Bool := decide (0 ≤ a) && (decide (0 ≤ l) && (decide (a ≤ e) && decide (l ≤ e - a)))
def evenN (n : Int) : Int := n + n % 2

/-- May bytes be turned so? -/
def turnB (s o : Int) : Bool := (szB s || decide (s = 8)) && orB o
/-- Which byte stands at a place behind the turn. -/
def turnI (n s : Nat) (o : Int) (i : Nat) : Nat := if o = 1 ∧ i < n - n % s then i - i % s + (s - 1 - i % s) else i
def turnL (l : List Int) (s o : Int) : List Int := if turnB s o = true then (List.range l.length).map (fun i => nth l (turnI l.length s.toNat o i)) else []

theorem i64_or_byte (n x : Int) (h0 : 0 ≤ n) (h1 : n < 4294967296) (x0 : 0 ≤ x) (x1 : x < 256) : bits .or .i64 (n * 256) x = n * 256 + x := by
  obtain ⟨a, rfl⟩ := Int.eq_ofNat_of_zero_le h0
  obtain ⟨b, rfl⟩ := Int.eq_ofNat_of_zero_le x0
  have ha : a < 4294967296 := by omega
  have hb : b < 256 := by omega
  have e1 : ((a : Int) * 256) = ((a * 256 : Nat) : Int) := by omega
  rw [e1]
  have h1 : (BitVec.ofInt 64 ((a * 256 : Nat) : Int)).toNat = a * 256 := by
    rw [BitVec.ofInt_natCast, BitVec.toNat_ofNat]; exact Nat.mod_eq_of_lt (by omega)
  have h2 : (BitVec.ofInt 64 (b : Int)).toNat = b := by
    rw [BitVec.ofInt_natCast, BitVec.toNat_ofNat]; exact Nat.mod_eq_of_lt (by omega)
  show IntKind.i64.wrap ((BitVec.ofInt 64 ((a * 256 : Nat) : Int) ||| BitVec.ofInt 64 (b : Int)).toNat : Int) = _
  rw [BitVec.toNat_or, h1, h2, nat_join 8 (a * 256) b (by omega) (by omega), wrap_i64]
  have : ((a * 256 + b : Nat) : Int) % 18446744073709551616 = ((a * 256 + b : Nat) : Int) := by omega
  rw [this, if_neg (by omega)]
  omega

theorem be_aux : ∀ (l : List Int) (m : Nat) (n : Int), 0 ≤ n → n < 256 ^ m → (∀ x ∈ l, 0 ≤ x ∧ x < 256) → 0 ≤ l.foldl (fun n x => 256 * n + x) n ∧ l.foldl (fun n x => 256 * n + x) n < 256 ^ (m + l.length)
  | [], _, _, h0, h1, _ => ⟨h0, h1⟩
  | x :: l, m, n, h0, h1, h => by
    obtain ⟨x0, x1⟩ := h x (by simp)
    have e : (256 : Int) ^ (m + 1) = 256 ^ m * 256 := Int.pow_succ ..
    have := be_aux l (m + 1) (256 * n + x) (by omega) (by omega) (fun y hy => h y (by simp [hy]))
    rw [List.foldl_cons, List.length_cons, show m + (l.length + 1) = m + 1 + l.length by omega]
    exact this
theorem be_bd (l : List Int) (h : ∀ x ∈ l, 0 ≤ x ∧ x < 256) : 0 ≤ be l ∧ be l < 256 ^ l.length := by
  have := be_aux l 0 0 (by omega) (by decide) h
  simpa [be] using this
end Go.Tin
/- The contracts of a size and an order: may, top. -/
namespace Go.Proofs.Ytkepbobnjplpoaa
open Go.RowKit
open Go.Tin
set_option linter.unusedVariables false
set_option linter.unusedSimpArgs false


theorem hcf (f : FuncId) (fn : Func) (c : Code) (hf : Try.prog.funcs[f]? = some fn) (hname : (fn.name == "runtime.NumGoroutine") = false) (hb : fn.body = some c) (vs : Array Value) (W : World) : (callFunc f vs).run Try.prog W = .ok (.enter f vs) W := by
  have hne : ¬ fn.name = "runtime.NumGoroutine" := by simpa using hname
  simp [callFunc, Sem.run_bind, run_program, hf, hb, hne]
theorem any_at (l : List Int) (q : Int → Bool) (j : Nat) (hj : j < l.length) (h : q (nth l j) = true) : l.any q = true := by
  rw [List.any_eq_true]
  exact ⟨l[j], List.getElem_mem hj, by simpa [nth, List.getD_eq_getElem?_getD, hj] using h⟩
theorem any_not (l : List Int) (q : Int → Bool) (h : ∀ j, j < l.length → q (nth l j) = false) : l.any q = false := by
  rw [List.any_eq_false]
  intro z hz
  obtain ⟨j, hj, rfl⟩ := List.mem_iff_getElem.1 hz
  have := h j hj
  simpa [nth, List.getD_eq_getElem?_getD, hj] using this

/- slices.ContainsFunc of integers ([]int), with a function that has captured one places. -/
theorem szB_any (s : Int) : ([1, 2, 4] : List Int).any (fun x => decide (x = s)) = szB s := by
  unfold szB
  simp only [List.any_cons, List.any_nil, Bool.or_false]
  rw [Bool.eq_iff_iff]
  simp only [Bool.or_eq_true, decide_eq_true_eq]
  omega

theorem rtop_any (s : Int) (w : World) : Calls Try.prog 70 #[.int .i64 s] w fun e w' => e = .returned (.int .i64 (topI s)) ∧ w = w' := by
  by_cases h1 : s = 1
  · subst h1
    go_enter Try.func70, Try.ntmps70
    go_wp2_with fail
    go_ret
    exact ⟨ret_int (by decide), rfl⟩
  by_cases h2 : s = 2
  · subst h2
    go_enter Try.func70, Try.ntmps70
    go_wp2_with fail
    go_ret
    exact ⟨ret_int (by decide), rfl⟩
  by_cases h4 : s = 4
  · subst h4
    go_enter Try.func70, Try.ntmps70
    go_wp2_with fail
    go_ret
    exact ⟨ret_int (by decide), rfl⟩
  have HR := Lib.hid (show topI s = 0 by unfold topI; rw [if_neg h1, if_neg h2, if_neg h4])
  have d1 : (s == 1) = false := by simpa using h1
  have d2 : (s == 2) = false := by simpa using h2
  have d4 : (s == 4) = false := by simpa using h4
  clear h1 h2 h4
  go_enter Try.func70, Try.ntmps70
  go_wp2_with fail
  go_ret
  exact ⟨ret_int (by rw [HR.out]), rfl⟩
end Go.Proofs.Ytkepbobnjplpoaa
/- The contracts of bytes compared, and of bytes in memory of their own. -/
namespace Go.Proofs.Ytkepbobnjplpoaa
open Go.RowKit
open Go.Tin
set_option linter.unusedVariables false
set_option linter.unusedSimpArgs false


theorem bt5 : ST Try.prog 40 5 .u8 1 := ST.of Try.underlying40 Try.underlying5 (by kernel_rfl)

/- Two slices of integers compared, number by number: tintyperef01.Same. -/
set_option maxRecDepth 100000 in
set_option maxHeartbeats 2000000 in
theorem same_any (A A' : Option Addr) (l m : List Int) (c d : Nat) (w : World) (hs : Sl .u8 w A l) (ht : Sl .u8 w A' m) (hl : l.length ≤ 1000000000) (hm : m.length ≤ 1000000000) :
    Calls Try.prog 41 #[.slice A l.length c, .slice A' m.length d] w fun e w' => e = .returned (.bool (decide (l = m))) ∧ Below w.heap.size w w' := by
  have HS := Lib.hid hs
  have HT := Lib.hid ht
  clear hs ht
  by_cases hlm : l.length = m.length
  · have hne : ((l.length : Int) != (m.length : Int)) = false := by simp [hlm]
    have HLM := Lib.hid hlm
    clear hlm
    go_enter Try.func41, Try.ntmps41
    go_wp2_with fail
    go_loopw [5] (fun s5 wr => ∃ i : Nat, i ≤ l.length ∧ s5 = .int .i64 (i : Int) ∧ l.take i = m.take i ∧ Below w.heap.size w wr) (fun s5 _ => l.length - (intOf s5).toNat)
    case atStart => exact ⟨0, by omega, rfl, by simp, brefl w⟩
    case round =>
      obtain ⟨i, hi, rfl, htk, hb⟩ := hrel
      have HTK := Lib.hid htk
      clear htk
      by_cases hil : i < l.length
      · have i1 : (i : Int) < (l.length : Int) := by omega
        have him : i < m.length := by have := HLM.out; omega
        have i2 : (i : Int) < (m.length : Int) := by omega
        obtain ⟨b, off, rfl, hlt, hcell⟩ := (HS.out.keep hb).at_ (by omega)
        obtain ⟨b', off', rfl, hlt', hcell'⟩ := (HT.out.keep hb).at_ (by omega)
        have k0 : wr.cell? ⟨b, off + i, none⟩ = some (.int .u8 (nth l i)) := hcell i hil
        have k1 : wr.cell? ⟨b', off' + i, none⟩ = some (.int .u8 (nth m i)) := hcell' i him
        have q0 : ∀ p : Bel wr.heap.size wr.drew, p.w'.cell? ⟨b, off + i, none⟩ = some (.int .u8 (nth l i)) := fun p => (p.h.cell (p := ⟨b, off + i, none⟩) hlt).trans k0
        have q1 : ∀ p : Bel wr.heap.size wr.drew, p.w'.cell? ⟨b', off' + i, none⟩ = some (.int .u8 (nth m i)) := fun p => (p.h.cell (p := ⟨b', off' + i, none⟩) hlt').trans k1
        clear hcell hcell' k0 k1
        go_wp2_with fail
        refine Tin.reg_begin wr.heap.size 9 (by rfl) (by kernel_rfl) ?_
        refine Tin.reg_quiets [0, 1, 2, 3, 4, 5, 6, 7, 8] _ 0 rfl (by simp only [Tin.pick, List.map_cons, List.map_nil, Array.getD_eq_getD_getElem?, List.getElem?_toArray, List.getElem?_cons_zero, List.getElem?_cons_succ, Option.getD_some]; rfl) (by kernel_rfl) (by kernel_rfl) ?_
        repeat (first | go_big_quiet_step (fail))
        refine wpQuiet_nil ?_
        refine Tin.reg_done (by kernel_rfl) ?_
        by_cases he : nth l i = nth m i
        · have e1 : (nth l i != nth m i) = false := by simp [he]
          have HE := Lib.hid he
          clear he
          go_wp2_with fail
          go_roundw
          case rel => exact ⟨i + 1, by omega, by go_num, take_eq_step HTK.out hil him HE.out, hb.drew⟩
          case measure => simp [intOf]; omega
        · have e1 : (nth l i != nth m i) = true := by simp [he]
          have HE := Lib.hid he
          clear he
          go_wp2_with fail
          go_ret
          exact ⟨ret_bool (by simp [nth_ne HE.out]), hb.drew⟩
      · obtain rfl : i = l.length := by omega
        go_wp2_with fail
        go_ret
        exact ⟨ret_bool (by have h := HTK.out; rw [List.take_length, HLM.out, List.take_length] at h; simp [h]), hb⟩
  · have hne : ((l.length : Int) != (m.length : Int)) = true := by simp; omega
    have HLM := Lib.hid hlm
    clear hlm
    go_enter Try.func41, Try.ntmps41
    go_wp2_with fail
    go_ret
    exact ⟨ret_bool (by simp; exact fun h => HLM.out (by rw [h])), brefl w⟩


theorem own_any (A : Option Addr) (l : List Int) (c : Nat) (w : World) (hs : Sl .u8 w A l) (hl : l.length ≤ 100000000) :
    Calls Try.prog 50 #[.slice A l.length c] w fun e w' => ∃ A' c', e = .returned (.slice A' l.length c') ∧ Own .u8 5 w' w.heap.size (.slice A' l.length c') l ∧ Below w.heap.size w w' := by
  have HS := Lib.hid hs
  clear hs
  go_enter Try.func50, Try.ntmps50
  have hown0 := Own.new0 (k := .u8) (e := 5) w
  have hb1 : Below w.heap.size w (w.alloc (.cells #[] 5)) := ba (brefl w) _
  go_wp2_with (at_builtin; refine Tin.wpl_app bt5 _ rfl (.tmp 3) (.tmp 4) rfl w.heap.size _ [] rfl hown0 A l.length c l rfl (HS.out.keep hb1) rfl (by rw [List.length_nil]; omega) (by rw [List.length_nil]; omega) (by simp) ?_; intro v6 w6 hown6 hg6 how6)
  simp only [List.nil_append] at hown6
  have hb6 := hown0.grown hb1 (by simp) hg6
  obtain ⟨A6, c6, rfl⟩ := own_form hown6
  go_ret
  exact ⟨A6, c6, rfl, hown6, hb6⟩
end Go.Proofs.Ytkepbobnjplpoaa
/- The contracts of Get and its reference: the number in bytes. -/
namespace Go.Proofs.Ytkepbobnjplpoaa
open Go.RowKit
open Go.Tin
set_option linter.unusedVariables false
set_option linter.unusedSimpArgs false


/-- The bytes of a number, in the order of their weight. -/
def segO (l : List Int) (a s o : Int) : List Int := ordL o ((l.drop a.toNat).take s.toNat)
theorem getB_t {n : Nat} {a s o : Int} (h : getB n a s o = true) : szB s = true ∧ orB o = true ∧ 0 ≤ a ∧ a ≤ (n : Int) - s := by
  unfold getB mayO at h
  simp only [Bool.and_eq_true, decide_eq_true_eq] at h
  exact ⟨h.1.1, h.1.2, h.2.1, h.2.2⟩
theorem seg_len (l : List Int) (a s : Nat) (h : a + s ≤ l.length) : ((l.drop a).take s).length = s := by
  rw [List.length_take, List.length_drop]; omega
theorem seg_nth (l : List Int) (a s i : Nat) (h : a + s ≤ l.length) (hi : i < s) : nth ((l.drop a).take s) i = nth l (a + i) := by
  unfold nth
  simp [List.getD_eq_getElem?_getD, hi]
theorem rev_nth (l : List Int) (i : Nat) (hi : i < l.length) : nth l.reverse i = nth l (l.length - 1 - i) := by
  unfold nth
  rw [List.getD_eq_getElem?_getD, List.getElem?_reverse hi, List.getD_eq_getElem?_getD]
theorem segO_len (l : List Int) (a s : Nat) (o : Int) (h : a + s ≤ l.length) : (segO l a s o).length = s := by
  unfold segO ordL
  split <;> simp [seg_len l a s h, List.length_reverse]
theorem segO_nth (l : List Int) (a s i : Nat) (o : Int) (h : a + s ≤ l.length) (hi : i < s) : nth (segO l a s o) i = nth l (if o = 1 then a + s - 1 - i else a + i) := by
  unfold segO ordL
  simp only [Int.toNat_natCast]
  split
  · rw [rev_nth _ _ (by rw [seg_len l a s h]; exact hi), seg_len l a s h, seg_nth l a s _ h (by omega)]
    congr 1
    omega
  · rw [seg_nth l a s i h hi]
theorem be_step (l : List Int) (i : Nat) (h : i < l.length) : be (l.take (i + 1)) = be (l.take i) * 256 + nth l i := by
  rw [take_snoc_nth l i h, be_snoc]; omega
def Byts (l : List Int) : Prop := ∀ x ∈ l, 0 ≤ x ∧ x < 256
theorem Byts.nth {l : List Int} (h : Byts l) (i : Nat) : 0 ≤ nth l i ∧ nth l i < 256 := by
  unfold Tin.nth
  rw [List.getD_eq_getElem?_getD]
  by_cases hj : i < l.length
  · rw [List.getElem?_eq_getElem hj]; exact h _ (List.getElem_mem hj)
  · rw [List.getElem?_eq_none (by omega)]; simp
theorem Byts.sub {l m : List Int} (h : Byts l) (hm : ∀ x ∈ m, x ∈ l) : Byts m := fun x hx => h x (hm x hx)
theorem Byts.seg {l : List Int} (h : Byts l) (a s o : Int) : Byts (segO l a s o) := h.sub fun x hx => by
  unfold segO ordL at hx
  have key : ∀ y, y ∈ (l.drop a.toNat).take s.toNat → y ∈ l := fun y hy => List.mem_of_mem_drop (List.mem_of_mem_take hy)
  split at hx
  · exact key x (List.mem_reverse.1 hx)
  · exact key x hx
theorem Byts.take {l : List Int} (h : Byts l) (i : Nat) : Byts (l.take i) := h.sub fun _ hx => List.mem_of_mem_take hx
theorem Byts.drop {l : List Int} (h : Byts l) (i : Nat) : Byts (l.drop i) := h.sub fun _ hx => List.mem_of_mem_drop hx
theorem byts_wf {l : List Int} (h : ∀ z ∈ l, (Lit.int .u8 z).wf = true) : Byts l := fun z hz => by
  have := Go.bounds_u8 (h z hz)
  omega
theorem ret_ib {a b : Int} {p q : Bool} (h : a = b) (h' : p = q) : Ending.returned (.tuple #[.int .i64 a, .bool p]) = .returned (.tuple #[.int .i64 b, .bool q]) := by rw [h, h']
theorem be_top {l : List Int} (h : Byts l) {k : Nat} (hk : l.length ≤ k) (hk4 : k ≤ 4) : 0 ≤ be l ∧ be l < 4294967296 ∧ (k ≤ 3 → be l < 16777216) := by
  obtain ⟨h0, h1⟩ := be_bd l h
  have key : (256 : Int) ^ l.length ≤ 256 ^ k := by
    rcases (by omega : k = 0 ∨ k = 1 ∨ k = 2 ∨ k = 3 ∨ k = 4) with rfl | rfl | rfl | rfl | rfl <;>
      (rcases (by omega : l.length = 0 ∨ l.length = 1 ∨ l.length = 2 ∨ l.length = 3 ∨ l.length = 4) with e | e | e | e | e <;> rw [e] at hk ⊢ <;> first | decide | omega)
  refine ⟨h0, ?_, fun hk3 => ?_⟩
  · have : (256 : Int) ^ k ≤ 256 ^ 4 := by rcases (by omega : k = 0 ∨ k = 1 ∨ k = 2 ∨ k = 3 ∨ k = 4) with rfl | rfl | rfl | rfl | rfl <;> decide
    have e : (256 : Int) ^ 4 = 4294967296 := by decide
    omega
  · have : (256 : Int) ^ k ≤ 256 ^ 3 := by rcases (by omega : k = 0 ∨ k = 1 ∨ k = 2 ∨ k = 3) with rfl | rfl | rfl | rfl <;> decide
    have e : (256 : Int) ^ 3 = 16777216 := by decide
    omega
end Go.Proofs.Ytkepbobnjplpoaa
/- The contract of the reference of Get: the number in bytes. -/
namespace Go.Proofs.Ytkepbobnjplpoaa
open Go.RowKit
open Go.Tin
set_option linter.unusedVariables false
set_option linter.unusedSimpArgs false


theorem be_acc : ∀ (t : List Int) (n : Int), t.foldl (fun n x => 256 * n + x) n = n * 256 ^ t.length + t.foldl (fun n x => 256 * n + x) 0
  | [], n => by simp
  | x :: t, n => by
    rw [List.foldl_cons, List.foldl_cons, be_acc t (256 * n + x), be_acc t (256 * 0 + x), List.length_cons, Int.pow_succ, Int.add_mul, Int.add_mul]
    have : 256 * n * 256 ^ t.length = n * (256 ^ t.length * 256) := by rw [Int.mul_comm 256 n, Int.mul_assoc, Int.mul_comm 256]
    omega
theorem be_cons (x : Int) (t : List Int) : be (x :: t) = x * 256 ^ t.length + be t := by
  unfold be
  rw [List.foldl_cons, be_acc]
  simp
theorem be_drop (q : List Int) (i : Nat) (h : i < q.length) : be (q.drop (q.length - (i + 1))) = be (q.drop (q.length - i)) + 256 ^ i * nth q (q.length - 1 - i) := by
  have e : q.length - (i + 1) = q.length - 1 - i := by omega
  rw [e, List.drop_eq_getElem_cons (by omega : q.length - 1 - i < q.length), be_cons, List.length_drop, show q.length - 1 - i + 1 = q.length - i by omega, show q.length - (q.length - i) = i by omega]
  have : nth q (q.length - 1 - i) = q[q.length - 1 - i]'(by omega) := by simp [nth, List.getD_eq_getElem?_getD, show q.length - 1 - i < q.length by omega]
  rw [this, Int.mul_comm, Int.add_comm]
theorem pw256 (i : Nat) (hi : i ≤ 4) : 1 ≤ (256 : Int) ^ i ∧ (256 : Int) ^ i ≤ 4294967296 := by
  rcases (by omega : i = 0 ∨ i = 1 ∨ i = 2 ∨ i = 3 ∨ i = 4) with rfl | rfl | rfl | rfl | rfl <;> decide

theorem getB_f {n : Nat} {a s o : Int} (h : getB n a s o = false) : szB s = false ∨ orB o = false ∨ a < 0 ∨ (n : Int) - s < a := by
  unfold getB mayO at h
  cases h1 : szB s
  · exact .inl rfl
  · cases h2 : orB o
    · exact .inr (.inl rfl)
    · rw [h1, h2] at h
      simp at h
      omega
theorem topI_eq0 (s : Int) : (topI s == 0) = !szB s := by
  cases h : szB s
  · rw [topI_no h]; rfl
  · have := topI_pos h
    simp; omega
end Go.Proofs.Ytkepbobnjplpoaa
/- The contract of Reverse: a part of a row of the call's own is turned. -/
namespace Go.Proofs.Ytkepbobnjplpoaa
open Go.RowKit
open Go.Tin
set_option linter.unusedVariables false
set_option linter.unusedSimpArgs false


/-- A row of which a part is turned, so far from both of its ends. -/
def revP (l : List Int) (off n t : Nat) : List Int := (List.range l.length).map fun q => if off ≤ q ∧ q < off + n ∧ (q < off + t ∨ off + n ≤ q + t) then nth l (off + (off + n) - 1 - q) else nth l q
def revF (l : List Int) (off n : Nat) : List Int := revP l off n n
@[simp] theorem revP_len (l : List Int) (off n t : Nat) : (revP l off n t).length = l.length := by simp [revP]
theorem revP_nth (l : List Int) (off n t q : Nat) (hq : q < l.length) : nth (revP l off n t) q = if off ≤ q ∧ q < off + n ∧ (q < off + t ∨ off + n ≤ q + t) then nth l (off + (off + n) - 1 - q) else nth l q := by
  conv => lhs; unfold nth revP
  simp [List.getD_eq_getElem?_getD, hq]
theorem revP_zero (l : List Int) (off n : Nat) : revP l off n 0 = l := by
  refine ext_nth (by simp) fun i hi => ?_
  rw [revP_len] at hi
  rw [revP_nth l off n 0 i hi, if_neg (by omega)]
theorem revP_step (l : List Int) (off n t : Nat) (h : t + t + 1 < n) (hfit : off + n ≤ l.length) : ((revP l off n t).set (off + t) (nth l (off + (n - 1 - t)))).set (off + (n - 1 - t)) (nth l (off + t)) = revP l off n (t + 1) := by
  refine ext_nth (by simp) fun i hi => ?_
  simp only [List.length_set, revP_len] at hi
  rw [nth_set _ _ _ _ (by simp; omega), nth_set _ _ _ _ (by simp; omega), revP_nth l off n t i hi, revP_nth l off n (t + 1) i hi]
  by_cases h1 : i = off + (n - 1 - t)
  · rw [if_pos h1, if_pos (by omega)]
    congr 1
    omega
  · rw [if_neg h1]
    by_cases h2 : i = off + t
    · rw [if_pos h2, if_pos (by omega)]
      congr 1
      omega
    · rw [if_neg h2]
      by_cases h3 : off ≤ i ∧ i < off + n ∧ (i < off + t ∨ off + n ≤ i + t)
      · rw [if_pos h3, if_pos (by omega)]
      · rw [if_neg h3, if_neg (by omega)]
theorem revP_end (l : List Int) (off n t : Nat) (h : n ≤ t + t + 1) : revP l off n t = revF l off n := by
  refine ext_nth (by simp [revF]) fun i hi => ?_
  rw [revP_len] at hi
  unfold revF
  rw [revP_nth l off n t i hi, revP_nth l off n n i hi]
  by_cases h1 : off ≤ i ∧ i < off + n
  · rw [if_pos (show off ≤ i ∧ i < off + n ∧ (i < off + n ∨ off + n ≤ i + n) by omega)]
    by_cases h2 : i < off + t ∨ off + n ≤ i + t
    · rw [if_pos ⟨h1.1, h1.2, h2⟩]
    · rw [if_neg (by omega)]
      congr 1
      omega
  · rw [if_neg (by omega), if_neg (by omega)]
theorem revP_old (l : List Int) (off n t q : Nat) (hq : off + q < l.length) (h1 : t ≤ q) (h2 : q + t < n) : nth (revP l off n t) (off + q) = nth l (off + q) := by
  rw [revP_nth l off n t _ hq, if_neg (by omega)]
theorem gd {w w' : World} {r : Option Nat} (h : w.grownBy w' r) : w.grownBy w'.drew r := ⟨h.os, h.tape, h.output, h.size, h.block⟩
theorem gb0 {w w' : World} {r : Option Nat} (h : w.grownBy w' r) : Below 0 w w' := ⟨h.os, h.tape, h.output, h.size, fun k hk => absurd hk (Nat.not_lt_zero _)⟩
end Go.Proofs.Ytkepbobnjplpoaa
/- The contract of Put: a number's bytes. -/
namespace Go.Proofs.Ytkepbobnjplpoaa
open Go.RowKit
open Go.Tin
set_option linter.unusedVariables false
set_option linter.unusedSimpArgs false


theorem bytesOf_cons : ∀ (k : Nat) (n : Int), bytesOf (k + 1) n = (n / 256 ^ k % 256) :: bytesOf k n
  | 0, n => by simp [bytesOf]
  | k + 1, n => by
    have e : n / 256 / 256 ^ k = n / 256 ^ (k + 1) := by
      rw [Int.ediv_ediv_of_nonneg (by decide), Int.pow_succ, Int.mul_comm]
    rw [bytesOf, bytesOf_cons k (n / 256), e]
    rfl
theorem revF_all (l : List Int) : revF l 0 l.length = l.reverse := by
  refine ext_nth (by simp [revF]) fun i hi => ?_
  have hi' : i < l.length := by simpa [revF] using hi
  unfold revF
  rw [revP_nth l 0 l.length l.length i hi', if_pos (by omega), rev_nth l i hi']
  congr 1
  omega
/-- So many low bytes told, noughts ahead. -/
def lowB (s i : Nat) (n : Int) : List Int := List.replicate (s - i) 0 ++ bytesOf i n
theorem lowB_len (s i : Nat) (n : Int) (h : i ≤ s) : (lowB s i n).length = s := by
  unfold lowB
  rw [List.length_append, List.length_replicate, bytesOf_len]
  omega
theorem lowB_set (s i : Nat) (n : Int) (h : i < s) : (lowB s i n).set (s - 1 - i) (n / 256 ^ i % 256) = lowB s (i + 1) n := by
  unfold lowB
  rw [bytesOf_cons, show s - i = s - 1 - i + 1 by omega, List.replicate_succ', show s - (i + 1) = s - 1 - i by omega, List.append_assoc, List.set_append_right _ _ (by simp)]
  simp
theorem lowB_all (s : Nat) (n : Int) : lowB s s n = bytesOf s n := by unfold lowB; simp
end Go.Proofs.Ytkepbobnjplpoaa
/- The contract of the reference of Put: a number's bytes. -/
namespace Go.Proofs.Ytkepbobnjplpoaa
open Go.RowKit
open Go.Tin
set_option linter.unusedVariables false
set_option linter.unusedSimpArgs false


theorem ordL_step1 (i : Nat) (n m x : Int) (hm : m = n / 256 ^ i) (hx : x = m % 256) : ordL 1 (bytesOf i n) ++ [x] = ordL 1 (bytesOf (i + 1) n) := by
  subst hm; subst hx
  rw [bytesOf_cons]
  simp [ordL]
theorem ordL_step2 (i : Nat) (n m x : Int) (hm : m = n / 256 ^ i) (hx : x = m % 256) : [x] ++ ordL 2 (bytesOf i n) = ordL 2 (bytesOf (i + 1) n) := by
  subst hm; subst hx
  rw [bytesOf_cons]
  simp [ordL]
theorem div_step (n m : Int) (i : Nat) (hm : m = n / 256 ^ i) : m / 256 = n / 256 ^ (i + 1) := by
  subst hm
  rw [Int.ediv_ediv_of_nonneg (Int.le_of_lt (Int.pow_pos (by decide))), Int.pow_succ]
theorem ordL_len (o : Int) (l : List Int) : (ordL o l).length = l.length := by unfold ordL; split <;> simp

set_option maxRecDepth 100000 in
set_option maxHeartbeats 1000000 in
theorem rput_yes (n : Int) (s : Nat) (o : Int) (w : World) (hy : putB n s o = true) :
    Calls Try.prog 65 #[.int .i64 n, .int .i64 (s : Int), .int .i64 o] w fun e w' => ∃ A c, e = .returned (.tuple #[.slice A s c, .bool true]) ∧ Own .u8 5 w' w.heap.size (.slice A s c) (putL n s o) ∧ Below w.heap.size w w' := by
  have hy2 := hy
  unfold putB mayO at hy2
  simp only [Bool.and_eq_true, decide_eq_true_eq] at hy2
  obtain ⟨⟨hz, ho⟩, n0, n1⟩ := hy2
  have hs4 : s ≤ 4 ∧ 1 ≤ s := by have := szB_t hz; omega
  have htop := topI_pos hz
  have ho' := orB_t ho
  have HP := Lib.hid (show putL n s o = ordL o (bytesOf s n) by unfold putL; rw [if_pos hy]; rfl)
  have d0 : decide (n < 0) = false := by simpa using n0
  have d1 : decide (topI s ≤ n) = false := by simpa using n1
  have d2 : decide (o < 1) = false := by simp; omega
  have d3 : decide (2 < o) = false := by simp; omega
  have HT := Lib.hid (rtop_any s w)
  generalize topI s = T at *
  clear hy hz ho
  go_enter Try.func65, Try.ntmps65
  go_wp2_with fail
  refine HT.out.mono ?_
  rintro e w2 ⟨rfl, rfl⟩
  go_wp2_with fail
  go_loopw [0, 8, 9] (fun s0 s8 s9 wr => ∃ (i : Nat) (m : Int) (A : Option Addr) (c : Nat), i ≤ s ∧ s9 = .int .i64 (i : Int) ∧ s0 = .int .i64 m ∧ m = n / 256 ^ i ∧ 0 ≤ m ∧ m < 4294967296 ∧ s8 = .slice A i c ∧ Own .u8 5 wr w.heap.size (.slice A i c) (ordL o (bytesOf i n)) ∧ Below w.heap.size w wr) (fun _ _ s9 _ => s - (intOf s9).toNat)
  case atStart => exact ⟨0, n, none, 0, by omega, rfl, rfl, by simp, n0, by omega, rfl, by unfold bytesOf ordL; simp; exact Own.nil_ _ _ _ _, brefl w⟩
  case round =>
    obtain ⟨i, m, A, c, hi, rfl, rfl, hm, m0, m1, rfl, hown, hb⟩ := hrel
    by_cases his : i < s
    · have i1 : (i : Int) < (s : Int) := by omega
      have HM := Lib.hid hm
      have HO := Lib.hid hown
      have hL := Lib.hid (show (ordL o (bytesOf i n)).length = i by rw [ordL_len, bytesOf_len])
      have hz := hb.size
      clear hm hown
      have HD := Lib.hid (div_step n m i HM.out)
      have hN : (Sl .u8 (wr.alloc (.cells #[.int .u8 (m % 256)] 5)) (some ⟨wr.heap.size, 0, none⟩) [m % 256]) := Sl.new_ wr _ _ _ rfl
      have hN2 := Own.lit (k := .u8) (e := 5) wr #[.int .u8 (m % 256)] [m % 256] 1 rfl rfl (by simp [maxLen])
      have hS := HO.out.sl'.2
      have HN := Lib.hid hN
      have HN2 := Lib.hid hN2
      have HS := Lib.hid hS
      clear hN hN2 hS
      rcases ho' with rfl | rfl
      · go_wp2_with (at_builtin; refine Tin.wpl_app bt5 _ rfl (.tmp 39) (.tmp 41) rfl w.heap.size _ _ rfl (HO.out.alloc _) (some ⟨wr.heap.size, 0, none⟩) 1 1 [m % 256] rfl HN.out rfl (by rw [hL.out]; simp; omega) (by rw [hL.out]; simp; omega) (by simp; omega) ?_; intro v4 w4 ho4 hg4 how4)
        have HO4 := Lib.hid (show Own .u8 5 w4 w.heap.size v4 (ordL 1 (bytesOf (i + 1) n)) by rw [← ordL_step1 i n m _ HM.out rfl]; exact ho4)
        obtain ⟨A4, c4, rfl⟩ := own_form HO4.out
        rw [ordL_len, bytesOf_len] at HO4
        have hb4 := (HO.out.alloc _).grown (hb.alloc hz (.cells #[.int .u8 (m % 256)] 5)) (by simp; omega) hg4
        clear ho4 hg4 how4
        simp only [ordL_len, bytesOf_len]
        go_wp2_with fail
        go_roundw
        case rel => exact ⟨i + 1, m / 256, A4, c4, by omega, by go_num, rfl, HD.out, by omega, by omega, rfl, HO4.out, hb4⟩
        case measure => simp [intOf]; omega
      · go_wp2_with (at_builtin; refine Tin.wpl_app bt5 _ rfl (.tmp 44) (.tmp 45) rfl wr.heap.size _ _ rfl HN2.out A i c (ordL 2 (bytesOf i n)) rfl (HS.out.keep (ba (brefl wr) _)) hL.out.symm (by rw [hL.out]; simp; omega) (by rw [hL.out]; simp; omega) (by simp) ?_; intro v4 w4 ho4 hg4 how4)
        have HO4 := Lib.hid (show Own .u8 5 w4 w.heap.size v4 (ordL 2 (bytesOf (i + 1) n)) by rw [← ordL_step2 i n m _ HM.out rfl]; exact ho4.mono hz)
        obtain ⟨A4, c4, rfl⟩ := own_form HO4.out
        rw [ordL_len, bytesOf_len] at HO4
        have hb4 := (HN2.out.mono hz).grown (hb.alloc hz (.cells #[.int .u8 (m % 256)] 5)) (by simp; omega) hg4
        clear ho4 hg4 how4
        simp only [ordL_len, bytesOf_len]
        go_wp2_with fail
        go_roundw
        case rel => exact ⟨i + 1, m / 256, A4, c4, by omega, by go_num, rfl, HD.out, by omega, by omega, rfl, HO4.out, hb4⟩
        case measure => simp [intOf]; omega
    · obtain rfl : i = s := by omega
      have HO := Lib.hid hown
      clear hown
      rw [← HP.out] at HO
      go_wp2_with fail
      go_ret2
      exact ⟨A, c, rfl, HO.out, hb⟩

theorem putB_f {n s o : Int} (h : putB n s o = false) : orB o = false ∨ n < 0 ∨ topI s ≤ n := by
  unfold putB mayO at h
  cases h2 : orB o
  · exact .inl rfl
  · cases h1 : szB s
    · have := topI_no h1
      omega
    · rw [h1, h2] at h
      simp at h
      omega
set_option maxRecDepth 100000 in
theorem rput_no (n s o : Int) (w : World) (hno : putB n s o = false) :
    Calls Try.prog 65 #[.int .i64 n, .int .i64 s, .int .i64 o] w fun e w' => e = .returned (.tuple #[.slice none 0 0, .bool false]) ∧ Below w.heap.size w w' := by
  have hf := putB_f hno
  clear hno
  by_cases h1 : o < 1
  · have d1 : decide (o < 1) = true := by simpa using h1
    clear hf h1
    go_enter Try.func65, Try.ntmps65
    go_wp2_with fail
    go_ret2
    exact ⟨rfl, brefl _⟩
  have d1 : decide (o < 1) = false := by simpa using h1
  by_cases h2 : 2 < o
  · have d2 : decide (2 < o) = true := by simpa using h2
    clear hf h1 h2
    go_enter Try.func65, Try.ntmps65
    go_wp2_with fail
    go_ret2
    exact ⟨rfl, brefl _⟩
  have d2 : decide (2 < o) = false := by simpa using h2
  have hf' : n < 0 ∨ topI s ≤ n := by
    rcases hf with h | h
    · have := orB_f h; omega
    · exact h
  clear hf h1 h2
  by_cases h3 : n < 0
  · have d3 : decide (n < 0) = true := by simpa using h3
    clear hf' h3
    go_enter Try.func65, Try.ntmps65
    go_wp2_with fail
    go_ret2
    exact ⟨rfl, brefl _⟩
  · have d3 : decide (n < 0) = false := by simpa using h3
    have d4 : decide (topI s ≤ n) = true := by simp; omega
    clear hf' h3
    go_enter Try.func65, Try.ntmps65
    go_wp2_with fail
    refine (rtop_any s w).mono ?_
    rintro e w1 ⟨rfl, rfl⟩
    go_wp2_with fail
    go_ret2
    exact ⟨rfl, brefl _⟩

theorem rput_any (n s o : Int) (w : World) :
    Calls Try.prog 65 #[.int .i64 n, .int .i64 s, .int .i64 o] w fun e w' => ∃ A c, e = .returned (.tuple #[.slice A (putL n s o).length c, .bool (putB n s o)]) ∧ Own .u8 5 w' w.heap.size (.slice A (putL n s o).length c) (putL n s o) ∧ Below w.heap.size w w' := by
  by_cases h : putB n s o = true
  · have hz : szB s = true := by
      have h2 := h
      unfold putB mayO at h2
      simp only [Bool.and_eq_true] at h2
      exact h2.1.1
    obtain ⟨s, rfl⟩ := Int.eq_ofNat_of_zero_le (show 0 ≤ s by have := szB_t hz; omega)
    refine (rput_yes n s o w h).mono ?_
    rintro e w' ⟨A, c, rfl, ho, hb⟩
    have hl : (putL n s o).length = s := by
      unfold putL ordL
      rw [if_pos h]
      split <;> simp [bytesOf_len]
    rw [hl, h]
    exact ⟨A, c, rfl, ho, hb⟩
  · have h' : putB n s o = false := by simpa using h
    have hl : putL n s o = [] := by unfold putL; rw [if_neg h]
    refine (rput_no n s o w h').mono ?_
    rintro e w' ⟨rfl, hb⟩
    rw [hl, h']
    exact ⟨none, 0, rfl, Own.nil_ _ _ _ _, hb⟩
end Go.Proofs.Ytkepbobnjplpoaa
/- The contracts of Signed and Plain. -/
namespace Go.Proofs.Ytkepbobnjplpoaa
open Go.RowKit
open Go.Tin
set_option linter.unusedVariables false
set_option linter.unusedSimpArgs false


theorem sz_no {s : Int} (hz : szB s = false) (n : Int) : sgB n s = false ∧ sgN n s = 0 ∧ plB n s = false ∧ plN n s = 0 := by
  have ht := topI_no hz
  have h1 : sgB n s = false := by unfold sgB; rw [ht]; simp
  have h2 : plB n s = false := by unfold plB; rw [ht]; simp
  refine ⟨h1, by unfold sgN; rw [h1]; rfl, h2, by unfold plN; rw [h2]; rfl⟩
end Go.Proofs.Ytkepbobnjplpoaa
/- The contracts of the references of Signed and Plain, of Add, Room, Even and theirs, and of what is asked of two answers. -/
namespace Go.Proofs.Ytkepbobnjplpoaa
open Go.RowKit
open Go.Tin
set_option linter.unusedVariables false
set_option linter.unusedSimpArgs false


set_option maxRecDepth 100000 in
set_option maxHeartbeats 1000000 in
theorem rplain_1 (n s : Int) (w : World) (eT : topI s = 256) : Calls Try.prog 63 #[.int .i64 n, .int .i64 s] w fun e w' => e = .returned (.tuple #[.int .i64 (plN n s), .bool (plB n s)]) ∧ w = w' := by
  have HT := Lib.hid (show ∀ W : World, Calls Try.prog 70 #[.int .i64 s] W fun e w' => e = .returned (.int .i64 256) ∧ W = w' from fun W => by rw [← eT]; exact rtop_any s W)
  have eH : topI s / 2 = 128 := by rw [eT]; rfl
  by_cases h1 : n < -128
  · have d1 : decide (n < -128) = true := by simpa using h1
    have hr : plB n s = false := by unfold plB; rw [eH]; simp; omega
    have HR := Lib.hid hr
    have HN := Lib.hid (show plN n s = 0 by unfold plN; rw [hr]; rfl)
    clear hr eT eH
    go_enter Try.func63, Try.ntmps63
    go_wp2_with (refine (HT.out _).mono ?_; rintro e w2 ⟨rfl, rfl⟩)
    go_ret2
    exact ⟨ret_ib HN.out.symm HR.out.symm, rfl⟩
  have d1 : decide (n < -128) = false := by simpa using h1
  by_cases h2 : 128 ≤ n
  · have d2 : decide (128 ≤ n) = true := by simpa using h2
    have hr : plB n s = false := by unfold plB; rw [eH]; simp; omega
    have HR := Lib.hid hr
    have HN := Lib.hid (show plN n s = 0 by unfold plN; rw [hr]; rfl)
    clear hr eT eH
    go_enter Try.func63, Try.ntmps63
    go_wp2_with (refine (HT.out _).mono ?_; rintro e w2 ⟨rfl, rfl⟩)
    go_ret2
    exact ⟨ret_ib HN.out.symm HR.out.symm, rfl⟩
  have d2 : decide (128 ≤ n) = false := by simpa using h2
  have hr : plB n s = true := by unfold plB; rw [eH]; simp; omega
  have HR := Lib.hid hr
  by_cases h3 : n < 0
  · have HN := Lib.hid (show plN n s = n + 256 by unfold plN; rw [if_pos hr, eT, if_pos (by omega)])
    clear hr eT eH
    go_enter Try.func63, Try.ntmps63
    go_wp2_with (refine (HT.out _).mono ?_; rintro e w2 ⟨rfl, rfl⟩)
    go_ret2
    exact ⟨ret_ib HN.out.symm HR.out.symm, rfl⟩
  · have h4 : 0 ≤ n := by omega
    have HN := Lib.hid (show plN n s = n by unfold plN; rw [if_pos hr, if_neg (by omega)])
    clear hr eT eH
    go_enter Try.func63, Try.ntmps63
    go_wp2_with (refine (HT.out _).mono ?_; rintro e w2 ⟨rfl, rfl⟩)
    go_ret2
    exact ⟨ret_ib HN.out.symm HR.out.symm, rfl⟩

set_option maxRecDepth 100000 in
set_option maxHeartbeats 1000000 in
theorem rplain_2 (n s : Int) (w : World) (eT : topI s = 65536) : Calls Try.prog 63 #[.int .i64 n, .int .i64 s] w fun e w' => e = .returned (.tuple #[.int .i64 (plN n s), .bool (plB n s)]) ∧ w = w' := by
  have HT := Lib.hid (show ∀ W : World, Calls Try.prog 70 #[.int .i64 s] W fun e w' => e = .returned (.int .i64 65536) ∧ W = w' from fun W => by rw [← eT]; exact rtop_any s W)
  have eH : topI s / 2 = 32768 := by rw [eT]; rfl
  by_cases h1 : n < -32768
  · have d1 : decide (n < -32768) = true := by simpa using h1
    have hr : plB n s = false := by unfold plB; rw [eH]; simp; omega
    have HR := Lib.hid hr
    have HN := Lib.hid (show plN n s = 0 by unfold plN; rw [hr]; rfl)
    clear hr eT eH
    go_enter Try.func63, Try.ntmps63
    go_wp2_with (refine (HT.out _).mono ?_; rintro e w2 ⟨rfl, rfl⟩)
    go_ret2
    exact ⟨ret_ib HN.out.symm HR.out.symm, rfl⟩
  have d1 : decide (n < -32768) = false := by simpa using h1
  by_cases h2 : 32768 ≤ n
  · have d2 : decide (32768 ≤ n) = true := by simpa using h2
    have hr : plB n s = false := by unfold plB; rw [eH]; simp; omega
    have HR := Lib.hid hr
    have HN := Lib.hid (show plN n s = 0 by unfold plN; rw [hr]; rfl)
    clear hr eT eH
    go_enter Try.func63, Try.ntmps63
    go_wp2_with (refine (HT.out _).mono ?_; rintro e w2 ⟨rfl, rfl⟩)
    go_ret2
    exact ⟨ret_ib HN.out.symm HR.out.symm, rfl⟩
  have d2 : decide (32768 ≤ n) = false := by simpa using h2
  have hr : plB n s = true := by unfold plB; rw [eH]; simp; omega
  have HR := Lib.hid hr
  by_cases h3 : n < 0
  · have HN := Lib.hid (show plN n s = n + 65536 by unfold plN; rw [if_pos hr, eT, if_pos (by omega)])
    clear hr eT eH
    go_enter Try.func63, Try.ntmps63
    go_wp2_with (refine (HT.out _).mono ?_; rintro e w2 ⟨rfl, rfl⟩)
    go_ret2
    exact ⟨ret_ib HN.out.symm HR.out.symm, rfl⟩
  · have h4 : 0 ≤ n := by omega
    have HN := Lib.hid (show plN n s = n by unfold plN; rw [if_pos hr, if_neg (by omega)])
    clear hr eT eH
    go_enter Try.func63, Try.ntmps63
    go_wp2_with (refine (HT.out _).mono ?_; rintro e w2 ⟨rfl, rfl⟩)
    go_ret2
    exact ⟨ret_ib HN.out.symm HR.out.symm, rfl⟩

set_option maxRecDepth 100000 in
set_option maxHeartbeats 1000000 in
theorem rplain_4 (n s : Int) (w : World) (eT : topI s = 4294967296) : Calls Try.prog 63 #[.int .i64 n, .int .i64 s] w fun e w' => e = .returned (.tuple #[.int .i64 (plN n s), .bool (plB n s)]) ∧ w = w' := by
  have HT := Lib.hid (show ∀ W : World, Calls Try.prog 70 #[.int .i64 s] W fun e w' => e = .returned (.int .i64 4294967296) ∧ W = w' from fun W => by rw [← eT]; exact rtop_any s W)
  have eH : topI s / 2 = 2147483648 := by rw [eT]; rfl
  by_cases h1 : n < -2147483648
  · have d1 : decide (n < -2147483648) = true := by simpa using h1
    have hr : plB n s = false := by unfold plB; rw [eH]; simp; omega
    have HR := Lib.hid hr
    have HN := Lib.hid (show plN n s = 0 by unfold plN; rw [hr]; rfl)
    clear hr eT eH
    go_enter Try.func63, Try.ntmps63
    go_wp2_with (refine (HT.out _).mono ?_; rintro e w2 ⟨rfl, rfl⟩)
    go_ret2
    exact ⟨ret_ib HN.out.symm HR.out.symm, rfl⟩
  have d1 : decide (n < -2147483648) = false := by simpa using h1
  by_cases h2 : 2147483648 ≤ n
  · have d2 : decide (2147483648 ≤ n) = true := by simpa using h2
    have hr : plB n s = false := by unfold plB; rw [eH]; simp; omega
    have HR := Lib.hid hr
    have HN := Lib.hid (show plN n s = 0 by unfold plN; rw [hr]; rfl)
    clear hr eT eH
    go_enter Try.func63, Try.ntmps63
    go_wp2_with (refine (HT.out _).mono ?_; rintro e w2 ⟨rfl, rfl⟩)
    go_ret2
    exact ⟨ret_ib HN.out.symm HR.out.symm, rfl⟩
  have d2 : decide (2147483648 ≤ n) = false := by simpa using h2
  have hr : plB n s = true := by unfold plB; rw [eH]; simp; omega
  have HR := Lib.hid hr
  by_cases h3 : n < 0
  · have HN := Lib.hid (show plN n s = n + 4294967296 by unfold plN; rw [if_pos hr, eT, if_pos (by omega)])
    clear hr eT eH
    go_enter Try.func63, Try.ntmps63
    go_wp2_with (refine (HT.out _).mono ?_; rintro e w2 ⟨rfl, rfl⟩)
    go_ret2
    exact ⟨ret_ib HN.out.symm HR.out.symm, rfl⟩
  · have h4 : 0 ≤ n := by omega
    have HN := Lib.hid (show plN n s = n by unfold plN; rw [if_pos hr, if_neg (by omega)])
    clear hr eT eH
    go_enter Try.func63, Try.ntmps63
    go_wp2_with (refine (HT.out _).mono ?_; rintro e w2 ⟨rfl, rfl⟩)
    go_ret2
    exact ⟨ret_ib HN.out.symm HR.out.symm, rfl⟩

theorem no_top (n s : Int) (eT : topI s = 0) : sgB n s = false ∧ sgN n s = 0 ∧ plB n s = false ∧ plN n s = 0 := by
  have h1 : sgB n s = false := by unfold sgB; rw [eT]; simp
  have h2 : plB n s = false := by unfold plB; rw [eT]; simp
  refine ⟨h1, by unfold sgN; rw [h1]; rfl, h2, by unfold plN; rw [h2]; rfl⟩
theorem rplain_0 (n s : Int) (w : World) (eT : topI s = 0) : Calls Try.prog 63 #[.int .i64 n, .int .i64 s] w fun e w' => e = .returned (.tuple #[.int .i64 (plN n s), .bool (plB n s)]) ∧ w = w' := by
  obtain ⟨_, _, h1, h2⟩ := no_top n s eT
  rw [h1, h2]
  clear h1 h2
  have HT := Lib.hid (show ∀ W : World, Calls Try.prog 70 #[.int .i64 s] W fun e w' => e = .returned (.int .i64 0) ∧ W = w' from fun W => by rw [← eT]; exact rtop_any s W)
  clear eT
  by_cases h3 : n < 0
  · go_enter Try.func63, Try.ntmps63
    go_wp2_with (refine (HT.out _).mono ?_; rintro e w2 ⟨rfl, rfl⟩)
    go_ret2
    exact ⟨rfl, rfl⟩
  · have h4 : 0 ≤ n := by omega
    go_enter Try.func63, Try.ntmps63
    go_wp2_with (refine (HT.out _).mono ?_; rintro e w2 ⟨rfl, rfl⟩)
    go_ret2
    exact ⟨rfl, rfl⟩
theorem top4 (s : Int) : topI s = 0 ∨ topI s = 256 ∨ topI s = 65536 ∨ topI s = 4294967296 := by unfold topI; split <;> (try split) <;> (try split) <;> simp
theorem rplain_any (n s : Int) (w : World) : Calls Try.prog 63 #[.int .i64 n, .int .i64 s] w fun e w' => e = .returned (.tuple #[.int .i64 (plN n s), .bool (plB n s)]) ∧ w = w' := by
  rcases top4 s with h | h | h | h
  · exact rplain_0 n s w h
  · exact rplain_1 n s w h
  · exact rplain_2 n s w h
  · exact rplain_4 n s w h
end Go.Proofs.Ytkepbobnjplpoaa
/- The contracts of Add, Room, Even and their references, and of what is asked of two answers. -/
namespace Go.Proofs.Ytkepbobnjplpoaa
open Go.RowKit
open Go.Tin
set_option linter.unusedVariables false
set_option linter.unusedSimpArgs false


def offB (n : Int) : Bool := decide (0 ≤ n) && decide (n ≤ 4294967295)
theorem offB_t {n : Int} (h : 0 ≤ n) (h' : n ≤ 4294967295) : offB n = true := by unfold offB; simp; omega
theorem offB_f {n : Int} (h : n < 0 ∨ 4294967295 < n) : offB n = false := by unfold offB; simp; omega
theorem i64_and1 (n : Int) : bits .and .i64 n 1 = n % 2 := by
  have h1 : (BitVec.ofInt 64 1).toNat = 2 ^ 1 - 1 := by decide
  have key : (BitVec.ofInt 64 n &&& BitVec.ofInt 64 1).toNat = (n % ((2 ^ 64 : Nat) : Int)).toNat % 2 ^ 1 := by
    rw [BitVec.toNat_and, BitVec.toNat_ofInt, h1, Nat.and_two_pow_sub_one_eq_mod]
  show IntKind.i64.wrap ((BitVec.ofInt 64 n &&& BitVec.ofInt 64 1).toNat : Nat) = n % 2
  rw [key, IntKind.wrap_i64]
  omega
theorem tmod2 (n : Int) : n.tmod 2 = 0 ∧ n % 2 = 0 ∨ n.tmod 2 ≠ 0 ∧ n % 2 = 1 := by
  rcases (by omega : n % 2 = 0 ∨ n % 2 = 1) with h | h
  · exact .inl ⟨by rw [Int.tmod_eq_emod]; simp [Int.dvd_of_emod_eq_zero h, h], h⟩
  · refine .inr ⟨fun h0 => ?_, h⟩
    have := Int.dvd_of_tmod_eq_zero h0
    omega
theorem even_any (n : Int) (w : World) (h : n < 9223372036854775806) (h' : -9223372036854775808 ≤ n) : Calls Try.prog 68 #[.int .i64 n] w fun e w' => e = .returned (.int .i64 (evenN n)) ∧ w = w' := by
  have hb := i64_and1 n
  go_enter Try.func68, Try.ntmps68
  go_wp2_with fail
  go_ret
  exact ⟨ret_int rfl, rfl⟩
theorem reven_any (n : Int) (w : World) (h : n < 9223372036854775806) (h' : -9223372036854775808 ≤ n) : Calls Try.prog 56 #[.int .i64 n] w fun e w' => e = .returned (.int .i64 (evenN n)) ∧ w = w' := by
  rcases tmod2 n with ⟨hm, he⟩ | ⟨hm, he⟩
  · have HR := Lib.hid (show evenN n = n by unfold evenN; omega)
    have d : ((n.tmod 2) != 0) = false := by simp [hm]
    clear hm he
    go_enter Try.func56, Try.ntmps56
    go_wp2_with fail
    go_ret
    exact ⟨ret_int HR.out.symm, rfl⟩
  · have HR := Lib.hid (show evenN n = n + 1 by unfold evenN; omega)
    have d : ((n.tmod 2) != 0) = true := by simp [hm]
    clear hm he
    go_enter Try.func56, Try.ntmps56
    go_wp2_with fail
    go_ret
    exact ⟨ret_int HR.out.symm, rfl⟩

/-- Is an answer that number, or none? -/
def isB (n : Int) (ok : Bool) (m : Int) (f : Bool) : Bool := decide (n = m) && (ok == f)
end Go.Proofs.Ytkepbobnjplpoaa
/- The contract of Turn: bytes turned, number by number. -/
namespace Go.Proofs.Ytkepbobnjplpoaa
open Go.RowKit
open Go.Tin
set_option linter.unusedVariables false
set_option linter.unusedSimpArgs false


/-- Turned up to a place. -/
def turnP (l : List Int) (s a : Nat) : List Int := (List.range l.length).map fun i => nth l (if i < a then i - i % s + (s - 1 - i % s) else i)
@[simp] theorem turnP_len (l : List Int) (s a : Nat) : (turnP l s a).length = l.length := by simp [turnP]
theorem turnP_nth (l : List Int) (s a i : Nat) (hi : i < l.length) : nth (turnP l s a) i = nth l (if i < a then i - i % s + (s - 1 - i % s) else i) := by
  conv => lhs; unfold nth turnP
  simp [List.getD_eq_getElem?_getD, hi]
theorem turnP_zero (l : List Int) (s : Nat) : turnP l s 0 = l := by
  refine ext_nth (by simp) fun i hi => ?_
  rw [turnP_len] at hi
  rw [turnP_nth l s 0 i hi, if_neg (by omega)]
theorem turnP_step (l : List Int) (s a t : Nat) (hs : s = 1 ∨ s = 2 ∨ s = 4 ∨ s = 8) (ha : a = s * t) (hfit : a + s ≤ l.length) : revF (turnP l s a) a s = turnP l s (a + s) := by
  refine ext_nth (by simp [revF]) fun i hi => ?_
  simp only [revF, revP_len, turnP_len] at hi
  unfold revF
  rw [revP_nth _ a s s i (by simpa using hi), turnP_nth l s (a + s) i hi]
  by_cases h1 : a ≤ i ∧ i < a + s
  · rw [if_pos (show a ≤ i ∧ i < a + s ∧ (i < a + s ∨ a + s ≤ i + s) by omega), if_pos h1.2, turnP_nth l s a _ (by omega), if_neg (by omega)]
    congr 1
    rcases hs with rfl | rfl | rfl | rfl <;> omega
  · rw [if_neg (by omega), turnP_nth l s a i hi]
    by_cases h2 : i < a
    · rw [if_pos h2, if_pos (by omega)]
    · rw [if_neg h2, if_neg (by omega)]
theorem turnB_t {s o : Int} (h : turnB s o = true) : (s = 1 ∨ s = 2 ∨ s = 4 ∨ s = 8) ∧ (o = 1 ∨ o = 2) := by
  unfold turnB at h
  rw [Bool.and_eq_true, Bool.or_eq_true] at h
  refine ⟨?_, orB_t h.2⟩
  rcases h.1 with h | h
  · have := szB_t h; omega
  · simp at h; omega
theorem turnP_end (l : List Int) (s a t : Nat) (hs : s = 1 ∨ s = 2 ∨ s = 4 ∨ s = 8) (ha : a = s * t) (h : l.length < a + s) (h' : a ≤ l.length) (hy : turnB s 1 = true) : turnP l s a = turnL l s 1 := by
  unfold turnL
  rw [if_pos hy]
  unfold turnP turnI
  refine List.map_congr_left fun i hi => ?_
  simp only [true_and, Int.toNat_natCast]
  have : l.length - l.length % s = a := by rcases hs with rfl | rfl | rfl | rfl <;> omega
  rw [this]
theorem turnL_big (l : List Int) (s : Int) (hy : turnB s 2 = true) : turnL l s 2 = l := by
  unfold turnL
  rw [if_pos hy]
  refine ext_nth (by simp) fun i hi => ?_
  have hi' : i < l.length := by simpa using hi
  unfold turnI
  conv => lhs; unfold nth
  simp [List.getD_eq_getElem?_getD, hi', nth]
theorem turnL_len (l : List Int) (s o : Int) (hy : turnB s o = true) : (turnL l s o).length = l.length := by
  unfold turnL
  rw [if_pos hy]
  simp
end Go.Proofs.Ytkepbobnjplpoaa
/- The contract of the reference of Turn: bytes turned, number by number. -/
namespace Go.Proofs.Ytkepbobnjplpoaa
open Go.RowKit
open Go.Tin
set_option linter.unusedVariables false
set_option linter.unusedSimpArgs false


theorem turnB_f {s o : Int} (h : turnB s o = false) : (szB s = false ∧ s ≠ 8) ∨ o < 1 ∨ 2 < o := by
  unfold turnB at h
  cases h2 : orB o
  · have := orB_f h2; omega
  · rw [h2] at h
    simp at h
    exact .inl ⟨h.1, h.2⟩
theorem topI_ne (s : Int) (h : topI s = 0) : (topI s == 0) = true := by simp [h]
/-- Where a number's byte stands behind its turn. -/
def turnK (i s : Nat) : Nat := i - i % s + (s - 1 - i % s)
theorem turnK_lt (i s n : Nat) (hs : 0 < s) (h : i < n - n % s) : turnK i s < n := by
  have h1 := Nat.div_add_mod i s
  have h2 := Nat.div_add_mod n s
  have h3 := Nat.mod_lt i hs
  have h4 : i / s < n / s := by
    apply Nat.lt_of_not_le
    intro h5
    have := Nat.mul_le_mul_left s h5
    omega
  have h6 : s * (i / s) + s ≤ s * (n / s) := by
    have := Nat.mul_le_mul_left s (show i / s + 1 ≤ n / s by omega)
    rw [Nat.mul_add, Nat.mul_one] at this
    exact this
  unfold turnK
  omega
theorem turnL_nth (l : List Int) (s : Nat) (o : Int) (i : Nat) (hy : turnB s o = true) (hi : i < l.length) : nth (turnL l s o) i = if o = 1 ∧ i < l.length - l.length % s then nth l (turnK i s) else nth l i := by
  unfold turnL
  rw [if_pos hy]
  conv => lhs; unfold nth
  simp only [List.getD_eq_getElem?_getD, List.getElem?_map, List.getElem?_range hi, Option.map_some, Option.getD_some, turnI, Int.toNat_natCast]
  split <;> rfl
end Go.Proofs.Ytkepbobnjplpoaa
