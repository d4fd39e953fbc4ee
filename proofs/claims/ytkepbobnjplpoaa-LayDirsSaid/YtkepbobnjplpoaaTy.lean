/- Texts put together: TyM, TyA, TyB, TyC, TyD, TyE, TyF, TyG, TyH, TyI, TyJ, TyN, TyO. -/
import Derived.Test.YtkepbobnjplpoaaOc
import Derived.Test.YtkepbobnjplpoaaLb
import Derived.Lib.BytesEntry
import Derived.Laws.BytesArg
import Derived.Lib.Bytes
/- Types: sizes, and what may be (no program in sight). -/
namespace Go.Proofs.Ytkepbobnjplpoaa
open Go.RowKit
open Go.Tin
set_option linter.unusedVariables false
set_option linter.unusedSimpArgs false


def szT (n : Int) : Int := if n = 1 ∨ n = 2 ∨ n = 6 ∨ n = 7 then 1 else if n = 3 ∨ n = 8 then 2 else if n = 4 ∨ n = 9 ∨ n = 11 then 4 else if n = 5 ∨ n = 10 ∨ n = 12 then 8 else 0
def prT (n : Int) : Int := if n = 5 ∨ n = 10 then 4 else szT n
def isT (n : Int) : Int := if n = 6 ∨ n = 8 ∨ n = 9 then 2 else if n = 5 then 3 else if n = 10 then 4 else if n = 11 ∨ n = 12 then 5 else if szT n = 0 then 0 else 1
theorem n13 {n : Int} (h0 : 0 ≤ n) (h1 : n ≤ 12) : n = 0 ∨ n = 1 ∨ n = 2 ∨ n = 3 ∨ n = 4 ∨ n = 5 ∨ n = 6 ∨ n = 7 ∨ n = 8 ∨ n = 9 ∨ n = 10 ∨ n = 11 ∨ n = 12 := by omega
theorem kd_no {n : Int} (h : n < 0 ∨ 12 < n) : szT n = 0 ∧ prT n = 0 ∧ isT n = 0 := by
  have h1 : szT n = 0 := by
    unfold szT
    rw [if_neg (by omega), if_neg (by omega), if_neg (by omega), if_neg (by omega)]
  refine ⟨h1, ?_, ?_⟩
  · unfold prT
    rw [if_neg (by omega), h1]
  · unfold isT
    rw [if_neg (by omega), if_neg (by omega), if_neg (by omega), if_neg (by omega), if_pos h1]
theorem szT_cases (n : Int) : (szT n = 0 ∧ (n ≤ 0 ∨ 12 < n)) ∨ (1 ≤ n ∧ n ≤ 12 ∧ (szT n = 1 ∨ szT n = 2 ∨ szT n = 4 ∨ szT n = 8)) := by
  by_cases h : n < 0 ∨ 12 < n
  · exact .inl ⟨(kd_no h).1, by omega⟩
  · rcases n13 (show 0 ≤ n by omega) (by omega) with rfl | rfl | rfl | rfl | rfl | rfl | rfl | rfl | rfl | rfl | rfl | rfl | rfl <;> decide
/-- The place of the first nought; -1: there is none. -/
def ix0 : List Int → Int
  | [] => -1
  | x :: l => if x = 0 then 0 else if ix0 l = -1 then -1 else ix0 l + 1
theorem ix0_cases : ∀ l : List Int, (ix0 l = -1 ∧ ∀ j, j < l.length → nth l j ≠ 0) ∨ ∃ m : Nat, ix0 l = (m : Int) ∧ m < l.length ∧ nth l m = 0 ∧ ∀ j, j < m → nth l j ≠ 0
  | [] => .inl ⟨rfl, fun j hj => by simp at hj⟩
  | x :: l => by
    by_cases hx : x = 0
    · exact .inr ⟨0, by unfold ix0; rw [if_pos hx]; rfl, by simp, hx, fun j hj => by omega⟩
    · rcases ix0_cases l with ⟨h, h2⟩ | ⟨m, h, h1, h2, h3⟩
      · refine .inl ⟨by unfold ix0; rw [if_neg hx, if_pos h], fun j hj => ?_⟩
        cases j with
        | zero => exact hx
        | succ j => exact h2 j (by simpa using hj)
      · refine .inr ⟨m + 1, by unfold ix0; rw [if_neg hx, if_neg (by omega), h]; rfl, by simpa using h1, h2, fun j hj => ?_⟩
        cases j with
        | zero => exact hx
        | succ j => exact h3 j (by omega)
theorem ix0_bd (l : List Int) : -1 ≤ ix0 l ∧ ix0 l < l.length ∨ ix0 l = -1 := by
  rcases ix0_cases l with ⟨h, _⟩ | ⟨m, h, h1, _⟩
  · exact .inr h
  · exact .inl ⟨by omega, by omega⟩
/-- A text: a nought at its end, and nowhere else. -/
def txB (l : List Int) : Bool := decide (ix0 l = (l.length : Int) - 1)
theorem tx_iff {l : List Int} (h0 : 0 < l.length) : txB l = true ↔ ∀ j, j < l.length → (nth l j = 0 ↔ j + 1 = l.length) := by
  unfold txB
  rw [decide_eq_true_eq]
  rcases ix0_cases l with ⟨h, h2⟩ | ⟨m, h, h1, h2, h3⟩
  · rw [h]
    constructor
    · intro e; omega
    · intro hh
      have := (hh (l.length - 1) (by omega)).2 (by omega)
      exact absurd this (h2 _ (by omega))
  · rw [h]
    constructor
    · intro e j hj
      constructor
      · intro hz
        have : ¬ j < m := fun hm => h3 j hm hz
        omega
      · intro hj'
        have : j = m := by omega
        rw [this]; exact h2
    · intro hh
      have := (hh m h1).1 h2
      omega
/-- May a value be? -/
def mayV (t c : Int) (l : List Int) : Bool := decide (szT t ≠ 0) && (decide (1 ≤ c) && (decide (c ≤ 65536) && (decide ((l.length : Int) = c * szT t) && (decide (t ≠ 2) || txB l))))
/-- What is made of bytes: the value's, and whether. -/
def ofB (k c : Int) (l : List Int) (o : Int) : Bool := decide (szT k ≠ 0) && (decide (1 ≤ c) && (decide (c ≤ 65536) && (decide (c * szT k ≤ (l.length : Int)) && mayV k c (turnL (l.take (c * szT k).toNat) (prT k) o))))
def ofL (k c : Int) (l : List Int) (o : Int) : List Int := if ofB k c l o then turnL (l.take (c * szT k).toNat) (prT k) o else []
def byV (t c : Int) (l : List Int) (o : Int) : List Int := if mayV t c l then turnL l (prT t) o else []
/-- A number that is nought where something is not. -/
def on (b : Bool) (n : Int) : Int := if b then n else 0
end Go.Proofs.Ytkepbobnjplpoaa
/- The contracts of a type's kind. -/
namespace Go.Proofs.Ytkepbobnjplpoaa
open Go.RowKit
open Go.Tin
set_option linter.unusedVariables false
set_option linter.unusedSimpArgs false


theorem wpl_index {P : Program} {ops : Array Oper} {rest : List Oper} {o : Oper} {a : Act} {w : World} {Q : Exit → Act → World → Prop} (hgd : o.guard = none) (t : TypeId) (x y : Operand) (ho : o.op = .index t x y)
    (vx vy : Value) (hx : a.eval x = vx) (hy : a.eval y = vy) (v : Value) (hrun : (Instr.index t vx vy).run P w = .ok v w) (h : wpList P ops Q rest (a.put o.dst v) w) : wpList P ops Q (o :: rest) a w := by
  refine wpList_plain hgd fun K hK => ?_
  unfold Oper.wp execOp
  simp only [ho, hx, hy, Sem.run_bind, Sem.run_pure, Result.andThen_ok, hrun]
  exact hK _ _ h
theorem wpl_field {P : Program} {ops : Array Oper} {rest : List Oper} {o : Oper} {a : Act} {w : World} {Q : Exit → Act → World → Prop} (hgd : Region.wanted o (yielded ops a.tmps) = true) (t : TypeId) (x : Operand) (i : Nat) (ho : o.op = .field t x i)
    (vx : Value) (hx : a.eval x = vx) (v : Value) (hrun : (Instr.field t vx i).run P w = .ok v w) (h : wpList P ops Q rest (a.put o.dst v) w) : wpList P ops Q (o :: rest) a w := by
  refine wpList_step fun K hK => ?_
  rw [if_pos hgd]
  unfold Oper.wp execOp
  simp only [ho, hx, Sem.run_bind, Sem.run_pure, Result.andThen_ok, hrun]
  exact hK _ _ h
theorem kd_0 (a b c : Value) (w : World) : (Instr.field 83 (.agg #[a, b, c]) 0).run Try.prog w = .ok a w := by kernel_rfl
theorem kd_1 (a b c : Value) (w : World) : (Instr.field 83 (.agg #[a, b, c]) 1).run Try.prog w = .ok b w := by kernel_rfl
theorem kd_2 (a b c : Value) (w : World) : (Instr.field 83 (.agg #[a, b, c]) 2).run Try.prog w = .ok c w := by kernel_rfl
theorem kdF0 (n : Int) (w : World) : (Instr.field 83 (.agg #[.int .i64 (szT n), .int .i64 (prT n), .int .i64 (isT n)]) 0).run Try.prog w = .ok (.int .i64 (szT n)) w := kd_0 _ _ _ _
theorem kdF1 (n : Int) (w : World) : (Instr.field 83 (.agg #[.int .i64 (szT n), .int .i64 (prT n), .int .i64 (isT n)]) 1).run Try.prog w = .ok (.int .i64 (prT n)) w := kd_1 _ _ _ _
theorem kdF2 (n : Int) (w : World) : (Instr.field 83 (.agg #[.int .i64 (szT n), .int .i64 (prT n), .int .i64 (isT n)]) 2).run Try.prog w = .ok (.int .i64 (isT n)) w := kd_2 _ _ _ _
def kdL : List Int := [0,0,0, 1,1,1, 1,1,1, 2,2,1, 4,4,1, 8,4,3, 1,1,2, 1,1,1, 2,2,2, 4,4,2, 8,4,4, 4,4,5, 8,8,5]
theorem rt72 : RT Try.prog 97 39 := RT.of Try.underlying97 rfl (by kernel_rfl)
theorem rtK : RT Try.prog 83 3 := RT.of Try.underlying83 rfl (by kernel_rfl)
theorem kd_idx (n : Nat) (hn : n < 13) (w : World) : (Instr.index 97 (.agg (arr .i64 kdL)) (.int .i64 (n : Int))).run Try.prog w = .ok (.agg #[.int .i64 (szT n), .int .i64 (prT n), .int .i64 (isT n)]) w := by
  rcases (by omega : n = 0 ∨ n = 1 ∨ n = 2 ∨ n = 3 ∨ n = 4 ∨ n = 5 ∨ n = 6 ∨ n = 7 ∨ n = 8 ∨ n = 9 ∨ n = 10 ∨ n = 11 ∨ n = 12) with rfl | rfl | rfl | rfl | rfl | rfl | rfl | rfl | rfl | rfl | rfl | rfl | rfl <;> kernel_rfl
set_option maxRecDepth 100000 in
theorem kinds_any (w : World) : Calls Try.prog 59 #[] w fun e w' => e = .returned (.agg (arr .i64 kdL)) ∧ Below w.heap.size w w' := by
  have HB := Lib.hid (fun o => ba (brefl w) o)
  have HR := Lib.hid (fun o => heap_alloc_new w o)
  go_enter Try.func59, Try.ntmps59
  go_wp2_with (first | (refine Tin.wpl_build rfl 97 _ rfl (.agg (arr .i64 kdL)) (by kernel_rfl) ?_; simp only [Act.put, List.setIfInBounds_toArray, List.set_cons_succ, List.set_cons_zero]) | ((with_reducible refine wpl_store_row rt72 ?_ (.tmp 0) (.tmp 13) ?_ (w.heap.size) ?_ (arr .i64 kdL) ?_ arr_one 97 ?_ _ ?_ (HR.out _) ?_); rfl; rfl; rfl; rfl; rfl; simp; intro w7 hr7 hg7 hs7; (try simp only [Act.put])))
  exact bodyPost_ret (res_row rt72 rfl _ _ w.heap.size 97 (arr .i64 kdL) rfl rfl hr7) rfl ⟨rfl, (HB.out _).grown hg7 (by simp) (fun k hk => by cases hk; exact Nat.le_refl _)⟩
set_option maxRecDepth 100000 in
theorem of_any (n : Int) (w : World) : Calls Try.prog 42 #[.int .i64 n] w fun e w' => e = .returned (.agg #[.int .i64 (szT n), .int .i64 (prT n), .int .i64 (isT n)]) ∧ Below w.heap.size w w' := by
  obtain ⟨W, hW⟩ : ∃ W, W = w.alloc (.cells #[.int .i64 0, .int .i64 0, .int .i64 0] 83) := ⟨_, rfl⟩
  have HB := Lib.hid (show Below w.heap.size w W by rw [hW]; exact ba (brefl w) (.cells #[.int .i64 0, .int .i64 0, .int .i64 0] 83))
  have HR := Lib.hid (show W.heap[w.heap.size]? = some (.cells #[.int .i64 0, .int .i64 0, .int .i64 0] 83 (0, 0)) by rw [hW]; exact heap_alloc_new w _)
  have HW := Lib.hid hW
  by_cases h0 : n < 0 ∨ 12 < n
  · have HK := Lib.hid (kd_no h0)
    by_cases h1 : n < 0
    · have d0 : decide (n < 0) = true := by simpa using h1
      clear h0 h1 hW
      go_enter Try.func42, Try.ntmps42
      go_wp2_with fail
      have hc : ((w.alloc (.cells #[.int .i64 0, .int .i64 0, .int .i64 0] 83))).heap[w.heap.size]? = some (.cells #[.int .i64 0, .int .i64 0, .int .i64 0] 83 (0, 0)) := heap_alloc_new w _
      exact bodyPost_ret (res_row rtK rfl _ _ w.heap.size 83 #[.int .i64 0, .int .i64 0, .int .i64 0] rfl rfl hc) rfl ⟨by rw [HK.out.1, HK.out.2.1, HK.out.2.2], ba (brefl w) _⟩
    · have d0 : decide (n < 0) = false := by simpa using h1
      have d1 : decide (12 < n) = true := by simp; omega
      clear h0 h1 hW
      go_enter Try.func42, Try.ntmps42
      go_wp2_with fail
      have hc : ((w.alloc (.cells #[.int .i64 0, .int .i64 0, .int .i64 0] 83))).heap[w.heap.size]? = some (.cells #[.int .i64 0, .int .i64 0, .int .i64 0] 83 (0, 0)) := heap_alloc_new w _
      exact bodyPost_ret (res_row rtK rfl _ _ w.heap.size 83 #[.int .i64 0, .int .i64 0, .int .i64 0] rfl rfl hc) rfl ⟨by rw [HK.out.1, HK.out.2.1, HK.out.2.2], ba (brefl w) _⟩
  · obtain ⟨m, rfl⟩ := Int.eq_ofNat_of_zero_le (show 0 ≤ n by omega)
    have hm : m < 13 := by omega
    have d0 : decide ((m : Int) < 0) = false := by simp
    have d1 : decide (12 < (m : Int)) = false := by simp; omega
    have HI := Lib.hid (kd_idx m hm)
    clear h0 hW
    go_enter Try.func42, Try.ntmps42
    go_wp2_with fail
    rw [← HW.out]
    refine (kinds_any _).mono ?_
    rintro e w1 ⟨rfl, hb⟩
    have HR1 := Lib.hid ((hb.block _ (row_lt HR.out)).trans HR.out)
    have HB1 := Lib.hid (HB.out.trans (hb.mono HB.out.size))
    clear hb HR HB HW
    go_wp2_with (first | ((with_reducible refine wpl_index ?_ 97 (.tmp 10) (.tmp 11) ?_ _ _ ?_ ?_ _ (HI.out _) ?_); rfl; rfl; rfl; rfl; simp only [Act.put, List.setIfInBounds_toArray, List.set_cons_succ, List.set_cons_zero]) | ((with_reducible refine wpl_store_row rtK ?_ (.tmp 2) (.tmp 12) ?_ (w.heap.size) ?_ #[.int .i64 (szT m), .int .i64 (prT m), .int .i64 (isT m)] ?_ ?_ 83 ?_ _ ?_ HR1.out ?_); rfl; rfl; rfl; rfl; (simp [Value.oneCell']); rfl; rfl; intro w7 hr7 hg7 hs7; (try simp only [Act.put])))
    exact bodyPost_ret (res_row rtK rfl _ _ w.heap.size 83 _ rfl rfl hr7) rfl ⟨rfl, HB1.out.grown hg7 HB1.out.size (fun k hk => by cases hk; exact Nat.le_refl _)⟩
theorem size_any (n : Int) (w : World) : Calls Try.prog 61 #[.int .i64 n] w fun e w' => e = .returned (.int .i64 (szT n)) ∧ Below w.heap.size w w' := by
  go_enter Try.func61, Try.ntmps61
  go_wp2_with fail
  refine (of_any n _).mono ?_
  rintro e w1 ⟨rfl, hb⟩
  go_wp2_with ((with_reducible refine wpl_field ?_ 83 (.tmp 4) 0 ?_ _ ?_ _ (kdF0 n _) ?_); rfl; rfl; rfl; simp only [Act.put, List.setIfInBounds_toArray, List.set_cons_succ, List.set_cons_zero])
  go_ret
  exact ⟨rfl, hb⟩
end Go.Proofs.Ytkepbobnjplpoaa
/- The contracts of IndexByte and of May. -/
namespace Go.Proofs.Ytkepbobnjplpoaa
open Go.RowKit
open Go.Tin
set_option linter.unusedVariables false
set_option linter.unusedSimpArgs false


theorem ix0_lib : ∀ {l : List Int}, Byts l → Lib.indexByte (Lib.bytesOf l) 0 = ix0 l
  | [], _ => rfl
  | x :: l, h => by
    have ih := ix0_lib (l := l) (h.sub fun y hy => List.mem_cons_of_mem _ hy)
    have hx := h x (List.mem_cons_self)
    have e : ((UInt8.ofNat x.toNat == (0 : UInt8)) = true) ↔ x = 0 := by
      rw [beq_iff_eq, ← UInt8.toNat_inj]
      have : (UInt8.ofNat x.toNat).toNat = x.toNat % 256 := by simp
      rw [this]
      show x.toNat % 256 = 0 ↔ x = 0
      omega
    show (if (UInt8.ofNat x.toNat == (0 : UInt8)) = true then (0 : Int) else if (Lib.indexByte (Lib.bytesOf l) 0 == -1) = true then -1 else Lib.indexByte (Lib.bytesOf l) 0 + 1) = _
    unfold ix0
    rw [ih]
    by_cases hx0 : x = 0
    · rw [if_pos (e.2 hx0), if_pos hx0]
    · rw [if_neg (fun hh => hx0 (e.1 hh)), if_neg hx0]
      simp only [beq_iff_eq]
theorem ixb_any (A : Option Addr) (l : List Int) (c : Nat) (w : World) (hs : Sl .u8 w A l) (hby : Byts l) :
    Calls Try.prog 43 #[.slice A l.length c, .int .u8 0] w fun e w' => e = .returned (.int .i64 (ix0 l)) ∧ w = w' := by
  have HR := Lib.hid (show (Extern.BytealgIndexByte.indexByte #[.slice A l.length c, .int .u8 0]).run Try.prog w = .ok (.int .i64 (ix0 l)) w by
    rw [← ix0_lib hby]
    by_cases h0 : 0 < l.length
    · obtain ⟨b, off, rfl, -, hc⟩ := hs.at_ h0
      exact Lib.run_indexByteSlice w b off l.length c l rfl (fun i hi => (hc i hi)) 0
    · have hl : l = [] := List.length_eq_zero_iff.1 (by omega)
      subst hl
      cases A with
      | none => exact Lib.run_indexByteNil w 0 c 0
      | some a =>
        obtain ⟨b, off, sp⟩ := a
        exact Lib.run_indexByteString (P := Try.prog) .empty 0 w)
  clear hs hby
  go_enter Try.func43, Try.ntmps43
  go_wp2_with fail
  rw [run_callFunc_extern Try.func60 (by kernel_rfl) (by kernel_rfl) (by kernel_rfl) (e := Extern.BytealgIndexByte.indexByte) (by kernel_rfl), HR.out]
  simp only [Result.andThen]
  rw [Oper.upon_value]
  go_wp2_with fail
  go_ret
  exact ⟨rfl, rfl⟩
end Go.Proofs.Ytkepbobnjplpoaa
/- The contract of May. -/
namespace Go.Proofs.Ytkepbobnjplpoaa
open Go.RowKit
open Go.Tin
set_option linter.unusedVariables false
set_option linter.unusedSimpArgs false


theorem ud {B : Nat} {w x : World} (h : Below B w.drew x) : Below B w x := ⟨h.os, h.tape, h.output, h.size, h.block⟩
theorem ud' {B : Nat} {w x : World} (h : Below B w x) : Below B w x.drew := ⟨h.os, h.tape, h.output, h.size, h.block⟩
theorem mayV_iff (t c : Int) (l : List Int) : mayV t c l = true ↔ (szT t ≠ 0 ∧ 1 ≤ c ∧ c ≤ 65536 ∧ (l.length : Int) = c * szT t ∧ (t = 2 → txB l = true)) := by
  unfold mayV
  simp only [Bool.and_eq_true, Bool.or_eq_true, decide_eq_true_eq]
  constructor
  · rintro ⟨h1, h2, h3, h4, h5⟩
    exact ⟨h1, h2, h3, h4, fun h => h5.resolve_left (fun hn => hn h)⟩
  · rintro ⟨h1, h2, h3, h4, h5⟩
    exact ⟨h1, h2, h3, h4, by by_cases h : t = 2; exact .inr (h5 h); exact .inl h⟩
theorem mayV_f {t c : Int} {l : List Int} (h : ¬ (szT t ≠ 0 ∧ 1 ≤ c ∧ c ≤ 65536 ∧ (l.length : Int) = c * szT t ∧ (t = 2 → txB l = true))) : mayV t c l = false := by
  rw [← mayV_iff] at h
  simpa using h
set_option maxRecDepth 100000 in
set_option maxHeartbeats 4000000 in
theorem vmay_any (t c : Int) (A : Option Addr) (l : List Int) (cap : Nat) (w : World) (hs : Sl .u8 w A l) (hl : l.length ≤ 1000000000) (hby : Byts l) :
    Calls Try.prog 21 #[.agg #[.int .i64 t, .int .i64 c, .slice A l.length cap]] w fun e w' => e = .returned (.bool (mayV t c l)) ∧ Below w.heap.size w w' := by
  have HBX := Lib.hid (ba (brefl w) (.cells #[.int .i64 t, .int .i64 c, .slice A l.length cap] 48))
  have HRX := Lib.hid (heap_alloc_new w (.cells #[.int .i64 t, .int .i64 c, .slice A l.length cap] 48))
  have HS := Lib.hid hs
  have HBY := Lib.hid hby
  clear hs hby
  have b0 := row_cell HRX.out 0 rfl
  go_enter Try.func21, Try.ntmps21
  go_wp2_with fail
  refine (of_any t _).mono ?_
  rintro e w1 ⟨rfl, hb⟩
  have HR1 := Lib.hid ((hb.block _ (row_lt HRX.out)).trans HRX.out)
  have HB1 := Lib.hid (HBX.out.trans (hb.mono HBX.out.size))
  clear hb HBX HRX b0
  have hlt : w.heap.size < w1.heap.size := row_lt HR1.out
  have HB2 := Lib.hid (ba HB1.out (.cells #[.int .i64 (szT t), .int .i64 (prT t), .int .i64 (isT t)] 83))
  have al := fun (j : Nat) (v : Value) (hv : w1.cell? ⟨w.heap.size, j, none⟩ = some v) => (World.cell?_alloc_lt w1 (.cells #[.int .i64 (szT t), .int .i64 (prT t), .int .i64 (isT t)] 83) ⟨w.heap.size, j, none⟩ hlt).trans hv
  have b0 := al 0 (.int .i64 t) (row_cell HR1.out 0 rfl)
  have b1 := al 1 (.int .i64 c) (row_cell HR1.out 1 rfl)
  have b2 := al 2 (.slice A l.length cap) (row_cell HR1.out 2 rfl)
  clear al
  have HSc := Lib.hid (szT_cases t)
  have HKF := Lib.hid (fun h => mayV_f (t := t) (c := c) (l := l) h)
  have HK2 := Lib.hid (mayV_iff t c l)
  by_cases h1 : szT t = 0
  · have d1 : (szT t == 0) = true := by simpa using h1
    have HK := Lib.hid (HKF.out (fun h => h.1 h1))
    clear h1
    go_wp2_with fail
    go_ret
    exact ⟨by rw [HK.out]; rfl, HB2.out⟩
  have d1 : (szT t == 0) = false := by simpa using h1
  by_cases h2 : c < 1
  · have d2 : decide (c < 1) = true := by simpa using h2
    have HK := Lib.hid (HKF.out (fun h => by omega))
    clear h1 h2
    go_wp2_with fail
    go_ret
    exact ⟨by rw [HK.out]; rfl, HB2.out⟩
  have d2 : decide (c < 1) = false := by simpa using h2
  by_cases h3 : 65536 < c
  · have d3 : decide (65536 < c) = true := by simpa using h3
    have HK := Lib.hid (HKF.out (fun h => by omega))
    clear h1 h2 h3
    go_wp2_with fail
    go_ret
    exact ⟨by rw [HK.out]; rfl, HB2.out⟩
  have d3 : decide (65536 < c) = false := by simpa using h3
  have HP := Lib.hid (show 0 ≤ c * szT t ∧ c * szT t ≤ 1000000 by
    rcases HSc.out with ⟨h, _⟩ | ⟨_, _, h | h | h | h⟩ <;> rw [h] <;> omega)
  have p0 := HP.out.1
  have p1 := HP.out.2
  by_cases h4 : (l.length : Int) = c * szT t
  case neg =>
    have d4 : ((l.length : Int) != c * szT t) = true := by simpa using h4
    have HK := Lib.hid (HKF.out (fun h => h4 h.2.2.2.1))
    clear h1 h2 h3 h4
    go_wp2_with fail
    go_ret
    exact ⟨by rw [HK.out]; rfl, HB2.out⟩
  have d4 : ((l.length : Int) != c * szT t) = false := by simpa using h4
  have hl1 : 1 ≤ l.length := by
    rcases HSc.out with ⟨h, _⟩ | ⟨_, _, h | h | h | h⟩
    · exact absurd h h1
    all_goals rw [h] at h4; omega
  by_cases h5 : t = 2
  case neg =>
    have d5 : (t != 2) = true := by simpa using h5
    have HK := Lib.hid (HK2.out.2 ⟨h1, by omega, by omega, h4, fun h => absurd h h5⟩)
    clear h1 h2 h3 h4 h5
    go_wp2_with fail
    generalize (w1.alloc (.cells #[.int .i64 (szT t), .int .i64 (prT t), .int .i64 (isT t)] 83)) = W at *
    have hltW : w.heap.size < W.heap.size := Nat.lt_of_not_le fun hh => by rw [World.cell?, Array.getElem?_eq_none hh] at b0; simp at b0
    have kb0 : ∀ p : Bel W.heap.size W.drew, p.w'.cell? ⟨w.heap.size, 0, none⟩ = some (.int .i64 t) := fun p => ((ud p.h).cell (p := ⟨w.heap.size, 0, none⟩) hltW).trans b0
    have kb2 : ∀ p : Bel W.heap.size W.drew, p.w'.cell? ⟨w.heap.size, 2, none⟩ = some (.slice A l.length cap) := fun p => ((ud p.h).cell (p := ⟨w.heap.size, 2, none⟩) hltW).trans b2
    refine Tin.reg_begin W.heap.size 14 (by rfl) (by kernel_rfl) ?_
    refine Tin.reg_quiets [0, 1, 2, 3, 4, 5, 7, 8, 9, 10] _ 4 rfl (by simp only [Tin.pick, List.map_cons, List.map_nil, Array.getD_eq_getD_getElem?, List.getElem?_toArray, List.getElem?_cons_zero, List.getElem?_cons_succ, Option.getD_some]; rfl) (by kernel_rfl) (by kernel_rfl) ?_
    repeat (first | go_big_quiet_step (fail))
    refine wpQuiet_nil ?_
    refine Tin.reg_one 6 _ rfl (by kernel_rfl) ?_
    try simp only [List.getElem_toArray, List.getElem_cons_succ, List.getElem_cons_zero]
    go_wp2_with fail
    refine ⟨W.heap.size, brefl W.drew, Nat.le_refl _, ?_⟩
    refine Tin.reg_quiets [11, 12, 13] _ 0 rfl (by simp only [Tin.pick, List.map_cons, List.map_nil, Array.getD_eq_getD_getElem?, List.getElem?_toArray, List.getElem?_cons_zero, List.getElem?_cons_succ, Option.getD_some]; rfl) (by kernel_rfl) (by kernel_rfl) ?_
    repeat (first | go_big_quiet_step (fail))
    refine wpQuiet_nil ?_
    refine Tin.reg_done (by kernel_rfl) ?_
    go_wp2_with fail
    go_ret
    exact ⟨by rw [HK.out]; rfl, ud' HB2.out⟩
  have d5 : (t != 2) = false := by simpa using h5
  have HK := Lib.hid (show mayV t c l = decide (ix0 l = (l.length : Int) - 1) by
    have h6 := HK2.out
    cases hm : mayV t c l with
    | true => exact (h6.1 hm |>.2.2.2.2 h5).symm
    | false =>
      have : ¬ txB l = true := fun hx => by
        have := h6.2 ⟨h1, by omega, by omega, h4, fun _ => hx⟩
        rw [hm] at this
        cases this
      unfold txB at this
      simpa using this)
  have HX := Lib.hid (ix0_bd l)
  clear h1 h2 h3 h4 h5
  go_wp2_with fail
  generalize (w1.alloc (.cells #[.int .i64 (szT t), .int .i64 (prT t), .int .i64 (isT t)] 83)) = W at *
  have hltW : w.heap.size < W.heap.size := Nat.lt_of_not_le fun hh => by rw [World.cell?, Array.getElem?_eq_none hh] at b0; simp at b0
  have kb0 : ∀ p : Bel W.heap.size W.drew, p.w'.cell? ⟨w.heap.size, 0, none⟩ = some (.int .i64 t) := fun p => ((ud p.h).cell (p := ⟨w.heap.size, 0, none⟩) hltW).trans b0
  have kb2 : ∀ p : Bel W.heap.size W.drew, p.w'.cell? ⟨w.heap.size, 2, none⟩ = some (.slice A l.length cap) := fun p => ((ud p.h).cell (p := ⟨w.heap.size, 2, none⟩) hltW).trans b2
  have HSW := Lib.hid (HS.out.keep (ud' HB2.out))
  refine Tin.reg_begin W.heap.size 14 (by rfl) (by kernel_rfl) ?_
  refine Tin.reg_quiets [0, 1, 2, 3, 4, 5, 7, 8, 9, 10] _ 4 rfl (by simp only [Tin.pick, List.map_cons, List.map_nil, Array.getD_eq_getD_getElem?, List.getElem?_toArray, List.getElem?_cons_zero, List.getElem?_cons_succ, Option.getD_some]; rfl) (by kernel_rfl) (by kernel_rfl) ?_
  repeat (first | go_big_quiet_step (fail))
  refine wpQuiet_nil ?_
  refine Tin.reg_one 6 _ rfl (by kernel_rfl) ?_
  try simp only [List.getElem_toArray, List.getElem_cons_succ, List.getElem_cons_zero]
  go_wp2_with fail
  refine (ixb_any A l cap _ HSW.out HBY.out).mono ?_
  rintro e w2 ⟨rfl, rfl⟩
  go_wp2_with fail
  refine ⟨W.heap.size, brefl W.drew, Nat.le_refl _, ?_⟩
  refine Tin.reg_quiets [11, 12, 13] _ 0 rfl (by simp only [Tin.pick, List.map_cons, List.map_nil, Array.getD_eq_getD_getElem?, List.getElem?_toArray, List.getElem?_cons_zero, List.getElem?_cons_succ, Option.getD_some]; rfl) (by kernel_rfl) (by kernel_rfl) ?_
  repeat (first | go_big_quiet_step (fail))
  refine wpQuiet_nil ?_
  refine Tin.reg_done (by kernel_rfl) ?_
  go_wp2_with fail
  go_ret
  exact ⟨by rw [HK.out]; rfl, ud' HB2.out⟩
end Go.Proofs.Ytkepbobnjplpoaa
/- The contracts of the reference's Size and Part, of signed, and of the sizes of values of entries. -/
namespace Go.Proofs.Ytkepbobnjplpoaa
open Go.RowKit
open Go.Tin
set_option linter.unusedVariables false
set_option linter.unusedSimpArgs false


theorem rsize_any (n : Int) (w : World) : Calls Try.prog 55 #[.int .i64 n] w fun e w' => e = .returned (.int .i64 (szT n)) ∧ w = w' := by
  by_cases h : n < 0 ∨ 12 < n
  · have HK := Lib.hid (kd_no h).1
    have d1 : (n == 1) = false := by simp; omega
    have d2 : (n == 2) = false := by simp; omega
    have d3 : (n == 3) = false := by simp; omega
    have d4 : (n == 4) = false := by simp; omega
    have d5 : (n == 5) = false := by simp; omega
    have d6 : (n == 6) = false := by simp; omega
    have d7 : (n == 7) = false := by simp; omega
    have d8 : (n == 8) = false := by simp; omega
    have d9 : (n == 9) = false := by simp; omega
    have d10 : (n == 10) = false := by simp; omega
    have d11 : (n == 11) = false := by simp; omega
    have d12 : (n == 12) = false := by simp; omega
    clear h
    go_enter Try.func55, Try.ntmps55
    go_wp2_with fail
    go_ret
    exact ⟨by rw [HK.out]; rfl, rfl⟩
  · rcases n13 (show 0 ≤ n by omega) (by omega) with rfl | rfl | rfl | rfl | rfl | rfl | rfl | rfl | rfl | rfl | rfl | rfl | rfl
    all_goals
      clear h
      go_enter Try.func55, Try.ntmps55
      go_wp2_with fail
      go_ret
      exact ⟨rfl, rfl⟩
theorem rpart_any (n : Int) (w : World) : Calls Try.prog 64 #[.int .i64 n] w fun e w' => e = .returned (.int .i64 (prT n)) ∧ w = w' := by
  by_cases h5 : n = 5
  · subst h5
    go_enter Try.func64, Try.ntmps64
    go_wp2_with fail
    go_ret
    exact ⟨rfl, rfl⟩
  by_cases h10 : n = 10
  · subst h10
    go_enter Try.func64, Try.ntmps64
    go_wp2_with fail
    go_ret
    exact ⟨rfl, rfl⟩
  have d5 : (n == 5) = false := by simpa using h5
  have d10 : (n == 10) = false := by simpa using h10
  have HK := Lib.hid (show prT n = szT n by unfold prT; rw [if_neg (by omega)])
  clear h5 h10
  go_enter Try.func64, Try.ntmps64
  go_wp2_with fail
  refine (rsize_any n _).mono ?_
  rintro e w1 ⟨rfl, rfl⟩
  go_wp2_with fail
  go_ret
  exact ⟨by rw [HK.out]; rfl, rfl⟩
def sgT (n : Int) : Bool := decide (n = 6 ∨ n = 8 ∨ n = 9 ∨ n = 10)
theorem rsgn_any (n : Int) (w : World) : Calls Try.prog 62 #[.int .i64 n] w fun e w' => e = .returned (.bool (sgT n)) ∧ w = w' := by
  by_cases h : n < 0 ∨ 12 < n
  · have HK := Lib.hid (show sgT n = false by unfold sgT; simp; omega)
    have d6 : (n == 6) = false := by simp; omega
    have d8 : (n == 8) = false := by simp; omega
    have d9 : (n == 9) = false := by simp; omega
    have d10 : (n == 10) = false := by simp; omega
    clear h
    go_enter Try.func62, Try.ntmps62
    go_wp2_with fail
    go_ret
    exact ⟨by rw [HK.out]; rfl, rfl⟩
  · rcases n13 (show 0 ≤ n by omega) (by omega) with rfl | rfl | rfl | rfl | rfl | rfl | rfl | rfl | rfl | rfl | rfl | rfl | rfl
    all_goals
      clear h
      go_enter Try.func62, Try.ntmps62
      go_wp2_with fail
      go_ret
      exact ⟨rfl, rfl⟩
end Go.Proofs.Ytkepbobnjplpoaa
/- The contract of the reference's May. -/
namespace Go.Proofs.Ytkepbobnjplpoaa
open Go.RowKit
open Go.Tin
set_option linter.unusedVariables false
set_option linter.unusedSimpArgs false


set_option maxRecDepth 100000 in
set_option maxHeartbeats 4000000 in
theorem rmay_any (t c : Int) (A : Option Addr) (l : List Int) (cap : Nat) (w : World) (hs : Sl .u8 w A l) (hl : l.length ≤ 1000000000) (hby : Byts l) :
    Calls Try.prog 33 #[.agg #[.int .i64 t, .int .i64 c, .slice A l.length cap]] w fun e w' => e = .returned (.bool (mayV t c l)) ∧ Below w.heap.size w w' := by
  obtain ⟨W, hW⟩ : ∃ W, W = w.alloc (.cells #[.int .i64 t, .int .i64 c, .slice A l.length cap] 48) := ⟨_, rfl⟩
  have HBX := Lib.hid (show Below w.heap.size w W by rw [hW]; exact ba (brefl w) _)
  have HRX := Lib.hid (show W.heap[w.heap.size]? = some (.cells #[.int .i64 t, .int .i64 c, .slice A l.length cap] 48 (0, 0)) by rw [hW]; exact heap_alloc_new w _)
  have HS := Lib.hid (hs.keep HBX.out)
  have HBY := Lib.hid hby
  have HCL := Lib.hid (show ∀ (V : World), Below W.heap.size W V → ∀ j v, (#[.int .i64 t, .int .i64 c, .slice A l.length cap] : Array Value)[j]? = some v → V.cell? ⟨w.heap.size, j, none⟩ = some v from fun V h j v hj => row_cell ((h.block _ (row_lt HRX.out)).trans HRX.out) j hj)
  have HSc := Lib.hid (szT_cases t)
  have HKF := Lib.hid (fun h => mayV_f (t := t) (c := c) (l := l) h)
  have HK2 := Lib.hid (mayV_iff t c l)
  have HB2 := Lib.hid (ud' HBX.out)
  have kb0 : ∀ p : Bel W.heap.size W.drew, p.w'.cell? ⟨w.heap.size, 0, none⟩ = some (.int .i64 t) := fun p => HCL.out _ (ud p.h) 0 _ rfl
  have kb1 : ∀ p : Bel W.heap.size W.drew, p.w'.cell? ⟨w.heap.size, 1, none⟩ = some (.int .i64 c) := fun p => HCL.out _ (ud p.h) 1 _ rfl
  have kb2 : ∀ p : Bel W.heap.size W.drew, p.w'.cell? ⟨w.heap.size, 2, none⟩ = some (.slice A l.length cap) := fun p => HCL.out _ (ud p.h) 2 _ rfl
  clear hs hby
  go_enter Try.func33, Try.ntmps33
  go_wp2_with fail
  rw [← hW]
  clear hW
  refine Tin.reg_begin W.heap.size 26 (by rfl) (by kernel_rfl) ?_
  refine Tin.reg_quiets [0, 1] _ 24 rfl (by simp only [Tin.pick, List.map_cons, List.map_nil, Array.getD_eq_getD_getElem?, List.getElem?_toArray, List.getElem?_cons_zero, List.getElem?_cons_succ, Option.getD_some]; rfl) (by kernel_rfl) (by kernel_rfl) ?_
  repeat (first | go_big_quiet_step (fail))
  refine wpQuiet_nil ?_
  refine Tin.reg_one 2 _ rfl (by kernel_rfl) ?_
  try simp only [List.getElem_toArray, List.getElem_cons_succ, List.getElem_cons_zero]
  go_wp2_with fail
  refine (rsize_any t _).mono ?_
  rintro e w1 ⟨rfl, rfl⟩
  go_wp2_with fail
  refine ⟨W.heap.size, brefl W.drew, Nat.le_refl _, ?_⟩
  by_cases h1 : szT t = 0
  · have d1 : (szT t == 0) = true := by simpa using h1
    have HK := Lib.hid (HKF.out (fun h => h.1 h1))
    clear h1
    refine Tin.reg_quiets [3, 4, 5, 6, 7, 8, 9, 10, 11, 12, 13, 14, 15, 16, 17, 18, 19, 20, 21] _ 4 rfl (by simp only [Tin.pick, List.map_cons, List.map_nil, Array.getD_eq_getD_getElem?, List.getElem?_toArray, List.getElem?_cons_zero, List.getElem?_cons_succ, Option.getD_some]; rfl) (by kernel_rfl) (by kernel_rfl) ?_
    repeat (first | go_big_quiet_step (fail))
    refine wpQuiet_nil ?_
    refine Tin.reg_one 22 _ rfl (by kernel_rfl) ?_
    try simp only [List.getElem_toArray, List.getElem_cons_succ, List.getElem_cons_zero]
    go_wp2_with fail
    refine ⟨W.heap.size, brefl W.drew, Nat.le_refl _, ?_⟩
    refine Tin.reg_quiets [23, 24, 25] _ 0 rfl (by simp only [Tin.pick, List.map_cons, List.map_nil, Array.getD_eq_getD_getElem?, List.getElem?_toArray, List.getElem?_cons_zero, List.getElem?_cons_succ, Option.getD_some]; rfl) (by kernel_rfl) (by kernel_rfl) ?_
    repeat (first | go_big_quiet_step (fail))
    refine wpQuiet_nil ?_
    refine Tin.reg_done (by kernel_rfl) ?_
    go_wp2_with fail
    go_ret
    exact ⟨by rw [HK.out]; rfl, HB2.out⟩

  have d1 : (szT t == 0) = false := by simpa using h1
  by_cases h2 : c < 1
  · have d2 : decide (c < 1) = true := by simpa using h2
    have HK := Lib.hid (HKF.out (fun h => by omega))
    clear h1 h2
    refine Tin.reg_quiets [3, 4, 5, 6, 7, 8, 9, 10, 11, 12, 13, 14, 15, 16, 17, 18, 19, 20, 21] _ 4 rfl (by simp only [Tin.pick, List.map_cons, List.map_nil, Array.getD_eq_getD_getElem?, List.getElem?_toArray, List.getElem?_cons_zero, List.getElem?_cons_succ, Option.getD_some]; rfl) (by kernel_rfl) (by kernel_rfl) ?_
    repeat (first | go_big_quiet_step (fail))
    refine wpQuiet_nil ?_
    refine Tin.reg_one 22 _ rfl (by kernel_rfl) ?_
    try simp only [List.getElem_toArray, List.getElem_cons_succ, List.getElem_cons_zero]
    go_wp2_with fail
    refine ⟨W.heap.size, brefl W.drew, Nat.le_refl _, ?_⟩
    refine Tin.reg_quiets [23, 24, 25] _ 0 rfl (by simp only [Tin.pick, List.map_cons, List.map_nil, Array.getD_eq_getD_getElem?, List.getElem?_toArray, List.getElem?_cons_zero, List.getElem?_cons_succ, Option.getD_some]; rfl) (by kernel_rfl) (by kernel_rfl) ?_
    repeat (first | go_big_quiet_step (fail))
    refine wpQuiet_nil ?_
    refine Tin.reg_done (by kernel_rfl) ?_
    go_wp2_with fail
    go_ret
    exact ⟨by rw [HK.out]; rfl, HB2.out⟩

  have d2 : decide (c < 1) = false := by simpa using h2
  by_cases h3 : 65536 < c
  · have d3 : decide (65536 < c) = true := by simpa using h3
    have HK := Lib.hid (HKF.out (fun h => by omega))
    clear h1 h2 h3
    refine Tin.reg_quiets [3, 4, 5, 6, 7, 8, 9, 10, 11, 12, 13, 14, 15, 16, 17, 18, 19, 20, 21] _ 4 rfl (by simp only [Tin.pick, List.map_cons, List.map_nil, Array.getD_eq_getD_getElem?, List.getElem?_toArray, List.getElem?_cons_zero, List.getElem?_cons_succ, Option.getD_some]; rfl) (by kernel_rfl) (by kernel_rfl) ?_
    repeat (first | go_big_quiet_step (fail))
    refine wpQuiet_nil ?_
    refine Tin.reg_one 22 _ rfl (by kernel_rfl) ?_
    try simp only [List.getElem_toArray, List.getElem_cons_succ, List.getElem_cons_zero]
    go_wp2_with fail
    refine ⟨W.heap.size, brefl W.drew, Nat.le_refl _, ?_⟩
    refine Tin.reg_quiets [23, 24, 25] _ 0 rfl (by simp only [Tin.pick, List.map_cons, List.map_nil, Array.getD_eq_getD_getElem?, List.getElem?_toArray, List.getElem?_cons_zero, List.getElem?_cons_succ, Option.getD_some]; rfl) (by kernel_rfl) (by kernel_rfl) ?_
    repeat (first | go_big_quiet_step (fail))
    refine wpQuiet_nil ?_
    refine Tin.reg_done (by kernel_rfl) ?_
    go_wp2_with fail
    go_ret
    exact ⟨by rw [HK.out]; rfl, HB2.out⟩

  have d3 : decide (65536 < c) = false := by simpa using h3
  have HP := Lib.hid (show 0 ≤ c * szT t ∧ c * szT t ≤ 1000000 by
    rcases HSc.out with ⟨h, _⟩ | ⟨_, _, h | h | h | h⟩ <;> rw [h] <;> omega)
  have p0 := HP.out.1
  have p1 := HP.out.2
  refine Tin.reg_quiets [3, 4, 5, 6, 7, 8, 9, 10, 11, 12, 13, 14, 15, 16, 17, 18, 19, 20, 21] _ 4 rfl (by simp only [Tin.pick, List.map_cons, List.map_nil, Array.getD_eq_getD_getElem?, List.getElem?_toArray, List.getElem?_cons_zero, List.getElem?_cons_succ, Option.getD_some]; rfl) (by kernel_rfl) (by kernel_rfl) ?_
  repeat (first | go_big_quiet_step (fail))
  refine wpQuiet_nil ?_
  refine Tin.reg_one 22 _ rfl (by kernel_rfl) ?_
  try simp only [List.getElem_toArray, List.getElem_cons_succ, List.getElem_cons_zero]
  go_wp2_with fail
  refine (rsize_any t _).mono ?_
  rintro e w1 ⟨rfl, rfl⟩
  go_wp2_with fail
  refine ⟨W.heap.size, brefl W.drew, Nat.le_refl _, ?_⟩
  by_cases h4 : (l.length : Int) = c * szT t
  case neg =>
    have d4 : ((l.length : Int) != c * szT t) = true := by simpa using h4
    have HK := Lib.hid (HKF.out (fun h => h4 h.2.2.2.1))
    clear h1 h2 h3 h4
    refine Tin.reg_quiets [23, 24, 25] _ 0 rfl (by simp only [Tin.pick, List.map_cons, List.map_nil, Array.getD_eq_getD_getElem?, List.getElem?_toArray, List.getElem?_cons_zero, List.getElem?_cons_succ, Option.getD_some]; rfl) (by kernel_rfl) (by kernel_rfl) ?_
    repeat (first | go_big_quiet_step (fail))
    refine wpQuiet_nil ?_
    refine Tin.reg_done (by kernel_rfl) ?_
    go_wp2_with fail
    go_ret
    exact ⟨by rw [HK.out]; rfl, HB2.out⟩
  have d4 : ((l.length : Int) != c * szT t) = false := by simpa using h4
  have hl1 : 1 ≤ l.length := by
    rcases HSc.out with ⟨h, _⟩ | ⟨_, _, h | h | h | h⟩
    · exact absurd h h1
    all_goals rw [h] at h4; omega
  refine Tin.reg_quiets [23, 24, 25] _ 0 rfl (by simp only [Tin.pick, List.map_cons, List.map_nil, Array.getD_eq_getD_getElem?, List.getElem?_toArray, List.getElem?_cons_zero, List.getElem?_cons_succ, Option.getD_some]; rfl) (by kernel_rfl) (by kernel_rfl) ?_
  repeat (first | go_big_quiet_step (fail))
  refine wpQuiet_nil ?_
  refine Tin.reg_done (by kernel_rfl) ?_
  have HK3 := Lib.hid (show (t ≠ 2 → mayV t c l = true) ∧ (t = 2 → mayV t c l = txB l) from ⟨fun h5 => HK2.out.2 ⟨h1, by omega, by omega, h4, fun h => absurd h h5⟩, fun h5 => by
    cases hx : txB l with
    | true => exact HK2.out.2 ⟨h1, by omega, by omega, h4, fun _ => hx⟩
    | false => exact HKF.out (fun h => by rw [h.2.2.2.2 h5] at hx; cases hx)⟩)
  have HTX := Lib.hid (tx_iff (l := l) (by omega))
  clear h1 h2 h3 h4 d1 d2 d3 d4 kb0 kb1 kb2 p0 p1 HP
  go_wp2_with fail
  have HS0 := Lib.hid (show Below W.heap.size W W.drew from ud' (brefl W))
  go_loopw [3] (fun s3 wr => ∃ i : Nat, i ≤ l.length ∧ s3 = .int .i64 (i : Int) ∧ (t ≠ 2 → i = 0) ∧ (∀ j, j < i → (nth l j = 0 ↔ j + 1 = l.length)) ∧ Below W.heap.size W wr) (fun s3 _ => l.length - (intOf s3).toNat)
  case atStart => exact ⟨0, by omega, rfl, fun _ => rfl, fun j hj => by omega, HS0.out⟩
  case round =>
    obtain ⟨i, hi, rfl, ht0, hev, hb⟩ := hrel
    have HT0 := Lib.hid ht0
    have HEV := Lib.hid hev
    have HB := Lib.hid hb
    clear ht0 hev hb
    have k0 := HCL.out _ HB.out 0 _ rfl
    have k2 := HCL.out _ HB.out 2 _ rfl
    by_cases h5 : t = 2
    case neg =>
      have hi0 := HT0.out h5
      subst hi0
      have d5 : (t == 2) = false := by simpa using h5
      have i1 : (0 : Int) < (l.length : Int) := by omega
      have HK := Lib.hid (HK3.out.1 h5)
      clear h5
      go_wp2_with fail
      go_ret
      exact ⟨by rw [HK.out]; rfl, HBX.out.trans (HB.out.mono HBX.out.size)⟩
    have d5 : (t == 2) = true := by simpa using h5
    by_cases hil : i < l.length
    case neg =>
      obtain rfl : i = l.length := by omega
      have HK := Lib.hid ((HK3.out.2 h5).trans (HTX.out.2 HEV.out))
      clear h5
      go_wp2_with fail
      go_ret
      exact ⟨by rw [HK.out]; rfl, HBX.out.trans (HB.out.mono HBX.out.size)⟩
    have i1 : (i : Int) < (l.length : Int) := by omega
    obtain ⟨b, off, rfl, hbl, hcl⟩ := HS.out.at_ (by omega)
    have kb2 : ∀ p : Bel W.heap.size wr.drew, p.w'.cell? ⟨w.heap.size, 2, none⟩ = some (.slice (some ⟨b, off, none⟩) l.length cap) := fun p => HCL.out _ (HB.out.trans (ud p.h)) 2 _ rfl
    have kx : ∀ p : Bel W.heap.size wr.drew, p.w'.cell? ⟨b, off + i, none⟩ = some (.int .u8 (nth l i)) := fun p => ((HB.out.trans (ud p.h)).cell (p := ⟨b, off + i, none⟩) hbl).trans (hcl i hil)
    have hj : (0 : Int) ≤ (l.length : Int) - 1 := by omega
    by_cases hx : (nth l i = 0 ↔ i + 1 = l.length)
    · have HX := Lib.hid (show (!((nth l i == 0) == ((i : Int) == (l.length : Int) - 1))) = false by
        have : (nth l i == 0) = ((i : Int) == (l.length : Int) - 1) := by
          rw [Bool.eq_iff_iff]
          simp only [beq_iff_eq]
          rw [hx]
          omega
        rw [this]
        simp)
      have hx' := HX.out
      have HXI := Lib.hid hx
      clear h5 hx hcl
      generalize nth l i = X at kx hx'
      go_wp2_with fail
      refine Tin.reg_begin W.heap.size 13 (by rfl) (by kernel_rfl) ?_
      refine Tin.reg_quiets [0, 1, 2, 3, 4, 5, 6, 7, 8, 9, 10, 11, 12] _ 0 rfl (by simp only [Tin.pick, List.map_cons, List.map_nil, Array.getD_eq_getD_getElem?, List.getElem?_toArray, List.getElem?_cons_zero, List.getElem?_cons_succ, Option.getD_some]; rfl) (by kernel_rfl) (by kernel_rfl) ?_
      repeat (first | go_big_quiet_step (fail))
      refine wpQuiet_nil ?_
      refine Tin.reg_done (by kernel_rfl) ?_
      go_wp2_with fail
      go_roundw
      case rel => exact ⟨i + 1, by omega, by go_num, (fun h => absurd (by simpa using d5) h), (fun j hj => by
        by_cases hji : j = i
        · subst hji; exact HXI.out
        · exact HEV.out j (by omega)), ud' HB.out⟩
      case measure => simp [intOf]; omega
    · have hx' : (!((nth l i == 0) == ((i : Int) == (l.length : Int) - 1))) = true := by
        have : ¬ (nth l i == 0) = ((i : Int) == (l.length : Int) - 1) := by
          rw [Bool.eq_iff_iff]
          simp only [beq_iff_eq]
          intro h
          apply hx
          rw [h]
          omega
        simpa using this
      have HK := Lib.hid (show mayV t c l = false by
        rw [HK3.out.2 h5]
        cases hh : txB l with
        | false => rfl
        | true => exact absurd (HTX.out.1 hh i hil) hx)
      clear h5 hx hcl
      generalize nth l i = X at kx hx'
      go_wp2_with fail
      refine Tin.reg_begin W.heap.size 13 (by rfl) (by kernel_rfl) ?_
      refine Tin.reg_quiets [0, 1, 2, 3, 4, 5, 6, 7, 8, 9, 10, 11, 12] _ 0 rfl (by simp only [Tin.pick, List.map_cons, List.map_nil, Array.getD_eq_getD_getElem?, List.getElem?_toArray, List.getElem?_cons_zero, List.getElem?_cons_succ, Option.getD_some]; rfl) (by kernel_rfl) (by kernel_rfl) ?_
      repeat (first | go_big_quiet_step (fail))
      refine wpQuiet_nil ?_
      refine Tin.reg_done (by kernel_rfl) ?_
      go_wp2_with fail
      go_ret
      exact ⟨by rw [HK.out]; rfl, HBX.out.trans ((ud' HB.out).mono HBX.out.size)⟩
end Go.Proofs.Ytkepbobnjplpoaa
/- The contracts of a value's bytes. -/
namespace Go.Proofs.Ytkepbobnjplpoaa
open Go.RowKit
open Go.Tin
set_option linter.unusedVariables false
set_option linter.unusedSimpArgs false


theorem rtV : RT Try.prog 48 3 := RT.of Try.underlying48 rfl (by kernel_rfl)
theorem wpq_field {P : Program} {t : TypeId} {ops : Array Oper} {C : World → Prop} {Q : Act → Prop} {a : Act} {o : Oper} {rest : List Oper} (hw : Region.wanted o (yielded ops a.tmps) = true) (x : Operand) (i : Nat) (ho : o.op = .field t x i)
    (vx : Value) (hx : a.eval x = vx) (v : Value) (hq : ∀ w, (Instr.field t vx i).run P w = .ok v w)
    (h : wpQuiet P ops C Q rest (a.put o.dst v)) : wpQuiet P ops C Q (o :: rest) a := by
  refine wpq_value _ hw (fun w hC => ?_) h
  unfold execOp
  simp only [ho, hx, Sem.run_bind, Sem.run_pure, Result.andThen_ok, hq]
end Go.Proofs.Ytkepbobnjplpoaa
/- The contract of Of: the value in bytes. -/
namespace Go.Proofs.Ytkepbobnjplpoaa
open Go.RowKit
open Go.Tin
set_option linter.unusedVariables false
set_option linter.unusedSimpArgs false


theorem turn_byts {l : List Int} (h : Byts l) (s o : Int) : Byts (turnL l s o) := by
  unfold turnL
  split
  · intro x hx
    obtain ⟨i, _, rfl⟩ := List.mem_map.1 hx
    exact h.nth _
  · intro x hx
    simp at hx
theorem turn_le (l : List Int) (s o : Int) : (turnL l s o).length ≤ l.length := by
  unfold turnL
  split
  · simp
  · simp
theorem ofB_f {k c : Int} {l : List Int} {o : Int} (h : szT k = 0 ∨ c < 1 ∨ 65536 < c ∨ (l.length : Int) < c * szT k) : ofB k c l o = false ∧ ofL k c l o = [] ∧ on (ofB k c l o) k = 0 ∧ on (ofB k c l o) c = 0 := by
  have hb : ofB k c l o = false := by
    unfold ofB
    rcases h with h | h | h | h
    · rw [decide_eq_false (by simp [h])]; rfl
    · rw [decide_eq_false (show ¬ 1 ≤ c by omega)]; simp
    · rw [decide_eq_false (show ¬ c ≤ 65536 by omega)]; simp
    · rw [decide_eq_false (show ¬ c * szT k ≤ (l.length : Int) by omega)]; simp
  refine ⟨hb, ?_, ?_, ?_⟩
  · unfold ofL; rw [hb]; rfl
  · rw [hb]; rfl
  · rw [hb]; rfl
theorem ofB_m {k c : Int} {l : List Int} {o : Int} (h1 : ¬ szT k = 0) (h2 : ¬ c < 1) (h3 : ¬ 65536 < c) (h4 : ¬ (l.length : Int) < c * szT k) : ofB k c l o = mayV k c (turnL (l.take (c * szT k).toNat) (prT k) o) := by
  unfold ofB
  rw [decide_eq_true (show szT k ≠ 0 from h1), decide_eq_true (show 1 ≤ c by omega), decide_eq_true (show c ≤ 65536 by omega), decide_eq_true (show c * szT k ≤ (l.length : Int) by omega)]
  simp
/-- The row of a value. -/
abbrev vrow (k c : Int) (A : Option Addr) (n cap : Nat) : Array Value := #[.int .i64 k, .int .i64 c, .slice A n cap]
theorem vrow_one (k c : Int) (A : Option Addr) (n cap : Nat) : (vrow k c A n cap).all (·.oneCell') = true := by simp [Value.oneCell']
end Go.Proofs.Ytkepbobnjplpoaa
/- The contract of the reference's Of: the value in bytes. -/
namespace Go.Proofs.Ytkepbobnjplpoaa
open Go.RowKit
open Go.Tin
set_option linter.unusedVariables false
set_option linter.unusedSimpArgs false


theorem ofB_o {k c : Int} {l : List Int} {o : Int} (h : o < 1 ∨ 2 < o) : ofB k c l o = false ∧ ofL k c l o = [] ∧ on (ofB k c l o) k = 0 ∧ on (ofB k c l o) c = 0 := by
  have hb : ofB k c l o = false := by
    by_cases h1 : szT k = 0
    · exact (ofB_f (.inl h1)).1
    by_cases h2 : c < 1
    · exact (ofB_f (.inr (.inl h2))).1
    by_cases h3 : 65536 < c
    · exact (ofB_f (.inr (.inr (.inl h3)))).1
    by_cases h4 : (l.length : Int) < c * szT k
    · exact (ofB_f (.inr (.inr (.inr h4)))).1
    rw [ofB_m h1 h2 h3 h4]
    have ht : turnL (l.take (c * szT k).toNat) (prT k) o = [] := by
      unfold turnL
      have : turnB (prT k) o = false := by
        unfold turnB orB
        rw [decide_eq_false (show ¬ o = 1 by omega), decide_eq_false (show ¬ o = 2 by omega)]
        simp
      rw [this]
      rfl
    rw [ht]
    refine mayV_f fun hh => ?_
    have h5 := hh.2.2.2.1
    rcases szT_cases k with ⟨h, _⟩ | ⟨_, _, h | h | h | h⟩ <;> rw [h] at h5 h1 <;> simp at h5 <;> omega
  refine ⟨hb, ?_, ?_, ?_⟩
  · unfold ofL; rw [hb]; rfl
  · rw [hb]; rfl
  · rw [hb]; rfl
end Go.Proofs.Ytkepbobnjplpoaa
/- The contracts of values compared, and of values in memory of their own. -/
namespace Go.Proofs.Ytkepbobnjplpoaa
open Go.RowKit
open Go.Tin
set_option linter.unusedVariables false
set_option linter.unusedSimpArgs false


theorem strOf_nums (l : List Int) : strOf l = strOfNums l := by
  unfold strOf
  rw [foldl_push_bytes]
  apply ByteArray.ext
  simp [strOfNums]
theorem str_eq {l m : List Int} (h : Byts l) (h' : Byts m) : ((strOf l).toList == (strOf m).toList) = decide (l = m) := by
  rw [Bool.eq_iff_iff, beq_iff_eq, decide_eq_true_eq]
  constructor
  · intro e
    rw [strOf_nums, strOf_nums, Lib.strOfNums_toList, Lib.strOfNums_toList] at e
    have e1 : l.map (fun n => UInt8.ofNat n.toNat) = m.map fun n => UInt8.ofNat n.toNat := e
    have e2 : ∀ {k : List Int}, Byts k → (k.map (fun n => UInt8.ofNat n.toNat)).map (fun b : UInt8 => (b.toNat : Int)) = k := by
      intro k hk
      rw [List.map_map]
      refine (List.map_congr_left fun x hx => ?_).trans (List.map_id k)
      have := hk x hx
      show (((UInt8.ofNat x.toNat).toNat : Nat) : Int) = x
      have : (UInt8.ofNat x.toNat).toNat = x.toNat % 256 := by simp
      rw [this]
      omega
    rw [← e2 h, ← e2 h', e1]
  · intro e; rw [e]
def smV (t c : Int) (l : List Int) (t' c' : Int) (l' : List Int) : Bool := t == t' && (c == c' && decide (l = l'))
set_option maxRecDepth 100000 in
set_option maxHeartbeats 4000000 in
theorem rvsame_any (t c : Int) (A : Option Addr) (l : List Int) (cap : Nat) (t' c' : Int) (A' : Option Addr) (l' : List Int) (cap' : Nat) (w : World) (hs : Sl .u8 w A l) (ht : Sl .u8 w A' l') (hl : l.length ≤ 1000000000) (hl' : l'.length ≤ 1000000000) :
    Calls Try.prog 58 #[.agg #[.int .i64 t, .int .i64 c, .slice A l.length cap], .agg #[.int .i64 t', .int .i64 c', .slice A' l'.length cap']] w fun e w' => e = .returned (.bool (smV t c l t' c' l')) ∧ Below w.heap.size w w' := by
  have HB := Lib.hid (ba (ba (brefl w) (.cells #[.int .i64 t, .int .i64 c, .slice A l.length cap] 48)) (.cells #[.int .i64 t', .int .i64 c', .slice A' l'.length cap'] 48))
  have HS := Lib.hid (hs.keep HB.out)
  have HT := Lib.hid (ht.keep HB.out)
  have HV := Lib.hid (show smV t c l t' c' l' = (t == t' && (c == c' && decide (l = l'))) from rfl)
  clear hs ht
  by_cases h1 : t = t'
  case neg =>
    have d1 : (t == t') = false := by simpa using h1
    clear h1
    go_enter Try.func58, Try.ntmps58
    go_wp2_with fail
    go_ret
    exact ⟨by rw [HV.out, d1]; rfl, HB.out⟩
  have d1 : (t == t') = true := by simpa using h1
  by_cases h2 : c = c'
  case neg =>
    have d2 : (c == c') = false := by simpa using h2
    clear h1 h2
    go_enter Try.func58, Try.ntmps58
    go_wp2_with fail
    go_ret
    exact ⟨by rw [HV.out, d1, d2]; rfl, HB.out⟩
  have d2 : (c == c') = true := by simpa using h2
  clear h1 h2
  go_enter Try.func58, Try.ntmps58
  go_wp2_with fail
  refine (same_any A A' l l' cap cap' _ HS.out HT.out hl hl').mono ?_
  rintro e w3 ⟨rfl, hb3⟩
  go_wp2_with fail
  go_ret
  exact ⟨by rw [HV.out, d1, d2]; rfl, HB.out.trans (hb3.mono HB.out.size)⟩
end Go.Proofs.Ytkepbobnjplpoaa
/- The contract of a value in memory of its own. -/
namespace Go.Proofs.Ytkepbobnjplpoaa
open Go.RowKit
open Go.Tin
set_option linter.unusedVariables false
set_option linter.unusedSimpArgs false


set_option maxRecDepth 100000 in
set_option maxHeartbeats 4000000 in
theorem vown_any (t c : Int) (A : Option Addr) (l : List Int) (cap : Nat) (w : World) (hs : Sl .u8 w A l) (hl : l.length ≤ 100000000) :
    Calls Try.prog 66 #[.agg #[.int .i64 t, .int .i64 c, .slice A l.length cap]] w fun e w' => ∃ A' c', e = .returned (.agg (vrow t c A' l.length c')) ∧ Own .u8 5 w' w.heap.size (.slice A' l.length c') l ∧ Below w.heap.size w w' := by
  obtain ⟨W, hW⟩ : ∃ W, W = (w.alloc (.cells (vrow t c A l.length cap) 48)).alloc (.cells (vrow 0 0 none 0 0) 48) := ⟨_, rfl⟩
  have HB := Lib.hid (show Below w.heap.size w W by rw [hW]; exact ba (ba (brefl w) _) _)
  have HX := Lib.hid (show W.heap[w.heap.size]? = some (.cells (vrow t c A l.length cap) 48 (0, 0)) by rw [hW, Below.heap_alloc _ _ _ (by simp)]; exact heap_alloc_new w _)
  have HR := Lib.hid (show W.heap[w.heap.size + 1]? = some (.cells (vrow 0 0 none 0 0) 48 (0, 0)) by
    have := heap_alloc_new (w.alloc (.cells (vrow t c A l.length cap) 48)) (.cells (vrow 0 0 none 0 0) 48)
    rw [hW]
    simpa using this)
  have hsz : W.heap.size = w.heap.size + 2 := by rw [hW]; simp
  have HBD := Lib.hid (ud' HB.out)
  have HS := Lib.hid (hs.keep HBD.out)
  have kb0 : ∀ p : Bel (w.heap.size + 1) W.drew, p.w'.cell? ⟨w.heap.size, 0, none⟩ = some (.int .i64 t) := fun p => row_cell (((ud p.h).block _ (Nat.lt_succ_self _)).trans HX.out) 0 rfl
  have kb1 : ∀ p : Bel (w.heap.size + 1) W.drew, p.w'.cell? ⟨w.heap.size, 1, none⟩ = some (.int .i64 c) := fun p => row_cell (((ud p.h).block _ (Nat.lt_succ_self _)).trans HX.out) 1 rfl
  have kb2 : ∀ p : Bel (w.heap.size + 1) W.drew, p.w'.cell? ⟨w.heap.size, 2, none⟩ = some (.slice A l.length cap) := fun p => row_cell (((ud p.h).block _ (Nat.lt_succ_self _)).trans HX.out) 2 rfl
  clear hs
  go_enter Try.func66, Try.ntmps66
  go_wp2_with fail
  rw [← hW]
  clear hW
  refine Tin.reg_begin (w.heap.size + 1) 9 (by rfl) (by kernel_rfl) ?_
  refine Tin.reg_quiets [0, 1, 2, 3, 4, 5] _ 3 rfl (by simp only [Tin.pick, List.map_cons, List.map_nil, Array.getD_eq_getD_getElem?, List.getElem?_toArray, List.getElem?_cons_zero, List.getElem?_cons_succ, Option.getD_some]; rfl) (by kernel_rfl) (by kernel_rfl) ?_
  repeat (first | go_big_quiet_step (fail))
  refine wpQuiet_nil ?_
  refine Tin.reg_one 6 _ rfl (by kernel_rfl) ?_
  try simp only [List.getElem_toArray, List.getElem_cons_succ, List.getElem_cons_zero]
  go_wp2_with fail
  refine (own_any A l cap _ HS.out hl).mono ?_
  rintro e w3 ⟨A3, c3, rfl, ho3, hb3⟩
  have HO3 := Lib.hid (show Own .u8 5 w3 W.heap.size (.slice A3 l.length c3) l from ho3)
  have HB3 := Lib.hid (HBD.out.trans (hb3.mono HBD.out.size))
  have HR3 := Lib.hid ((hb3.block _ (row_lt HR.out)).trans HR.out)
  go_wp2_with fail
  refine ⟨w.heap.size + 1, hb3.mono (show w.heap.size + 1 ≤ W.heap.size by omega), Nat.le_refl _, ?_⟩
  refine Tin.reg_quiets [7] _ 1 rfl (by simp only [Tin.pick, List.map_cons, List.map_nil, Array.getD_eq_getD_getElem?, List.getElem?_toArray, List.getElem?_cons_zero, List.getElem?_cons_succ, Option.getD_some]; rfl) (by kernel_rfl) (by kernel_rfl) ?_
  repeat (first | go_big_quiet_step (fail))
  refine wpQuiet_nil ?_
  refine Tin.reg_one 8 _ rfl (by kernel_rfl) ?_
  try simp only [List.getElem_toArray, List.getElem_cons_succ, List.getElem_cons_zero]
  refine wpl_store_row rtV rfl (.tmp 2) (.tmp 10) rfl (w.heap.size + 1) rfl (vrow t c A3 l.length c3) rfl (vrow_one _ _ _ _ _) 48 rfl _ rfl HR3.out ?_
  intro w4 hr4 hg4 hs4
  try simp only [Act.put]
  refine ⟨w.heap.size + 1, (Below.refl (w.heap.size + 1) w3).grown hg4 (by have : W.heap.size ≤ w3.heap.size := hb3.size; omega) (fun q hq => by cases hq; exact Nat.le_refl _), Nat.le_refl _, ?_⟩
  refine Tin.reg_done (by kernel_rfl) ?_
  have HO4 := HO3.out.kept hg4 (by
    cases hq : (Value.slice A3 l.length c3).ownBlock with
    | none => exact .inl rfl
    | some q => exact .inr (fun e => by have h1 := (World.ownsRow.lt HO3.out q hq).1; have e' : q = w.heap.size + 1 := Option.some.inj e; omega))
  have HB4 := HB3.out.grown hg4 HB3.out.size (fun q hq => by have e' : w.heap.size + 1 = q := Option.some.inj hq; omega)
  go_wp2_with fail
  exact bodyPost_ret (res_row rtV rfl _ _ (w.heap.size + 1) 48 (vrow t c A3 l.length c3) rfl rfl hr4) rfl ⟨A3, c3, rfl, HO4.mono (by omega), HB4⟩
end Go.Proofs.Ytkepbobnjplpoaa
/- The reference's contracts of values of numbers. -/
namespace Go.Proofs.Ytkepbobnjplpoaa
open Go.RowKit
open Go.Tin
set_option linter.unusedVariables false
set_option linter.unusedSimpArgs false


/-- May a number be one of a type, and its bytes. -/
def nmV (k n : Int) : Int := if sgT k then plN n (prT k) else n
def nmB (k n : Int) : Bool := (!sgT k || plB n (prT k)) && putB (nmV k n) (prT k) 2
def nmL (k n : Int) : List Int := putL (nmV k n) (prT k) 2
def nmsB (k : Int) : List Int → Bool
  | [] => true
  | n :: l => nmB k n && nmsB k l
def nmsL (k : Int) : List Int → List Int
  | [] => []
  | n :: l => nmL k n ++ nmsL k l
theorem nmsB_app (k : Int) : ∀ l m : List Int, nmsB k (l ++ m) = (nmsB k l && nmsB k m)
  | [], m => by simp [nmsB]
  | n :: l, m => by
    show (nmB k n && nmsB k (l ++ m)) = (nmB k n && nmsB k l && nmsB k m)
    rw [nmsB_app k l m, Bool.and_assoc]
theorem nmsL_app (k : Int) : ∀ l m : List Int, nmsL k (l ++ m) = nmsL k l ++ nmsL k m
  | [], m => by simp [nmsL]
  | n :: l, m => by
    show nmL k n ++ nmsL k (l ++ m) = nmL k n ++ nmsL k l ++ nmsL k m
    rw [nmsL_app k l m, List.append_assoc]
theorem putL_le4 (n s o : Int) : (putL n s o).length ≤ 4 := by
  unfold putL
  split
  · rename_i h
    have hs : szB s = true := by
      unfold putB mayO at h
      simp only [Bool.and_eq_true] at h
      exact h.1.1
    have := szB_t hs
    unfold ordL
    split
    · rw [List.length_reverse, bytesOf_len]; omega
    · rw [bytesOf_len]; omega
  · simp
theorem nmsL_le (k : Int) : ∀ l : List Int, (nmsL k l).length ≤ 4 * l.length
  | [] => by simp [nmsL]
  | n :: l => by
    have := nmsL_le k l
    have := putL_le4 (nmV k n) (prT k) 2
    show (putL (nmV k n) (prT k) 2 ++ nmsL k l).length ≤ _
    rw [List.length_append, List.length_cons]
    omega
theorem byts_putL (n s o : Int) : Byts (putL n s o) := by
  have hb : ∀ (k : Nat) (n : Int), Byts (bytesOf k n) := by
    intro k
    induction k with
    | zero => intro n x hx; simp [bytesOf] at hx
    | succ k ih =>
      intro n x hx
      rw [bytesOf_cons] at hx
      rcases List.mem_cons.1 hx with rfl | hx
      · omega
      · exact ih n x hx
  unfold putL
  split
  · unfold ordL
    split
    · exact (hb _ _).sub fun x hx => List.mem_reverse.1 hx
    · exact hb _ _
  · intro x hx; simp at hx
theorem byts_app {l m : List Int} (h : Byts l) (h' : Byts m) : Byts (l ++ m) := fun x hx => by
  rcases List.mem_append.1 hx with hx | hx
  · exact h x hx
  · exact h' x hx
theorem byts_nmsL (k : Int) : ∀ l : List Int, Byts (nmsL k l)
  | [] => fun x hx => by simp [nmsL] at hx
  | n :: l => byts_app (byts_putL _ _ _) (byts_nmsL k l)
theorem nmsB_false (k : Int) (l : List Int) (i : Nat) (hi : i < l.length) (h : nmB k (nth l i) = false) : nmsB k l = false := by
  have e : l = l.take i ++ (nth l i :: l.drop (i + 1)) := by
    unfold nth
    rw [List.getD_eq_getElem?_getD, List.getElem?_eq_getElem hi]
    simp
  rw [e, nmsB_app]
  show (nmsB k (l.take i) && (nmB k (nth l i) && nmsB k (l.drop (i + 1)))) = false
  rw [h]
  simp
theorem take_next {l : List Int} {i : Nat} (hi : i < l.length) : l.take (i + 1) = l.take i ++ [nth l i] := by
  rw [List.take_add_one, List.getElem?_eq_getElem hi]
  unfold nth
  rw [List.getD_eq_getElem?_getD, List.getElem?_eq_getElem hi]
  rfl
def rofB (k cnt : Int) (l : List Int) : Bool := nmsB k l && mayV k cnt (nmsL k l)
def rofL (k cnt : Int) (l : List Int) : List Int := if rofB k cnt l then nmsL k l else []
set_option maxRecDepth 100000 in
set_option maxHeartbeats 8000000 in
theorem rof__any (k by_ cnt : Int) (A : Option Addr) (l : List Int) (cap : Nat) (w : World) (hs : Sl .i64 w A l) (hl : l.length ≤ 1000000) (hby : ¬ by_ = 0) (hq : Int.tdiv (l.length : Int) by_ = cnt) (hc0 : 0 ≤ cnt) (hc1 : cnt ≤ 1000000) :
    Calls Try.prog 47 #[.int .i64 k, .slice A l.length cap, .int .i64 by_] w fun e w' => ∃ A' c', e = .returned (.tuple #[.agg (vrow (on (rofB k cnt l) k) (on (rofB k cnt l) cnt) A' (rofL k cnt l).length c'), .bool (rofB k cnt l)]) ∧ Own .u8 5 w' w.heap.size (.slice A' (rofL k cnt l).length c') (rofL k cnt l) ∧ Below w.heap.size w w' := by
  obtain ⟨W, hW⟩ : ∃ W, W = (w.alloc (.cells (vrow 0 0 none 0 0) 48)).alloc (.cells (vrow k cnt none 0 0) 48) := ⟨_, rfl⟩
  have HB := Lib.hid (show Below w.heap.size w W by rw [hW]; exact ba (ba (brefl w) _) _)
  have HX := Lib.hid (show W.heap[w.heap.size]? = some (.cells (vrow 0 0 none 0 0) 48 (0, 0)) by rw [hW, Below.heap_alloc _ _ _ (by simp)]; exact heap_alloc_new w _)
  have HR := Lib.hid (show W.heap[w.heap.size + 1]? = some (.cells (vrow k cnt none 0 0) 48 (0, 0)) by
    have := heap_alloc_new (w.alloc (.cells (vrow 0 0 none 0 0) 48)) (.cells (vrow k cnt none 0 0) 48)
    rw [hW]
    simpa using this)
  have hsz : W.heap.size = w.heap.size + 2 := by rw [hW]; simp
  have HS := Lib.hid hs
  have HED := Lib.hid (show rofB k cnt l = (nmsB k l && mayV k cnt (nmsL k l)) ∧ rofL k cnt l = (if rofB k cnt l then nmsL k l else []) from ⟨rfl, rfl⟩)
  have HE0 := Lib.hid (show rofB k cnt l = false → rofL k cnt l = [] ∧ on (rofB k cnt l) k = 0 ∧ on (rofB k cnt l) cnt = 0 from fun h => ⟨by unfold rofL; rw [h]; rfl, by rw [h]; rfl, by rw [h]; rfl⟩)
  clear hs
  go_enter Try.func47, Try.ntmps47
  go_wp2_with fail
  rw [← hW]
  clear hW hq hby
  go_loopw [9] (fun s9 wr => ∃ (i : Nat) (A1 : Option Addr) (c1 : Nat), i ≤ l.length ∧ s9 = .int .i64 (i : Int) ∧ nmsB k (l.take i) = true ∧ wr.heap[w.heap.size + 1]? = some (.cells (vrow k cnt A1 (nmsL k (l.take i)).length c1) 48 (0, 0)) ∧ Own .u8 5 wr W.heap.size (.slice A1 (nmsL k (l.take i)).length c1) (nmsL k (l.take i)) ∧ Below (w.heap.size + 1) W wr) (fun s9 _ => l.length - (intOf s9).toNat)
  case atStart => exact ⟨0, none, 0, by omega, rfl, by simp [nmsB], by simpa [nmsL] using HR.out, by simpa [nmsL] using Own.nil_ _ _ _ _, Below.refl _ _⟩
  case round =>
    obtain ⟨i, A1, c1, hi, rfl, hok, hrow, hown, hb⟩ := hrel
    have HOK := Lib.hid hok
    have HRW := Lib.hid hrow
    have HO := Lib.hid hown
    have HB1 := Lib.hid hb
    have HBw := Lib.hid (HB.out.trans (hb.mono (Nat.le_succ _)))
    have HZ := Lib.hid ((hb.block _ (Nat.lt_succ_self _)).trans HX.out)
    have hs1 : W.heap.size ≤ wr.heap.size := hb.size
    clear hok hrow hown hb
    by_cases hil : i < l.length
    · have i1 : (i : Int) < (l.length : Int) := by omega
      have hsl := HS.out.keep HBw.out
      obtain ⟨q, off, rfl, hql, hqc⟩ := hsl.at_ (by omega)
      have kx : wr.cell? ⟨q, off + i, none⟩ = some (.int .i64 (nth l i)) := hqc i hil
      have HTN := Lib.hid (take_next hil)
      have HNF := Lib.hid (nmsB_false k l i hil)
      have HPR := Lib.hid (nmsL_le k (l.take i))
      have HDB := Lib.hid (show nmB k (nth l i) = ((!sgT k || plB (nth l i) (prT k)) && putB (nmV k (nth l i)) (prT k) 2) ∧ nmV k (nth l i) = (if sgT k then plN (nth l i) (prT k) else nth l i) ∧ nmL k (nth l i) = putL (nmV k (nth l i)) (prT k) 2 from ⟨rfl, rfl, rfl⟩)
      clear hsl hqc
      generalize nth l i = N at *
      go_wp2_with fail
      refine (rsgn_any k wr).mono ?_
      rintro e w2 ⟨rfl, rfl⟩
      cases hsg : sgT k with
      | false =>
        have HV := Lib.hid (show nmV k N = N by rw [HDB.out.2.1, hsg]; rfl)
        have HNB := Lib.hid (show nmB k N = putB (nmV k N) (prT k) 2 by rw [HDB.out.1, hsg]; rfl)
        rw [HV.out] at HNB
        have HNL := Lib.hid (HDB.out.2.2.trans (by rw [HV.out]))
        clear hsg
        go_wp2_with fail
        refine (rpart_any k wr).mono ?_
        rintro e w2 ⟨rfl, rfl⟩
        go_wp2_with fail
        refine (rput_any N (prT k) 2 wr).mono ?_
        rintro e w3 ⟨A3, c3, rfl, ho3, hb3⟩
        have HP3 := Lib.hid ho3
        have HO3 := Lib.hid (HO.out.keep hb3)
        have HR3 := Lib.hid ((hb3.block _ (row_lt HRW.out)).trans HRW.out)
        have HZ3 := Lib.hid ((hb3.block _ (row_lt HZ.out)).trans HZ.out)
        have HB3 := Lib.hid (HB1.out.trans (hb3.mono (show w.heap.size + 1 ≤ wr.heap.size by omega)))
        have HBw3 := Lib.hid (HBw.out.trans (hb3.mono HBw.out.size))
        have hs3 : wr.heap.size ≤ w3.heap.size := hb3.size
        have HPL := Lib.hid (putL_le4 N (prT k) 2)
        clear ho3 hb3 HO HRW HZ HB1 HBw kx
        cases hpt : putB N (prT k) 2 with
        | false =>
          have HE := Lib.hid (show rofB k cnt l = false by rw [HED.out.1, HNF.out (by rw [HNB.out, hpt])]; rfl)
          have HEz := Lib.hid (HE0.out HE.out)
          clear hpt
          go_wp2_with ((with_reducible refine wpl_store_row rtV ?_ (.tmp 6) (.tmp 53) ?_ (w.heap.size) ?_ (vrow 0 0 none 0 0) ?_ (vrow_one _ _ _ _ _) 48 ?_ _ ?_ HZ3.out ?_); rfl; rfl; rfl; rfl; rfl; rfl; intro w7 hr7 hg7 hs7; (try simp only [Act.put]))
          rw [HEz.out.2.1, HEz.out.2.2, HEz.out.1, HE.out]
          exact bodyPost_ret (res_row_tmp rtV rfl _ _ w.heap.size 48 (vrow 0 0 none 0 0) rfl (.bool false) rfl rfl hr7) rfl ⟨none, 0, rfl, Own.nil_ _ _ _ _, HBw3.out.grown hg7 HBw3.out.size (fun k hk => by cases hk; exact Nat.le_refl _)⟩
        | true =>
          have HNBT := Lib.hid (HNB.out.trans hpt)
          have HOK' := Lib.hid (show nmsB k (l.take (i + 1)) = true by rw [HTN.out, nmsB_app, HOK.out]; show (true && (nmB k N && true)) = true; rw [HNBT.out]; rfl)
          have HLS := Lib.hid (show nmsL k (l.take (i + 1)) = nmsL k (l.take i) ++ putL N (prT k) 2 by rw [HTN.out, nmsL_app]; show _ ++ (nmL k N ++ []) = _; rw [List.append_nil, HNL.out])
          have hLi : (l.take i).length ≤ 1000000 := by rw [List.length_take]; omega
          clear hpt
          generalize putL N (prT k) 2 = PL at *
          generalize nmsL k (l.take i) = L at *
          have k2 := row_cell (v := .slice A1 L.length c1) HR3.out 2 rfl
          go_wp2_with (at_builtin; refine Tin.wpl_app bt5 _ rfl (.tmp 55) (.tmp 56) rfl W.heap.size (.slice A1 L.length c1) L rfl HO3.out A3 PL.length c3 PL rfl HP3.out.sl'.2 rfl (by have := HPL.out; have := HPR.out; omega) (by have := HPL.out; have := HPR.out; omega) (by omega) ?_; intro v4 w4 ho4 hg4 hw4; obtain ⟨A4, c4, rfl⟩ := own_form ho4; have HO4 := Lib.hid ho4; have HR4 := Lib.hid ((hg4.block (w.heap.size + 1) (row_lt HR3.out) (fun e => by have h1 := (World.ownsRow.lt HO3.out _ e.symm).1; omega)).trans HR3.out); have HB4 := Lib.hid (HB3.out.grown hg4 (by omega) (fun q hq => by have h1 := (World.ownsRow.lt HO3.out _ hq).1; omega)); have hs4 : w3.heap.size ≤ w4.heap.size := hg4.size; clear ho4 hg4 hw4; have q2 := row_cell (v := .slice A1 L.length c1) HR4.out 2 rfl; have y2 := frozen_of_row w4 _ 2 _ _ HR4.out)
          have hgs := grown_setCells (w.heap.size + 1) [.slice A4 (L.length + PL.length) c4] 2 w4 w4 (World.grownBy.refl w4 _)
          have HR5 := Lib.hid (row_set HR4.out 2 (.slice A4 (L.length + PL.length) c4))
          have HO5 := Lib.hid (HO4.out.kept hgs (by right; intro e; have h1 := (World.ownsRow.lt HO4.out _ e).1; omega))
          have HB5 := Lib.hid (HB4.out.grown hgs (by omega) (fun q hq => by have e' : w.heap.size + 1 = q := Option.some.inj hq; omega))
          clear hgs q2 y2 k2
          go_roundw
          case rel =>
            refine ⟨i + 1, A4, c4, by omega, by go_num, HOK'.out, ?_, ?_, HB5.out⟩
            · rw [HLS.out, List.length_append]; exact HR5.out
            · rw [HLS.out]; exact HO5.out
          case measure => simp [intOf]; omega

      | true =>
        have HV := Lib.hid (show nmV k N = plN N (prT k) by rw [HDB.out.2.1, hsg]; rfl)
        have HNB0 := Lib.hid (show nmB k N = (plB N (prT k) && putB (nmV k N) (prT k) 2) by rw [HDB.out.1, hsg]; rfl)
        rw [HV.out] at HNB0
        have HNL := Lib.hid (HDB.out.2.2.trans (by rw [HV.out]))
        clear hsg
        go_wp2_with fail
        refine (rpart_any k wr).mono ?_
        rintro e w2 ⟨rfl, rfl⟩
        go_wp2_with fail
        refine (rplain_any N (prT k) wr).mono ?_
        rintro e w2 ⟨rfl, rfl⟩
        cases hpb : plB N (prT k) with
        | false =>
          have HE := Lib.hid (show rofB k cnt l = false by rw [HED.out.1, HNF.out (by rw [HNB0.out, hpb]; rfl)]; rfl)
          have HEz := Lib.hid (HE0.out HE.out)
          clear hpb
          go_wp2_with ((with_reducible refine wpl_store_row rtV ?_ (.tmp 6) (.tmp 42) ?_ (w.heap.size) ?_ (vrow 0 0 none 0 0) ?_ (vrow_one _ _ _ _ _) 48 ?_ _ ?_ HZ.out ?_); rfl; rfl; rfl; rfl; rfl; rfl; intro w7 hr7 hg7 hs7; (try simp only [Act.put]))
          rw [HEz.out.2.1, HEz.out.2.2, HEz.out.1, HE.out]
          exact bodyPost_ret (res_row_tmp rtV rfl _ _ w.heap.size 48 (vrow 0 0 none 0 0) rfl (.bool false) rfl rfl hr7) rfl ⟨none, 0, rfl, Own.nil_ _ _ _ _, HBw.out.grown hg7 HBw.out.size (fun k hk => by cases hk; exact Nat.le_refl _)⟩

        | true =>
          have HNB := Lib.hid (show nmB k N = putB (plN N (prT k)) (prT k) 2 by rw [HNB0.out, hpb]; rfl)
          clear hpb
          generalize plN N (prT k) = V at *
          go_wp2_with fail
          refine (rpart_any k wr).mono ?_
          rintro e w2 ⟨rfl, rfl⟩
          go_wp2_with fail
          refine (rput_any V (prT k) 2 wr).mono ?_
          rintro e w3 ⟨A3, c3, rfl, ho3, hb3⟩
          have HP3 := Lib.hid ho3
          have HO3 := Lib.hid (HO.out.keep hb3)
          have HR3 := Lib.hid ((hb3.block _ (row_lt HRW.out)).trans HRW.out)
          have HZ3 := Lib.hid ((hb3.block _ (row_lt HZ.out)).trans HZ.out)
          have HB3 := Lib.hid (HB1.out.trans (hb3.mono (show w.heap.size + 1 ≤ wr.heap.size by omega)))
          have HBw3 := Lib.hid (HBw.out.trans (hb3.mono HBw.out.size))
          have hs3 : wr.heap.size ≤ w3.heap.size := hb3.size
          have HPL := Lib.hid (putL_le4 V (prT k) 2)
          clear ho3 hb3 HO HRW HZ HB1 HBw kx
          cases hpt : putB V (prT k) 2 with
          | false =>
            have HE := Lib.hid (show rofB k cnt l = false by rw [HED.out.1, HNF.out (by rw [HNB.out, hpt])]; rfl)
            have HEz := Lib.hid (HE0.out HE.out)
            clear hpt
            go_wp2_with ((with_reducible refine wpl_store_row rtV ?_ (.tmp 6) (.tmp 53) ?_ (w.heap.size) ?_ (vrow 0 0 none 0 0) ?_ (vrow_one _ _ _ _ _) 48 ?_ _ ?_ HZ3.out ?_); rfl; rfl; rfl; rfl; rfl; rfl; intro w7 hr7 hg7 hs7; (try simp only [Act.put]))
            rw [HEz.out.2.1, HEz.out.2.2, HEz.out.1, HE.out]
            exact bodyPost_ret (res_row_tmp rtV rfl _ _ w.heap.size 48 (vrow 0 0 none 0 0) rfl (.bool false) rfl rfl hr7) rfl ⟨none, 0, rfl, Own.nil_ _ _ _ _, HBw3.out.grown hg7 HBw3.out.size (fun k hk => by cases hk; exact Nat.le_refl _)⟩
          | true =>
            have HNBT := Lib.hid (HNB.out.trans hpt)
            have HOK' := Lib.hid (show nmsB k (l.take (i + 1)) = true by rw [HTN.out, nmsB_app, HOK.out]; show (true && (nmB k N && true)) = true; rw [HNBT.out]; rfl)
            have HLS := Lib.hid (show nmsL k (l.take (i + 1)) = nmsL k (l.take i) ++ putL V (prT k) 2 by rw [HTN.out, nmsL_app]; show _ ++ (nmL k N ++ []) = _; rw [List.append_nil, HNL.out])
            have hLi : (l.take i).length ≤ 1000000 := by rw [List.length_take]; omega
            clear hpt
            generalize putL V (prT k) 2 = PL at *
            generalize nmsL k (l.take i) = L at *
            have k2 := row_cell (v := .slice A1 L.length c1) HR3.out 2 rfl
            go_wp2_with (at_builtin; refine Tin.wpl_app bt5 _ rfl (.tmp 55) (.tmp 56) rfl W.heap.size (.slice A1 L.length c1) L rfl HO3.out A3 PL.length c3 PL rfl HP3.out.sl'.2 rfl (by have := HPL.out; have := HPR.out; omega) (by have := HPL.out; have := HPR.out; omega) (by omega) ?_; intro v4 w4 ho4 hg4 hw4; obtain ⟨A4, c4, rfl⟩ := own_form ho4; have HO4 := Lib.hid ho4; have HR4 := Lib.hid ((hg4.block (w.heap.size + 1) (row_lt HR3.out) (fun e => by have h1 := (World.ownsRow.lt HO3.out _ e.symm).1; omega)).trans HR3.out); have HB4 := Lib.hid (HB3.out.grown hg4 (by omega) (fun q hq => by have h1 := (World.ownsRow.lt HO3.out _ hq).1; omega)); have hs4 : w3.heap.size ≤ w4.heap.size := hg4.size; clear ho4 hg4 hw4; have q2 := row_cell (v := .slice A1 L.length c1) HR4.out 2 rfl; have y2 := frozen_of_row w4 _ 2 _ _ HR4.out)
            have hgs := grown_setCells (w.heap.size + 1) [.slice A4 (L.length + PL.length) c4] 2 w4 w4 (World.grownBy.refl w4 _)
            have HR5 := Lib.hid (row_set HR4.out 2 (.slice A4 (L.length + PL.length) c4))
            have HO5 := Lib.hid (HO4.out.kept hgs (by right; intro e; have h1 := (World.ownsRow.lt HO4.out _ e).1; omega))
            have HB5 := Lib.hid (HB4.out.grown hgs (by omega) (fun q hq => by have e' : w.heap.size + 1 = q := Option.some.inj hq; omega))
            clear hgs q2 y2 k2
            go_roundw
            case rel =>
              refine ⟨i + 1, A4, c4, by omega, by go_num, HOK'.out, ?_, ?_, HB5.out⟩
              · rw [HLS.out, List.length_append]; exact HR5.out
              · rw [HLS.out]; exact HO5.out
            case measure => simp [intOf]; omega

    · obtain rfl : i = l.length := by omega
      rw [List.take_length] at HOK HRW HO
      have HY := Lib.hid (byts_nmsL k l)
      have HL := Lib.hid (nmsL_le k l)
      have HED2 := Lib.hid (show rofB k cnt l = mayV k cnt (nmsL k l) by rw [HED.out.1, HOK.out]; rfl)
      generalize nmsL k l = R at *
      go_wp2_with ((with_reducible refine wpl_load_row rtV ?_ (.tmp 8) ?_ (w.heap.size + 1) ?_ 48 (vrow k cnt A1 R.length c1) ?_ HRW.out ?_); rfl; rfl; rfl; rfl; simp only [Act.put, List.setIfInBounds_toArray, List.set_cons_succ, List.set_cons_zero])
      refine (rmay_any k cnt A1 R c1 wr HO.out.sl'.2 (by have := HL.out; omega) HY.out).mono ?_
      rintro e w5 ⟨rfl, hb5⟩
      have HR5 := Lib.hid ((hb5.block _ (row_lt HRW.out)).trans HRW.out)
      have HZ5 := Lib.hid ((hb5.block _ (row_lt HZ.out)).trans HZ.out)
      have HB5 := Lib.hid (HBw.out.trans (hb5.mono HBw.out.size))
      have HO5 := Lib.hid (HO.out.keep hb5)
      clear hb5
      cases hmv : mayV k cnt R with
      | false =>
        have HE := Lib.hid (HED2.out.trans hmv)
        have HEz := Lib.hid (HE0.out HE.out)
        clear hmv
        go_wp2_with ((with_reducible refine wpl_store_row rtV ?_ (.tmp 6) (.tmp 62) ?_ (w.heap.size) ?_ (vrow 0 0 none 0 0) ?_ (vrow_one _ _ _ _ _) 48 ?_ _ ?_ HZ5.out ?_); rfl; rfl; rfl; rfl; rfl; rfl; intro w7 hr7 hg7 hs7; (try simp only [Act.put]))
        rw [HEz.out.2.1, HEz.out.2.2, HEz.out.1, HE.out]
        exact bodyPost_ret (res_row_tmp rtV rfl _ _ w.heap.size 48 (vrow 0 0 none 0 0) rfl (.bool false) rfl rfl hr7) rfl ⟨none, 0, rfl, Own.nil_ _ _ _ _, HB5.out.grown hg7 HB5.out.size (fun k hk => by cases hk; exact Nat.le_refl _)⟩

      | true =>
        have HE := Lib.hid (HED2.out.trans hmv)
        have HEL := Lib.hid (show rofL k cnt l = R by rw [HED.out.2, HE.out]; rfl)
        clear hmv
        go_wp2_with (first | ((with_reducible refine wpl_load_row rtV ?_ (.tmp 8) ?_ (w.heap.size + 1) ?_ 48 (vrow k cnt A1 R.length c1) ?_ HR5.out ?_); rfl; rfl; rfl; rfl; simp only [Act.put, List.setIfInBounds_toArray, List.set_cons_succ, List.set_cons_zero]) | ((with_reducible refine wpl_store_row rtV ?_ (.tmp 6) (.tmp 63) ?_ (w.heap.size) ?_ (vrow k cnt A1 R.length c1) ?_ (vrow_one _ _ _ _ _) 48 ?_ _ ?_ HZ5.out ?_); rfl; rfl; rfl; rfl; rfl; rfl; intro w7 hr7 hg7 hs7; (try simp only [Act.put])))
        rw [HEL.out, HE.out]
        exact bodyPost_ret (res_row_tmp rtV rfl _ _ w.heap.size 48 (vrow k cnt A1 R.length c1) rfl (.bool true) rfl rfl hr7) rfl ⟨A1, c1, rfl, (HO5.out.mono (show w.heap.size ≤ W.heap.size by omega)).kept hg7 (by
          cases hq : (Value.slice A1 R.length c1).ownBlock with
          | none => exact .inl rfl
          | some q => exact .inr (fun e => by have h1 := (World.ownsRow.lt HO5.out q hq).1; have e' : q = w.heap.size := Option.some.inj e; omega)), HB5.out.grown hg7 HB5.out.size (fun k hk => by cases hk; exact Nat.le_refl _)⟩
end Go.Proofs.Ytkepbobnjplpoaa
/- The contract of the reference's OfNumbers. -/
namespace Go.Proofs.Ytkepbobnjplpoaa
open Go.RowKit
open Go.Tin
set_option linter.unusedVariables false
set_option linter.unusedSimpArgs false


def nuT (k : Int) : Bool := decide (szT k ≠ 0) && (decide (k ≠ 5) && decide (k < 10))
def ronB (k : Int) (l : List Int) : Bool := nuT k && rofB k (l.length : Int) l
def ronL (k : Int) (l : List Int) : List Int := if ronB k l then rofL k (l.length : Int) l else []
set_option maxRecDepth 100000 in
set_option maxHeartbeats 8000000 in
theorem ron_any (k : Int) (A : Option Addr) (l : List Int) (cap : Nat) (w : World) (hs : Sl .i64 w A l) (hl : l.length ≤ 1000000) :
    Calls Try.prog 48 #[.int .i64 k, .slice A l.length cap] w fun e w' => ∃ A' c', e = .returned (.tuple #[.agg (vrow (on (ronB k l) k) (on (ronB k l) (l.length : Int)) A' (ronL k l).length c'), .bool (ronB k l)]) ∧ Own .u8 5 w' w.heap.size (.slice A' (ronL k l).length c') (ronL k l) ∧ Below w.heap.size w w' := by
  obtain ⟨W, hW⟩ : ∃ W, W = w.alloc (.cells (vrow 0 0 none 0 0) 48) := ⟨_, rfl⟩
  have HB := Lib.hid (show Below w.heap.size w W by rw [hW]; exact ba (brefl w) _)
  have HR := Lib.hid (show W.heap[w.heap.size]? = some (.cells (vrow 0 0 none 0 0) 48 (0, 0)) by rw [hW]; exact heap_alloc_new w _)
  have HS := Lib.hid (hs.keep HB.out)
  have HED := Lib.hid (show ronB k l = (nuT k && rofB k (l.length : Int) l) ∧ ronL k l = (if ronB k l then rofL k (l.length : Int) l else []) from ⟨rfl, rfl⟩)
  have HE0 := Lib.hid (show ronB k l = false → ronL k l = [] ∧ on (ronB k l) k = 0 ∧ on (ronB k l) (l.length : Int) = 0 from fun h => ⟨by unfold ronL; rw [h]; rfl, by rw [h]; rfl, by rw [h]; rfl⟩)
  have HN := Lib.hid (show nuT k = (decide (szT k ≠ 0) && (decide (k ≠ 5) && decide (k < 10))) from rfl)
  clear hs
  go_enter Try.func48, Try.ntmps48
  go_wp2_with fail
  rw [← hW]
  clear hW
  refine (rsize_any k W).mono ?_
  rintro e w1 ⟨rfl, rfl⟩
  by_cases h1 : szT k = 0
  · have d1 : (szT k == 0) = true := by simpa using h1
    have HE := Lib.hid (show ronB k l = false by rw [HED.out.1, HN.out, h1]; rfl)
    have HEz := Lib.hid (HE0.out HE.out)
    clear h1
    go_wp2_with ((with_reducible refine wpl_store_row rtV ?_ (.tmp 4) (.tmp 17) ?_ (w.heap.size) ?_ (vrow 0 0 none 0 0) ?_ (vrow_one _ _ _ _ _) 48 ?_ _ ?_ HR.out ?_); rfl; rfl; rfl; rfl; rfl; rfl; intro w7 hr7 hg7 hs7; (try simp only [Act.put]))
    rw [HEz.out.2.1, HEz.out.2.2, HEz.out.1, HE.out]
    exact bodyPost_ret (res_row_tmp rtV rfl _ _ w.heap.size 48 (vrow 0 0 none 0 0) rfl (.bool false) rfl rfl hr7) rfl ⟨none, 0, rfl, Own.nil_ _ _ _ _, HB.out.grown hg7 HB.out.size (fun k hk => by cases hk; exact Nat.le_refl _)⟩

  have d1 : (szT k == 0) = false := by simpa using h1
  by_cases h2 : k = 5
  · have d2 : (k == 5) = true := by simpa using h2
    have HE := Lib.hid (show ronB k l = false by rw [HED.out.1, HN.out, h2]; simp)
    have HEz := Lib.hid (HE0.out HE.out)
    clear h1 h2
    go_wp2_with ((with_reducible refine wpl_store_row rtV ?_ (.tmp 4) (.tmp 17) ?_ (w.heap.size) ?_ (vrow 0 0 none 0 0) ?_ (vrow_one _ _ _ _ _) 48 ?_ _ ?_ HR.out ?_); rfl; rfl; rfl; rfl; rfl; rfl; intro w7 hr7 hg7 hs7; (try simp only [Act.put]))
    rw [HEz.out.2.1, HEz.out.2.2, HEz.out.1, HE.out]
    exact bodyPost_ret (res_row_tmp rtV rfl _ _ w.heap.size 48 (vrow 0 0 none 0 0) rfl (.bool false) rfl rfl hr7) rfl ⟨none, 0, rfl, Own.nil_ _ _ _ _, HB.out.grown hg7 HB.out.size (fun k hk => by cases hk; exact Nat.le_refl _)⟩

  have d2 : (k == 5) = false := by simpa using h2
  by_cases h3 : 10 ≤ k
  · have d3 : decide (10 ≤ k) = true := by simpa using h3
    have HE := Lib.hid (show ronB k l = false by rw [HED.out.1, HN.out, decide_eq_false (show ¬ k < 10 by omega)]; simp)
    have HEz := Lib.hid (HE0.out HE.out)
    clear h1 h2 h3
    go_wp2_with ((with_reducible refine wpl_store_row rtV ?_ (.tmp 4) (.tmp 17) ?_ (w.heap.size) ?_ (vrow 0 0 none 0 0) ?_ (vrow_one _ _ _ _ _) 48 ?_ _ ?_ HR.out ?_); rfl; rfl; rfl; rfl; rfl; rfl; intro w7 hr7 hg7 hs7; (try simp only [Act.put]))
    rw [HEz.out.2.1, HEz.out.2.2, HEz.out.1, HE.out]
    exact bodyPost_ret (res_row_tmp rtV rfl _ _ w.heap.size 48 (vrow 0 0 none 0 0) rfl (.bool false) rfl rfl hr7) rfl ⟨none, 0, rfl, Own.nil_ _ _ _ _, HB.out.grown hg7 HB.out.size (fun k hk => by cases hk; exact Nat.le_refl _)⟩

  have d3 : decide (10 ≤ k) = false := by simpa using h3
  have HE := Lib.hid (show ronB k l = rofB k (l.length : Int) l by rw [HED.out.1, HN.out, decide_eq_true (show szT k ≠ 0 from h1), decide_eq_true (show k ≠ 5 from h2), decide_eq_true (show k < 10 by omega)]; rfl)
  have HEL := Lib.hid (show ronL k l = rofL k (l.length : Int) l by
    rw [HED.out.2, HE.out]
    unfold rofL
    cases rofB k (l.length : Int) l <;> rfl)
  clear h1 h2 h3
  go_wp2_with fail
  refine (rof__any k 1 (l.length : Int) A l cap W HS.out hl (by decide) (by simp) (by omega) (by omega)).mono ?_
  rintro e w2 ⟨A2, c2, rfl, ho2, hb2⟩
  have HO2 := Lib.hid ho2
  have HR2 := Lib.hid ((hb2.block _ (row_lt HR.out)).trans HR.out)
  have HB2 := Lib.hid (HB.out.trans (hb2.mono HB.out.size))
  have hW1 : w.heap.size < W.heap.size := row_lt HR.out
  clear ho2 hb2
  rw [← HEL.out] at HO2
  rw [← HEL.out, ← HE.out]
  generalize hx : on (ronB k l) k = x1 at *
  generalize hy : on (ronB k l) (l.length : Int) = x2 at *
  generalize hz : ronL k l = R at *
  have HX := Lib.hid (show on (ronB k l) k = x1 ∧ on (ronB k l) (l.length : Int) = x2 ∧ ronL k l = R from ⟨hx, hy, hz⟩)
  clear hx hy hz
  go_wp2_with ((with_reducible refine wpl_store_row rtV ?_ (.tmp 4) (.tmp 21) ?_ (w.heap.size) ?_ (vrow x1 x2 A2 R.length c2) ?_ (vrow_one _ _ _ _ _) 48 ?_ _ ?_ HR2.out ?_); rfl; rfl; rfl; rfl; rfl; rfl; intro w7 hr7 hg7 hs7; (try simp only [Act.put]))
  rw [HX.out.1, HX.out.2.1, HX.out.2.2]
  exact bodyPost_ret (res_row_tmp rtV rfl _ _ w.heap.size 48 (vrow x1 x2 A2 R.length c2) rfl _ rfl rfl hr7) rfl ⟨A2, c2, rfl, (HO2.out.mono (Nat.le_of_lt hW1)).kept hg7 (by
    cases hq : (Value.slice A2 R.length c2).ownBlock with
    | none => exact .inl rfl
    | some q => exact .inr (fun e => by have h1 := (World.ownsRow.lt HO2.out q hq).1; have e' : q = w.heap.size := Option.some.inj e; omega)), HB2.out.grown hg7 HB2.out.size (fun k hk => by cases hk; exact Nat.le_refl _)⟩
end Go.Proofs.Ytkepbobnjplpoaa
