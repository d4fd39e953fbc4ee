/- Texts put together: TzA, TzB, TzC, TzD, TzE, TzF, TzG, TzH, TzI, TzL. -/
import Derived.Test.YtkepbobnjplpoaaTy
import Derived.Test.YtkepbobnjplpoaaOc
import Derived.Lib.Bytealg
import Derived.Test.YtkepbobnjplpoaaLb
/- The contract of a kind's put. -/
namespace Go.Proofs.Ytkepbobnjplpoaa
open Go.RowKit
open Go.Tin
set_option linter.unusedVariables false
set_option linter.unusedSimpArgs false


def kpL (k n : Int) : List Int := if nmB k n then nmL k n else []
theorem is_sg (k : Int) : (isT k == 2 || isT k == 4) = sgT k := by
  by_cases h : k < 0 ∨ 12 < k
  · rw [(kd_no h).2.2]
    unfold sgT
    symm
    apply decide_eq_false
    omega
  · rcases n13 (show 0 ≤ k by omega) (by omega) with rfl | rfl | rfl | rfl | rfl | rfl | rfl | rfl | rfl | rfl | rfl | rfl | rfl <;> decide
end Go.Proofs.Ytkepbobnjplpoaa
/- The contract of made: a value of numbers. -/
namespace Go.Proofs.Ytkepbobnjplpoaa
open Go.RowKit
open Go.Tin
set_option linter.unusedVariables false
set_option linter.unusedSimpArgs false
end Go.Proofs.Ytkepbobnjplpoaa
/- The contract of OfNumbers. -/
namespace Go.Proofs.Ytkepbobnjplpoaa
open Go.RowKit
open Go.Tin
set_option linter.unusedVariables false
set_option linter.unusedSimpArgs false


theorem nu_is (k : Int) : ((isT k != 1) && (isT k != 2)) = !nuT k := by
  by_cases h : k < 0 ∨ 12 < k
  · unfold nuT
    rw [(kd_no h).2.2, (kd_no h).1]
    rfl
  · rcases n13 (show 0 ≤ k by omega) (by omega) with rfl | rfl | rfl | rfl | rfl | rfl | rfl | rfl | rfl | rfl | rfl | rfl | rfl <;> decide
end Go.Proofs.Ytkepbobnjplpoaa
/- The contracts of ratios that are plain, signed, and of a ratio's bytes. -/
namespace Go.Proofs.Ytkepbobnjplpoaa
open Go.RowKit
open Go.Tin
set_option linter.unusedVariables false
set_option linter.unusedSimpArgs false


def rpB (a b : Int) : Bool := putB a 4 2 && putB b 4 2
def rsB (a b : Int) : Bool := plB a 4 && plB b 4
theorem rtR : RT Try.prog 58 2 := RT.of Try.underlying58 rfl (by kernel_rfl)
/-- A ratio's bytes, and may it be one of a type? -/
def rtL (k a b : Int) : List Int := kpL k a ++ kpL k b
def rtQ (k a b : Int) : Bool := nmB k a && (nmB k b && (rpB a b || rsB a b))
end Go.Proofs.Ytkepbobnjplpoaa
/- The contract of a ratio's bytes, as OfRatios makes them. -/
namespace Go.Proofs.Ytkepbobnjplpoaa
open Go.RowKit
open Go.Tin
set_option linter.unusedVariables false
set_option linter.unusedSimpArgs false


theorem kpL_le (k n : Int) : (kpL k n).length ≤ 4 := by
  unfold kpL
  split
  · exact putL_le4 _ _ _
  · simp
end Go.Proofs.Ytkepbobnjplpoaa
/- The contract of made: a value of ratios. -/
namespace Go.Proofs.Ytkepbobnjplpoaa
open Go.RowKit
open Go.Tin
set_option linter.unusedVariables false
set_option linter.unusedSimpArgs false


abbrev iv (zs : List Int) : List Value := zs.map (Value.int .i64)
def rtpL (k : Int) (zs : List Int) : Nat → List Int
  | 0 => []
  | i + 1 => rtpL k zs i ++ rtL k (nth zs (i * 2)) (nth zs (i * 2 + 1))
def rtpB (k : Int) (zs : List Int) : Nat → Bool
  | 0 => true
  | i + 1 => rtpB k zs i && rtQ k (nth zs (i * 2)) (nth zs (i * 2 + 1))
theorem rtL_le (k a b : Int) : (rtL k a b).length ≤ 8 := by
  unfold rtL
  rw [List.length_append]
  have := kpL_le k a
  have := kpL_le k b
  omega
theorem rtpL_le (k : Int) (zs : List Int) : ∀ i, (rtpL k zs i).length ≤ 8 * i
  | 0 => by simp [rtpL]
  | i + 1 => by
    have := rtpL_le k zs i
    have := rtL_le k (nth zs (i * 2)) (nth zs (i * 2 + 1))
    rw [rtpL, List.length_append]
    omega
theorem byts_kpL (k n : Int) : Byts (kpL k n) := by
  unfold kpL
  split
  · exact byts_putL _ _ _
  · intro x hx; simp at hx
theorem byts_rtpL (k : Int) (zs : List Int) : ∀ i, Byts (rtpL k zs i)
  | 0 => fun x hx => by simp [rtpL] at hx
  | i + 1 => byts_app (byts_rtpL k zs i) (byts_app (byts_kpL _ _) (byts_kpL _ _))
theorem rtpB_no {k : Int} {zs : List Int} (i : Nat) (h : rtQ k (nth zs (i * 2)) (nth zs (i * 2 + 1)) = false) : ∀ j, i < j → rtpB k zs j = false
  | 0, hj => by omega
  | j + 1, hj => by
    unfold rtpB
    by_cases hij : i = j
    · subst hij; rw [h]; simp
    · rw [rtpB_no i h j (by omega)]; rfl
def rmB (k : Int) (n : Nat) (zs : List Int) : Bool := rtpB k zs n && mayV k (n : Int) (rtpL k zs n)
def rmL (k : Int) (n : Nat) (zs : List Int) : List Int := if rmB k n zs then rtpL k zs n else []
theorem cells2 {w : World} {b off : Nat} {zs : List Int} (h : SlV w (some ⟨b, off, none⟩) (iv zs)) (i : Nat) (hi : i * 2 + 2 ≤ zs.length) : w.rangeAt b (off + i * 2) [.int .i64 (nth zs (i * 2)), .int .i64 (nth zs (i * 2 + 1))] := by
  have hr := h.rng (i * 2) 2 (by simp; omega)
  have e : ((iv zs).drop (i * 2)).take 2 = [.int .i64 (nth zs (i * 2)), .int .i64 (nth zs (i * 2 + 1))] := by
    rw [List.drop_eq_getElem_cons (by simp; omega), List.take_succ_cons, List.drop_eq_getElem_cons (by simp; omega), List.take_succ_cons, List.take_zero]
    simp [nth, List.getD_eq_getElem?_getD, List.getElem?_eq_getElem (show i * 2 < zs.length by omega), List.getElem?_eq_getElem (show i * 2 + 1 < zs.length by omega)]
  rw [e] at hr
  exact hr
end Go.Proofs.Ytkepbobnjplpoaa
/- The contract of OfRatios. -/
namespace Go.Proofs.Ytkepbobnjplpoaa
open Go.RowKit
open Go.Tin
set_option linter.unusedVariables false
set_option linter.unusedSimpArgs false


def raT (k : Int) : Bool := decide (k = 5 ∨ k = 10)
def raB (k : Int) (n : Nat) (zs : List Int) : Bool := raT k && rmB k n zs
def raL (k : Int) (n : Nat) (zs : List Int) : List Int := if raB k n zs then rmL k n zs else []
theorem ra_is (k : Int) : ((isT k != 3) && (isT k != 4)) = !raT k := by
  by_cases h : k < 0 ∨ 12 < k
  · have : raT k = false := decide_eq_false (by omega)
    rw [(kd_no h).2.2, this]
    rfl
  · rcases n13 (show 0 ≤ k by omega) (by omega) with rfl | rfl | rfl | rfl | rfl | rfl | rfl | rfl | rfl | rfl | rfl | rfl | rfl <;> decide
end Go.Proofs.Ytkepbobnjplpoaa
/- The contracts of strings.IndexByte, of rows of numbers compared, and of the reference's ratios. -/
namespace Go.Proofs.Ytkepbobnjplpoaa
open Go.RowKit
open Go.Tin
set_option linter.unusedVariables false
set_option linter.unusedSimpArgs false


/- Two slices of integers compared, number by number: tintyperef18.Ints. -/
theorem put42 (a : Int) : putB a 4 2 = (decide (0 ≤ a) && decide (a < 4294967296)) := rfl
theorem pl4 (a : Int) : plB a 4 = (decide (-2147483648 ≤ a) && decide (a < 2147483648)) := rfl
set_option maxRecDepth 100000 in
theorem rrp_any (a b : Int) (w : World) : Calls Try.prog 45 #[.agg #[.int .i64 a, .int .i64 b]] w fun e w' => e = .returned (.bool (rpB a b)) ∧ Below w.heap.size w w' := by
  have HB := Lib.hid (ba (brefl w) (.cells #[.int .i64 a, .int .i64 b] 58))
  have HD := Lib.hid (show rpB a b = ((decide (0 ≤ a) && decide (a < 4294967296)) && (decide (0 ≤ b) && decide (b < 4294967296))) from rfl)
  cases h1 : decide (0 ≤ a) <;> cases h2 : decide (a < 4294967296) <;> cases h3 : decide (0 ≤ b) <;> cases h4 : decide (b < 4294967296)
  all_goals
    have HE := Lib.hid (by have h := HD.out; rw [h1, h2, h3, h4] at h; exact h)
    go_enter Try.func45, Try.ntmps45
    go_wp2_with fail
    go_ret
    exact ⟨by rw [HE.out]; rfl, HB.out⟩
set_option maxRecDepth 100000 in
theorem rrs_any (a b : Int) (w : World) : Calls Try.prog 46 #[.agg #[.int .i64 a, .int .i64 b]] w fun e w' => e = .returned (.bool (rsB a b)) ∧ Below w.heap.size w w' := by
  have HB := Lib.hid (ba (brefl w) (.cells #[.int .i64 a, .int .i64 b] 58))
  have HD := Lib.hid (show rsB a b = ((decide (-2147483648 ≤ a) && decide (a < 2147483648)) && (decide (-2147483648 ≤ b) && decide (b < 2147483648))) from rfl)
  cases h1 : decide (-2147483648 ≤ a) <;> cases h2 : decide (a < 2147483648) <;> cases h3 : decide (-2147483648 ≤ b) <;> cases h4 : decide (b < 2147483648)
  all_goals
    have HE := Lib.hid (by have h := HD.out; rw [h1, h2, h3, h4] at h; exact h)
    go_enter Try.func46, Try.ntmps46
    go_wp2_with fail
    go_ret
    exact ⟨by rw [HE.out]; rfl, HB.out⟩
end Go.Proofs.Ytkepbobnjplpoaa
/- The contracts of OfText. -/
namespace Go.Proofs.Ytkepbobnjplpoaa
open Go.RowKit
open Go.Tin
set_option linter.unusedVariables false
set_option linter.unusedSimpArgs false


def otB (s : ByteArray) : Bool := mayV 2 ((s.size : Int) + 1) (bytesL s ++ [0])
def otL (s : ByteArray) : List Int := if otB s then bytesL s ++ [0] else []
theorem byts_bytesL (s : ByteArray) : Byts (bytesL s) := by
  intro x hx
  obtain ⟨b, _, rfl⟩ := List.mem_map.1 hx
  have := b.toNat_lt
  omega
theorem bytesOf_bytesL (s : ByteArray) : Lib.bytesOf (bytesL s) = s.data.toList := by
  unfold Lib.bytesOf bytesL
  rw [List.map_map]
  conv => rhs; rw [← List.map_id s.data.toList]
  apply List.map_congr_left
  intro b _
  simp
theorem ix0_snoc : ∀ l : List Int, ix0 (l ++ [0]) = if ix0 l = -1 then (l.length : Int) else ix0 l
  | [] => rfl
  | x :: l => by
    have ih := ix0_snoc l
    have hb := ix0_cases l
    show (if x = 0 then (0 : Int) else if ix0 (l ++ [0]) = -1 then -1 else ix0 (l ++ [0]) + 1) = _
    have e : ix0 (x :: l) = if x = 0 then 0 else if ix0 l = -1 then -1 else ix0 l + 1 := rfl
    rw [ih, e, List.length_cons]
    by_cases hx : x = 0
    · rw [if_pos hx, if_pos hx, if_neg (by decide)]
    · rw [if_neg hx, if_neg hx]
      rcases hb with ⟨h, _⟩ | ⟨m, h, _, _, _⟩
      · rw [if_pos h, if_neg (show ¬ ((l.length : Int) = -1) by omega), if_pos h, if_pos rfl]; omega
      · have h2 : ¬ ix0 l = -1 := by omega
        simp only [if_neg h2]
        rw [if_neg (by omega)]
theorem ot_ix {s : ByteArray} (h : 0 ≤ Lib.indexByte s.data.toList 0) : otB s = false := by
  rw [← bytesOf_bytesL, ix0_lib (byts_bytesL s)] at h
  unfold otB
  apply mayV_f
  rintro ⟨-, -, -, -, h5⟩
  have h6 := h5 rfl
  unfold txB at h6
  rw [decide_eq_true_eq, ix0_snoc, List.length_append] at h6
  rcases ix0_cases (bytesL s) with ⟨h7, _⟩ | ⟨m, h7, h8, _⟩
  · omega
  · rw [if_neg (by omega)] at h6
    simp at h6
    omega
theorem byts_ot (s : ByteArray) : Byts (bytesL s ++ [0]) := byts_app (byts_bytesL s) (by intro x hx; simp at hx; omega)
theorem ot_len (s : ByteArray) : (bytesL s ++ [0]).length = s.size + 1 := by simp [bytesL_len]
theorem bwa_lt (w : World) (e : TypeId) (s : ByteArray) (o : Obj) : w.heap.size < ((Lib.bytesWorld w e s).alloc o).heap.size := by simp [Lib.bytesWorld_size]; omega
theorem bwa_cell (w : World) (e : TypeId) (s : ByteArray) (o : Obj) (j : Nat) (v : Value) (hj : ((bytesL s).map (Value.int .u8))[j]? = some v) : ((Lib.bytesWorld w e s).alloc o).cell? ((⟨w.heap.size, 0, none⟩ : Addr).add j) = some v := by
  rw [World.cell?_alloc_lt _ _ _ (by rw [add_none]; show w.heap.size < _; rw [Lib.bytesWorld_size]; omega)]
  exact bw_cell w e s j v hj
theorem bwa_room (w : World) (e : TypeId) (s : ByteArray) (o : Obj) (h : s.size + 1 ≤ grownCap w s.size 0 e) :
    (∃ v, ((Lib.bytesWorld w e s).alloc o).cell? ⟨w.heap.size, s.size, none⟩ = some v) ∧ ((Lib.bytesWorld w e s).alloc o).frozen? ⟨w.heap.size, s.size, none⟩ = false := by
  have hb := ba (brefl (Lib.bytesWorld w e s)) o
  obtain ⟨⟨v, h1⟩, h2⟩ := bw_room w e s h
  obtain ⟨c1, c2⟩ := bcell hb
  have hlt : w.heap.size < (Lib.bytesWorld w e s).heap.size := by rw [Lib.bytesWorld_size]; omega
  exact ⟨⟨v, (c1 _ _ hlt).trans h1⟩, (c2 _ _ hlt).trans h2⟩
theorem bwa_below (w : World) (e : TypeId) (s : ByteArray) (o : Obj) : Below w.heap.size w ((Lib.bytesWorld w e s).alloc o) := ba (bw_below w e s) o
theorem alloc_cell0 (w : World) (v : Value) (e : TypeId) : (w.alloc (.cells #[v] e)).cell? ⟨w.heap.size, 0, none⟩ = some v := World.cell?_alloc_new w _ _ _
theorem sl_grown {k : IntKind} {w w' : World} {A : Option Addr} {l : List Int} {g : Nat} (h : Sl k w A l) (hg : w.grownBy w' (some g)) (hne : ∀ b o, A = some ⟨b, o, none⟩ → b ≠ g) : Sl k w' A l := by
  rcases h with h | ⟨b, off, hA, hlt, hc⟩
  · exact .inl h
  · refine .inr ⟨b, off, hA, Nat.lt_of_lt_of_le hlt hg.size, fun i hi => ?_⟩
    have := hg.block b hlt (fun e => hne b off hA (by injection e))
    unfold World.cell? at hc ⊢
    simp only at hc ⊢
    rw [this]
    exact hc i hi
set_option maxRecDepth 100000 in
set_option maxHeartbeats 4000000 in
theorem rotext_any (s : ByteArray) (w : World) (hl : s.size ≤ 1000000) :
    Calls Try.prog 25 #[.string s] w fun e w' => ∃ A' c', e = .returned (.tuple #[.agg (vrow (on (otB s) 2) (on (otB s) ((s.size : Int) + 1)) A' (otL s).length c'), .bool (otB s)]) ∧ Sl .u8 w' A' (otL s) ∧ Below w.heap.size w w' := by
  have RX := Lib.hid (heap_alloc_new w (.cells (vrow 0 0 none 0 0) 48))
  have HB := Lib.hid (ba (brefl w) (.cells (vrow 0 0 none 0 0) 48))
  have hlz : (s.size : Int) ≤ 1000000 := by omega
  have HOX := Lib.hid (fun h => ot_ix (s := s) h)
  have HO := Lib.hid (show otB s = mayV 2 ((s.size : Int) + 1) (bytesL s ++ [0]) ∧ (otB s = true → otL s = bytesL s ++ [0]) ∧ (otB s = false → otL s = []) from ⟨rfl, fun h => by unfold otL; rw [h]; rfl, fun h => by unfold otL; rw [h]; rfl⟩)
  have HLL := Lib.hid (ot_len s)
  have HLB := Lib.hid (bytesL_len s)
  have HBY := Lib.hid (byts_ot s)
  go_enter Try.func25, Try.ntmps25
  go_wp2_with fail
  generalize hW : w.alloc (.cells #[.int .i64 0, .int .i64 0, .slice none 0 0] 48) = W at *
  have hWs : w.heap.size < W.heap.size := row_lt RX.out
  rw [Lib.run_convert_string_bytes _ 9 40 5 s Try.underlying9 Try.underlying40 Try.underlying5]
  simp only [Result.andThen]
  rw [Oper.upon_value]
  go_wp2_with ((at_builtin; refine Tin.wpl_appm bt5 _ rfl (.tmp 9) (.tmp 10) rfl W.heap.size W.heap.size (grownCap W s.size 0 5) (bytesL s) (by rw [HLB.out]; rfl) (fun j v hj => bwa_cell _ _ _ _ j v hj) (Nat.le_refl _) (bwa_lt _ _ _ _) (by rw [HLB.out]; exact bwa_room _ _ _ _) _ 0 rfl (alloc_cell0 _ _ _) (by rw [HLB.out]; omega) (by rw [HLB.out]; omega) ?_; intro A1 c1 w1 hs1 hb1 hn1; have HN := Lib.hid hn1; clear hn1; rw [HLB.out]; have HS := Lib.hid hs1; have HB1 := Lib.hid ((bwa_below W 5 s (.cells #[.int .u8 0] 5)).trans hb1); clear hs1 hb1))
  have HB2 := Lib.hid (ba (HB.out.trans (HB1.out.mono HB.out.size)) (.cells (vrow 2 ((s.size : Int) + 1) A1 (s.size + 1) c1) 48))
  have hlt1 : w.heap.size < w1.heap.size := Nat.lt_of_lt_of_le hWs HB1.out.size
  have R2 := Lib.hid (show (w1.alloc (.cells (vrow 2 ((s.size : Int) + 1) A1 (s.size + 1) c1) 48)).heap[w.heap.size]? = some (.cells (vrow 0 0 none 0 0) 48 (0, 0)) by rw [Below.heap_alloc _ _ _ hlt1]; exact (HB1.out.block _ hWs).trans RX.out)
  have R4 := Lib.hid (heap_alloc_new w1 (.cells (vrow 2 ((s.size : Int) + 1) A1 (s.size + 1) c1) 48))
  replace HS := Lib.hid (HS.out.keep (ba (brefl w1) (.cells (vrow 2 ((s.size : Int) + 1) A1 (s.size + 1) c1) 48)))
  have HM := Lib.hid (rmay_any 2 ((s.size : Int) + 1) A1 (bytesL s ++ [0]) c1 (w1.alloc (.cells (vrow 2 ((s.size : Int) + 1) A1 (s.size + 1) c1) 48)) HS.out (by rw [HLL.out]; omega) HBY.out)
  rw [HLL.out, ← HO.out.1] at HM
  go_wp2_with ((with_reducible refine wpl_load_row rtV ?_ (.tmp 4) ?_ (w1.heap.size) ?_ 48 (vrow 2 ((s.size : Int) + 1) A1 (s.size + 1) c1) ?_ R4.out ?_); rfl; rfl; rfl; rfl; simp only [Act.put, List.setIfInBounds_toArray, List.set_cons_succ, List.set_cons_zero])
  refine HM.out.mono ?_
  rintro e w2 ⟨rfl, hb2⟩
  have R2' := Lib.hid ((hb2.block _ (row_lt R2.out)).trans R2.out)
  have R4' := Lib.hid ((hb2.block _ (row_lt R4.out)).trans R4.out)
  have HS' := Lib.hid (HS.out.keep hb2)
  replace HB2 := Lib.hid (HB2.out.trans (hb2.mono HB2.out.size))
  clear hb2 HM HS R2 R4 HB1 HB RX
  cases hE : otB s with
  | false =>
    have HE := Lib.hid hE
    clear hE
    go_wp2_with ((with_reducible refine wpl_store_row rtV ?_ (.tmp 2) (.tmp 16) ?_ (w.heap.size) ?_ (vrow 0 0 none 0 0) ?_ (vrow_one _ _ _ _ _) 48 ?_ _ ?_ R2'.out ?_); rfl; rfl; rfl; rfl; rfl; rfl; intro w7 hr7 hg7 hs7; (try simp only [Act.put]))
    rw [HE.out, (HO.out.2.2 HE.out)]
    exact bodyPost_ret (res_row_tmp rtV rfl _ _ w.heap.size 48 (vrow 0 0 none 0 0) rfl (.bool false) rfl rfl hr7) rfl ⟨none, 0, rfl, .inl rfl, HB2.out.grown hg7 HB2.out.size (fun k hk => by cases hk; exact Nat.le_refl _)⟩
  | true =>
    have HE := Lib.hid (HO.out.2.1 hE)
    have HT := Lib.hid hE
    clear hE
    go_wp2_with (first | ((with_reducible refine wpl_load_row rtV ?_ (.tmp 4) ?_ (w1.heap.size) ?_ 48 (vrow 2 ((s.size : Int) + 1) A1 (s.size + 1) c1) ?_ R4'.out ?_); rfl; rfl; rfl; rfl; simp only [Act.put, List.setIfInBounds_toArray, List.set_cons_succ, List.set_cons_zero]) | ((with_reducible refine wpl_store_row rtV ?_ (.tmp 2) (.tmp 17) ?_ (w.heap.size) ?_ (vrow 2 ((s.size : Int) + 1) A1 (s.size + 1) c1) ?_ (vrow_one _ _ _ _ _) 48 ?_ _ ?_ R2'.out ?_); rfl; rfl; rfl; rfl; rfl; rfl; intro w7 hr7 hg7 hs7; (try simp only [Act.put])))
    rw [HE.out, HLL.out, HT.out]
    exact bodyPost_ret (res_row_tmp rtV rfl _ _ w.heap.size 48 (vrow 2 ((s.size : Int) + 1) A1 (s.size + 1) c1) rfl (.bool true) rfl rfl hr7) rfl ⟨A1, c1, rfl, sl_grown HS'.out hg7 (fun b o h => by have := HN.out b o h; omega), HB2.out.grown hg7 HB2.out.size (fun k hk => by cases hk; exact Nat.le_refl _)⟩
end Go.Proofs.Ytkepbobnjplpoaa
/- The reference's contract of a value of ratios. -/
namespace Go.Proofs.Ytkepbobnjplpoaa
open Go.RowKit
open Go.Tin
set_option linter.unusedVariables false
set_option linter.unusedSimpArgs false


theorem bt3 : ST Try.prog 86 3 .i64 8 := ST.of Try.underlying86 Try.underlying3 (by kernel_rfl)
/-- Is a pair a ratio of the type's kind. -/
def qB (k a b : Int) : Bool := if k = 5 then rpB a b else rsB a b
theorem pl_put {a : Int} (h : plB a 4 = true) : putB (plN a 4) 4 2 = true := by
  have e : plN a 4 = if a < 0 then a + 4294967296 else a := by unfold plN; rw [if_pos h]; rfl
  rw [pl4, Bool.and_eq_true, decide_eq_true_eq, decide_eq_true_eq] at h
  rw [e, put42, Bool.and_eq_true, decide_eq_true_eq, decide_eq_true_eq]
  split <;> omega
theorem nm5 (a : Int) : nmB 5 a = putB a 4 2 := by
  show ((!sgT 5 || plB a (prT 5)) && putB (nmV 5 a) (prT 5) 2) = _
  rfl
theorem nm10 (a : Int) : nmB 10 a = plB a 4 := by
  have h : nmB 10 a = (plB a 4 && putB (plN a 4) 4 2) := rfl
  rw [h]
  cases hp : plB a 4 with
  | false => rfl
  | true => rw [pl_put hp]; rfl
theorem rtQ_q {k : Int} (h : raT k = true) (a b : Int) : rtQ k a b = qB k a b := by
  rcases of_decide_eq_true h with rfl | rfl
  · have e : rtQ 5 a b = (nmB 5 a && (nmB 5 b && (rpB a b || rsB a b))) := rfl
    have e2 : qB 5 a b = rpB a b := rfl
    rw [e, e2, nm5, nm5]
    have e3 : rpB a b = (putB a 4 2 && putB b 4 2) := rfl
    rw [e3]
    cases putB a 4 2 <;> cases putB b 4 2 <;> rfl
  · have e : rtQ 10 a b = (nmB 10 a && (nmB 10 b && (rpB a b || rsB a b))) := rfl
    have e2 : qB 10 a b = rsB a b := rfl
    rw [e, e2, nm10, nm10]
    have e3 : rsB a b = (plB a 4 && plB b 4) := rfl
    rw [e3]
    cases plB a 4 <;> cases plB b 4 <;> simp
theorem rtQ_nm {k a b : Int} (h : rtQ k a b = true) : nmB k a = true ∧ nmB k b = true := by
  unfold rtQ at h
  simp only [Bool.and_eq_true] at h
  exact ⟨h.1, h.2.1⟩
theorem take_two {l : List Int} {i : Nat} (hi : i * 2 + 2 ≤ l.length) : l.take ((i + 1) * 2) = l.take (i * 2) ++ [nth l (i * 2), nth l (i * 2 + 1)] := by
  rw [show (i + 1) * 2 = i * 2 + 1 + 1 by omega, take_next (show i * 2 + 1 < l.length by omega), take_next (show i * 2 < l.length by omega), List.append_assoc]
  rfl
theorem nms_pairs (k : Int) (zs : List Int) : ∀ i, i * 2 ≤ zs.length → rtpB k zs i = true → nmsB k (zs.take (i * 2)) = true ∧ nmsL k (zs.take (i * 2)) = rtpL k zs i
  | 0, _, _ => by simp [nmsB, nmsL, rtpL]
  | i + 1, h, hb => by
    have hb' : (rtpB k zs i && rtQ k (nth zs (i * 2)) (nth zs (i * 2 + 1))) = true := hb
    rw [Bool.and_eq_true] at hb'
    obtain ⟨h1, h2⟩ := nms_pairs k zs i (by omega) hb'.1
    obtain ⟨h3, h4⟩ := rtQ_nm hb'.2
    rw [take_two (by omega), nmsB_app, nmsL_app, h1, h2]
    have e1 : nmsB k [nth zs (i * 2), nth zs (i * 2 + 1)] = (nmB k (nth zs (i * 2)) && (nmB k (nth zs (i * 2 + 1)) && true)) := rfl
    have e2 : nmsL k [nth zs (i * 2), nth zs (i * 2 + 1)] = nmL k (nth zs (i * 2)) ++ (nmL k (nth zs (i * 2 + 1)) ++ []) := rfl
    have e3 : rtpL k zs (i + 1) = rtpL k zs i ++ (kpL k (nth zs (i * 2)) ++ kpL k (nth zs (i * 2 + 1))) := rfl
    rw [e1, e2, e3, h3, h4]
    unfold kpL
    rw [h3, h4]
    simp
theorem ra_rof {k : Int} {n : Nat} {zs : List Int} (ht : raT k = true) (hz : zs.length = n * 2) (hb : rtpB k zs n = true) : rofB k (n : Int) zs = raB k n zs ∧ rofL k (n : Int) zs = raL k n zs := by
  obtain ⟨h1, h2⟩ := nms_pairs k zs n (by omega) hb
  rw [← hz, List.take_length] at h1 h2
  have e1 : rofB k (n : Int) zs = raB k n zs := by
    unfold rofB raB rmB
    rw [h1, h2, hb, ht]
    rfl
  refine ⟨e1, ?_⟩
  unfold rofL raL
  rw [e1, h2]
  by_cases h : raB k n zs = true
  · rw [if_pos h, if_pos h]
    have : rmB k n zs = true := by
      unfold raB at h
      rw [ht] at h
      simpa using h
    unfold rmL
    rw [if_pos this]
  · rw [if_neg h, if_neg h]
theorem ra_no {k : Int} {n : Nat} {zs : List Int} (h : raT k = false ∨ rtpB k zs n = false) : raB k n zs = false ∧ raL k n zs = [] := by
  have e : raB k n zs = false := by
    unfold raB rmB
    rcases h with h | h <;> rw [h] <;> simp
  exact ⟨e, by unfold raL; rw [e]; rfl⟩
set_option maxRecDepth 100000 in
set_option maxHeartbeats 8000000 in
theorem rorat_any (k : Int) (A : Option Addr) (n cap : Nat) (zs : List Int) (w : World) (hs : SlV w A (iv zs)) (hz : zs.length = n * 2) (hl : n ≤ 100000) :
    Calls Try.prog 24 #[.int .i64 k, .slice A n cap] w fun e w' => ∃ A' c', e = .returned (.tuple #[.agg (vrow (on (raB k n zs) k) (on (raB k n zs) (n : Int)) A' (raL k n zs).length c'), .bool (raB k n zs)]) ∧ Sl .u8 w' A' (raL k n zs) ∧ Below w.heap.size w w' := by
  have HB := Lib.hid (ba (brefl w) (.cells (vrow 0 0 none 0 0) 48))
  have HX := Lib.hid (heap_alloc_new w (.cells (vrow 0 0 none 0 0) 48))
  have HS := Lib.hid (hs.keep HB.out)
  have HZS := Lib.hid hz
  have HNO := Lib.hid (fun h => ra_no (k := k) (n := n) (zs := zs) h)
  have HYES := Lib.hid (fun h h2 => ra_rof (k := k) (n := n) (zs := zs) h hz h2)
  have nn : (n : Int) ≤ 100000 := by omega
  clear hs hz
  by_cases h5 : k = 5
  · subst h5
    have HT := Lib.hid (show raT 5 = true by decide)
    have HQ := Lib.hid (fun a b => rtQ_q HT.out a b)
    go_enter Try.func24, Try.ntmps24
    go_wp2_with fail
    have hsw : w.heap.size < (w.alloc (.cells (vrow 0 0 none 0 0) 48)).heap.size := by simp
    generalize w.alloc (.cells #[.int .i64 0, .int .i64 0, .slice none 0 0] 48) = W at *
    go_loopw [6, 7] (fun s6 s7 wr => ∃ (i : Nat) (A1 : Option Addr) (c1 : Nat), i ≤ n ∧ s7 = .int .i64 (i : Int) ∧ s6 = .slice A1 (i * 2) c1 ∧ rtpB 5 zs i = true ∧ Own .i64 3 wr W.heap.size (.slice A1 (i * 2) c1) (zs.take (i * 2)) ∧ Below W.heap.size W wr) (fun _ s7 _ => n - (intOf s7).toNat)
    case atStart => exact ⟨0, none, 0, by omega, rfl, rfl, rfl, by simpa using Own.nil_ _ _ _ _, Below.refl _ _⟩
    case round =>
      obtain ⟨i, A1, c1, hi, rfl, rfl, hok, hown, hb⟩ := hrel
      have HOK := Lib.hid hok
      have HO := Lib.hid hown
      have HBW := Lib.hid hb
      have HBw := Lib.hid (HB.out.trans (hb.mono HB.out.size))
      replace HX := Lib.hid ((hb.block _ hsw).trans HX.out)
      have hs1 : W.heap.size ≤ wr.heap.size := hb.size
      clear hok hown hb
      by_cases hil : i < n
      · have i1 : (i : Int) < (n : Int) := by omega
        have h2 : i * 2 + 2 ≤ zs.length := by rw [HZS.out]; omega
        obtain ⟨q, off, rfl, hql, -⟩ := HS.out.at_ (by simp; omega)
        have HCR := Lib.hid (cells2 (HS.out.keep HBW.out) i h2)
        have HNF := Lib.hid (fun h => rtpB_no (k := 5) (zs := zs) i h n hil)
        have HTK := Lib.hid (take_two h2)
        have HTL := Lib.hid (show (zs.take (i * 2)).length = i * 2 by rw [List.length_take]; omega)
        have HTM := Lib.hid (show (zs.take ((i + 1) * 2)).length = (i + 1) * 2 by rw [List.length_take]; omega)
        have HST := Lib.hid (show rtpB 5 zs (i + 1) = (rtpB 5 zs i && rtQ 5 (nth zs (i * 2)) (nth zs (i * 2 + 1))) from rfl)
        rw [HQ.out] at HST HNF
        clear h2
        generalize nth zs (i * 2) = Z0 at *
        generalize nth zs (i * 2 + 1) = Z1 at *
        go_wp2_with ((with_reducible refine wpl_loadv rtR ?_ (.tmp 26) ?_ q (off + i * 2) ?_ _ ?_ HCR.out ?_); rfl; rfl; rfl; rfl; simp only [Act.put, List.setIfInBounds_toArray, List.set_cons_succ, List.set_cons_zero])
        refine (rrp_any Z0 Z1 wr).mono ?_
        rintro e w3 ⟨rfl, hb3⟩
        replace HX := Lib.hid ((hb3.block _ (row_lt HX.out)).trans HX.out)
        replace HO := Lib.hid (HO.out.keep hb3)
        replace HBw := Lib.hid (HBw.out.trans (hb3.mono HBw.out.size))
        replace HBW := Lib.hid (HBW.out.trans (hb3.mono HBW.out.size))
        have HC0 := Lib.hid (show w3.cell? ⟨q, off + i * 2, none⟩ = some (.int .i64 Z0) ∧ w3.cell? ⟨q, off + i * 2 + 1, none⟩ = some (.int .i64 Z1) from ⟨(hb3.cell (p := ⟨q, off + i * 2, none⟩) (Nat.lt_of_lt_of_le hql hs1)).trans (HCR.out 0 _ rfl), (hb3.cell (p := ⟨q, off + i * 2 + 1, none⟩) (Nat.lt_of_lt_of_le hql hs1)).trans (HCR.out 1 _ rfl)⟩)
        replace hs1 := Nat.le_trans hs1 hb3.size
        clear hb3 HCR
        have HQK := Lib.hid (show qB 5 Z0 Z1 = rpB Z0 Z1 from rfl)
        rw [HQK.out] at HST HNF
        clear HQK
        cases hpt : rpB Z0 Z1 with
        | false =>
          have HEz := Lib.hid (HNO.out (.inr (HNF.out hpt)))
          clear hpt
          go_wp2_with ((with_reducible refine wpl_store_row rtV ?_ (.tmp 4) (.tmp 43) ?_ (w.heap.size) ?_ (vrow 0 0 none 0 0) ?_ (vrow_one _ _ _ _ _) 48 ?_ _ ?_ HX.out ?_); rfl; rfl; rfl; rfl; rfl; rfl; intro w7 hr7 hg7 hs7; (try simp only [Act.put]))
          rw [HEz.out.1, HEz.out.2]
          exact bodyPost_ret (res_row_tmp rtV rfl _ _ w.heap.size 48 (vrow 0 0 none 0 0) rfl (.bool false) rfl rfl hr7) rfl ⟨none, 0, rfl, .inl rfl, HBw.out.grown hg7 HBw.out.size (fun k hk => by cases hk; exact Nat.le_refl _)⟩
        | true =>
          have HOK' := Lib.hid (show rtpB 5 zs (i + 1) = true by rw [HST.out, HOK.out, hpt]; rfl)
          clear hpt HST HNF HOK
          have q0 : ∀ p : Bel W.heap.size w3.drew, p.w'.cell? ⟨q, off + i * 2, none⟩ = some (.int .i64 Z0) := fun p => (p.h.cell (p := ⟨q, off + i * 2, none⟩) hql).trans HC0.out.1
          have q1 : ∀ p : Bel W.heap.size w3.drew, p.w'.cell? ⟨q, off + i * 2 + 1, none⟩ = some (.int .i64 Z1) := fun p => (p.h.cell (p := ⟨q, off + i * 2 + 1, none⟩) hql).trans HC0.out.2
          go_wp2_with fail
          refine Tin.reg_begin W.heap.size 14 (by rfl) (by kernel_rfl) ?_
          refine Tin.reg_quiets [0, 1, 2, 3, 4, 5, 6, 7, 8, 9, 10] _ 3 rfl (by simp only [Tin.pick, List.map_cons, List.map_nil, Array.getD_eq_getD_getElem?, List.getElem?_toArray, List.getElem?_cons_zero, List.getElem?_cons_succ, Option.getD_some]; rfl) (by kernel_rfl) (by kernel_rfl) ?_
          repeat (first | go_big_quiet_step (fail))
          refine wpQuiet_nil ?_
          clear q0 q1
          refine Tin.reg_one 11 _ rfl (by kernel_rfl) ?_
          try simp only [List.getElem_toArray, List.getElem_cons_succ, List.getElem_cons_zero]
          go_wp2_with fail
          have hW3 := hs1
          refine ⟨W.heap.size, by have h := (ba (brefl w3) (.cells #[.int .i64 Z0, .int .i64 Z1] 3)).mono hs1; exact ⟨h.os, h.tape, h.output, h.size, h.block⟩, Nat.le_refl _, ?_⟩
          have HO4 := Lib.hid (HO.out.alloc (.cells #[.int .i64 Z0, .int .i64 Z1] 3)).drew
          have HBW4 := Lib.hid (ud' (HBW.out.trans ((ba (brefl w3) (.cells #[.int .i64 Z0, .int .i64 Z1] 3)).mono hs1)))
          have HX4 := Lib.hid (show ((w3.alloc (.cells #[.int .i64 Z0, .int .i64 Z1] 3)).drew).heap[w.heap.size]? = some (.cells (vrow 0 0 none 0 0) 48 (0, 0)) by show (w3.alloc _).heap[w.heap.size]? = _; rw [Below.heap_alloc _ _ _ (row_lt HX.out)]; exact HX.out)
          have HNS := Lib.hid (show Sl .i64 ((w3.alloc (.cells #[.int .i64 Z0, .int .i64 Z1] 3)).drew) (some ⟨w3.heap.size, 0, none⟩) [Z0, Z1] from Sl.new_ w3 _ _ _ rfl)
          refine Tin.reg_one 12 _ rfl (by kernel_rfl) ?_
          try simp only [List.getElem_toArray, List.getElem_cons_succ, List.getElem_cons_zero]
          go_wp2_with (at_builtin; refine Tin.wpl_app bt3 _ rfl (.tmp 44) (.tmp 55) rfl W.heap.size (.slice A1 (i * 2) c1) (zs.take (i * 2)) rfl HO4.out (some ⟨w3.heap.size, 0, none⟩) 2 2 [Z0, Z1] rfl HNS.out rfl (by rw [HTL.out]; simp; omega) (by rw [HTL.out]; simp; omega) (by show W.heap.size ≤ (w3.alloc _).heap.size; simp; omega) ?_; intro v5 w5 ho5 hg5 hw5; rw [← HTK.out] at ho5; obtain ⟨A5, c5, rfl⟩ := own_form ho5; rw [HTM.out] at ho5 ⊢; have HO5 := Lib.hid ho5; have HG5 := Lib.hid hg5; clear ho5 hg5 hw5)
          have hlow : ∀ g, (Value.slice A1 (i * 2) c1).ownBlock = some g → W.heap.size ≤ g := fun g hg => (World.ownsRow.lt HO4.out g hg).1
          have HBW5 := Lib.hid (HBW4.out.grown HG5.out HBW4.out.size hlow)
          have HX5 := Lib.hid ((HG5.out.block w.heap.size (row_lt HX4.out) (fun e => by have := hlow _ e.symm; omega)).trans HX4.out)
          refine ⟨W.heap.size, (Below.refl _ _).grown HG5.out (by show W.heap.size ≤ (w3.alloc _).heap.size; simp; omega) hlow, Nat.le_refl _, ?_⟩
          refine Tin.reg_quiets [13] _ 0 rfl (by simp only [Tin.pick, List.map_cons, List.map_nil, Array.getD_eq_getD_getElem?, List.getElem?_toArray, List.getElem?_cons_zero, List.getElem?_cons_succ, Option.getD_some]; rfl) (by kernel_rfl) (by kernel_rfl) ?_
          repeat (first | go_big_quiet_step (fail))
          refine wpQuiet_nil ?_
          refine Tin.reg_done (by kernel_rfl) ?_
          clear hlow hW3
          go_wp2_with fail
          go_roundw
          case rel => exact ⟨i + 1, A5, c5, by omega, by go_num, rfl, HOK'.out, HO5.out, HBW5.out⟩
          case measure => simp [intOf]; omega
      · obtain rfl : i = n := by omega
        have HTL := Lib.hid (show zs.take (i * 2) = zs by rw [← HZS.out, List.take_length])
        rw [HTL.out] at HO
        obtain ⟨hA, hsl⟩ := HO.out.sl'
        obtain ⟨hy1, hy2⟩ := HYES.out HT.out HOK.out
        have HR := Lib.hid (rof__any 5 2 (i : Int) A1 zs c1 wr hsl (by rw [HZS.out]; omega) (by decide) (by rw [HZS.out, Int.tdiv_eq_ediv_of_nonneg (by omega)]; omega) (by omega) (by omega))
        rw [hy1, hy2, HZS.out] at HR
        clear hA hsl hy1 hy2
        go_wp2_with fail
        refine HR.out.mono ?_
        rintro e w5 ⟨A5, c5, rfl, ho5, hb5⟩
        have hlt := row_lt HX.out
        have HX5 := Lib.hid ((hb5.block _ hlt).trans HX.out)
        replace HBw := Lib.hid (HBw.out.trans (hb5.mono HBw.out.size))
        have HO5 := Lib.hid ho5
        clear hb5 ho5 HR HO HX HYES HNO
        go_wp2_with ((with_reducible refine wpl_store_row rtV ?_ (.tmp 4) (.tmp 60) ?_ (w.heap.size) ?_ (vrow (on (raB 5 i zs) 5) (on (raB 5 i zs) (i : Int)) A5 (raL 5 i zs).length c5) ?_ (vrow_one _ _ _ _ _) 48 ?_ _ ?_ HX5.out ?_); rfl; rfl; rfl; rfl; rfl; rfl; intro w7 hr7 hg7 hs7; (try simp only [Act.put]))
        exact bodyPost_ret (res_row_tmp rtV rfl _ _ w.heap.size 48 (vrow (on (raB 5 i zs) 5) (on (raB 5 i zs) (i : Int)) A5 (raL 5 i zs).length c5) rfl (.bool (raB 5 i zs)) rfl rfl hr7) rfl ⟨A5, c5, rfl, (HO5.out.kept hg7 (by
          cases hq : (Value.slice A5 (raL 5 i zs).length c5).ownBlock with
          | none => exact .inl rfl
          | some q => exact .inr (fun e => by have h1 := (World.ownsRow.lt HO5.out q hq).1; have e' : q = w.heap.size := Option.some.inj e; omega))).sl'.2, HBw.out.grown hg7 HBw.out.size (fun k hk => by cases hk; exact Nat.le_refl _)⟩
  have d5 : (k != 5) = true := by simpa using h5
  by_cases h10 : k = 10
  · subst h10
    clear h5 d5
    have HT := Lib.hid (show raT 10 = true by decide)
    have HQ := Lib.hid (fun a b => rtQ_q HT.out a b)
    go_enter Try.func24, Try.ntmps24
    go_wp2_with fail
    have hsw : w.heap.size < (w.alloc (.cells (vrow 0 0 none 0 0) 48)).heap.size := by simp
    generalize w.alloc (.cells #[.int .i64 0, .int .i64 0, .slice none 0 0] 48) = W at *
    go_loopw [6, 7] (fun s6 s7 wr => ∃ (i : Nat) (A1 : Option Addr) (c1 : Nat), i ≤ n ∧ s7 = .int .i64 (i : Int) ∧ s6 = .slice A1 (i * 2) c1 ∧ rtpB 10 zs i = true ∧ Own .i64 3 wr W.heap.size (.slice A1 (i * 2) c1) (zs.take (i * 2)) ∧ Below W.heap.size W wr) (fun _ s7 _ => n - (intOf s7).toNat)
    case atStart => exact ⟨0, none, 0, by omega, rfl, rfl, rfl, by simpa using Own.nil_ _ _ _ _, Below.refl _ _⟩
    case round =>
      obtain ⟨i, A1, c1, hi, rfl, rfl, hok, hown, hb⟩ := hrel
      have HOK := Lib.hid hok
      have HO := Lib.hid hown
      have HBW := Lib.hid hb
      have HBw := Lib.hid (HB.out.trans (hb.mono HB.out.size))
      replace HX := Lib.hid ((hb.block _ hsw).trans HX.out)
      have hs1 : W.heap.size ≤ wr.heap.size := hb.size
      clear hok hown hb
      by_cases hil : i < n
      · have i1 : (i : Int) < (n : Int) := by omega
        have h2 : i * 2 + 2 ≤ zs.length := by rw [HZS.out]; omega
        obtain ⟨q, off, rfl, hql, -⟩ := HS.out.at_ (by simp; omega)
        have HCR := Lib.hid (cells2 (HS.out.keep HBW.out) i h2)
        have HNF := Lib.hid (fun h => rtpB_no (k := 10) (zs := zs) i h n hil)
        have HTK := Lib.hid (take_two h2)
        have HTL := Lib.hid (show (zs.take (i * 2)).length = i * 2 by rw [List.length_take]; omega)
        have HTM := Lib.hid (show (zs.take ((i + 1) * 2)).length = (i + 1) * 2 by rw [List.length_take]; omega)
        have HST := Lib.hid (show rtpB 10 zs (i + 1) = (rtpB 10 zs i && rtQ 10 (nth zs (i * 2)) (nth zs (i * 2 + 1))) from rfl)
        rw [HQ.out] at HST HNF
        clear h2
        generalize nth zs (i * 2) = Z0 at *
        generalize nth zs (i * 2 + 1) = Z1 at *
        go_wp2_with ((with_reducible refine wpl_loadv rtR ?_ (.tmp 37) ?_ q (off + i * 2) ?_ _ ?_ HCR.out ?_); rfl; rfl; rfl; rfl; simp only [Act.put, List.setIfInBounds_toArray, List.set_cons_succ, List.set_cons_zero])
        refine (rrs_any Z0 Z1 wr).mono ?_
        rintro e w3 ⟨rfl, hb3⟩
        replace HX := Lib.hid ((hb3.block _ (row_lt HX.out)).trans HX.out)
        replace HO := Lib.hid (HO.out.keep hb3)
        replace HBw := Lib.hid (HBw.out.trans (hb3.mono HBw.out.size))
        replace HBW := Lib.hid (HBW.out.trans (hb3.mono HBW.out.size))
        have HC0 := Lib.hid (show w3.cell? ⟨q, off + i * 2, none⟩ = some (.int .i64 Z0) ∧ w3.cell? ⟨q, off + i * 2 + 1, none⟩ = some (.int .i64 Z1) from ⟨(hb3.cell (p := ⟨q, off + i * 2, none⟩) (Nat.lt_of_lt_of_le hql hs1)).trans (HCR.out 0 _ rfl), (hb3.cell (p := ⟨q, off + i * 2 + 1, none⟩) (Nat.lt_of_lt_of_le hql hs1)).trans (HCR.out 1 _ rfl)⟩)
        replace hs1 := Nat.le_trans hs1 hb3.size
        clear hb3 HCR
        have HQK := Lib.hid (show qB 10 Z0 Z1 = rsB Z0 Z1 from rfl)
        rw [HQK.out] at HST HNF
        clear HQK
        cases hpt : rsB Z0 Z1 with
        | false =>
          have HEz := Lib.hid (HNO.out (.inr (HNF.out hpt)))
          clear hpt
          go_wp2_with ((with_reducible refine wpl_store_row rtV ?_ (.tmp 4) (.tmp 43) ?_ (w.heap.size) ?_ (vrow 0 0 none 0 0) ?_ (vrow_one _ _ _ _ _) 48 ?_ _ ?_ HX.out ?_); rfl; rfl; rfl; rfl; rfl; rfl; intro w7 hr7 hg7 hs7; (try simp only [Act.put]))
          rw [HEz.out.1, HEz.out.2]
          exact bodyPost_ret (res_row_tmp rtV rfl _ _ w.heap.size 48 (vrow 0 0 none 0 0) rfl (.bool false) rfl rfl hr7) rfl ⟨none, 0, rfl, .inl rfl, HBw.out.grown hg7 HBw.out.size (fun k hk => by cases hk; exact Nat.le_refl _)⟩
        | true =>
          have HOK' := Lib.hid (show rtpB 10 zs (i + 1) = true by rw [HST.out, HOK.out, hpt]; rfl)
          clear hpt HST HNF HOK
          have q0 : ∀ p : Bel W.heap.size w3.drew, p.w'.cell? ⟨q, off + i * 2, none⟩ = some (.int .i64 Z0) := fun p => (p.h.cell (p := ⟨q, off + i * 2, none⟩) hql).trans HC0.out.1
          have q1 : ∀ p : Bel W.heap.size w3.drew, p.w'.cell? ⟨q, off + i * 2 + 1, none⟩ = some (.int .i64 Z1) := fun p => (p.h.cell (p := ⟨q, off + i * 2 + 1, none⟩) hql).trans HC0.out.2
          go_wp2_with fail
          refine Tin.reg_begin W.heap.size 14 (by rfl) (by kernel_rfl) ?_
          refine Tin.reg_quiets [0, 1, 2, 3, 4, 5, 6, 7, 8, 9, 10] _ 3 rfl (by simp only [Tin.pick, List.map_cons, List.map_nil, Array.getD_eq_getD_getElem?, List.getElem?_toArray, List.getElem?_cons_zero, List.getElem?_cons_succ, Option.getD_some]; rfl) (by kernel_rfl) (by kernel_rfl) ?_
          repeat (first | go_big_quiet_step (fail))
          refine wpQuiet_nil ?_
          clear q0 q1
          refine Tin.reg_one 11 _ rfl (by kernel_rfl) ?_
          try simp only [List.getElem_toArray, List.getElem_cons_succ, List.getElem_cons_zero]
          go_wp2_with fail
          have hW3 := hs1
          refine ⟨W.heap.size, by have h := (ba (brefl w3) (.cells #[.int .i64 Z0, .int .i64 Z1] 3)).mono hs1; exact ⟨h.os, h.tape, h.output, h.size, h.block⟩, Nat.le_refl _, ?_⟩
          have HO4 := Lib.hid (HO.out.alloc (.cells #[.int .i64 Z0, .int .i64 Z1] 3)).drew
          have HBW4 := Lib.hid (ud' (HBW.out.trans ((ba (brefl w3) (.cells #[.int .i64 Z0, .int .i64 Z1] 3)).mono hs1)))
          have HX4 := Lib.hid (show ((w3.alloc (.cells #[.int .i64 Z0, .int .i64 Z1] 3)).drew).heap[w.heap.size]? = some (.cells (vrow 0 0 none 0 0) 48 (0, 0)) by show (w3.alloc _).heap[w.heap.size]? = _; rw [Below.heap_alloc _ _ _ (row_lt HX.out)]; exact HX.out)
          have HNS := Lib.hid (show Sl .i64 ((w3.alloc (.cells #[.int .i64 Z0, .int .i64 Z1] 3)).drew) (some ⟨w3.heap.size, 0, none⟩) [Z0, Z1] from Sl.new_ w3 _ _ _ rfl)
          refine Tin.reg_one 12 _ rfl (by kernel_rfl) ?_
          try simp only [List.getElem_toArray, List.getElem_cons_succ, List.getElem_cons_zero]
          go_wp2_with (at_builtin; refine Tin.wpl_app bt3 _ rfl (.tmp 44) (.tmp 55) rfl W.heap.size (.slice A1 (i * 2) c1) (zs.take (i * 2)) rfl HO4.out (some ⟨w3.heap.size, 0, none⟩) 2 2 [Z0, Z1] rfl HNS.out rfl (by rw [HTL.out]; simp; omega) (by rw [HTL.out]; simp; omega) (by show W.heap.size ≤ (w3.alloc _).heap.size; simp; omega) ?_; intro v5 w5 ho5 hg5 hw5; rw [← HTK.out] at ho5; obtain ⟨A5, c5, rfl⟩ := own_form ho5; rw [HTM.out] at ho5 ⊢; have HO5 := Lib.hid ho5; have HG5 := Lib.hid hg5; clear ho5 hg5 hw5)
          have hlow : ∀ g, (Value.slice A1 (i * 2) c1).ownBlock = some g → W.heap.size ≤ g := fun g hg => (World.ownsRow.lt HO4.out g hg).1
          have HBW5 := Lib.hid (HBW4.out.grown HG5.out HBW4.out.size hlow)
          have HX5 := Lib.hid ((HG5.out.block w.heap.size (row_lt HX4.out) (fun e => by have := hlow _ e.symm; omega)).trans HX4.out)
          refine ⟨W.heap.size, (Below.refl _ _).grown HG5.out (by show W.heap.size ≤ (w3.alloc _).heap.size; simp; omega) hlow, Nat.le_refl _, ?_⟩
          refine Tin.reg_quiets [13] _ 0 rfl (by simp only [Tin.pick, List.map_cons, List.map_nil, Array.getD_eq_getD_getElem?, List.getElem?_toArray, List.getElem?_cons_zero, List.getElem?_cons_succ, Option.getD_some]; rfl) (by kernel_rfl) (by kernel_rfl) ?_
          repeat (first | go_big_quiet_step (fail))
          refine wpQuiet_nil ?_
          refine Tin.reg_done (by kernel_rfl) ?_
          clear hlow hW3
          go_wp2_with fail
          go_roundw
          case rel => exact ⟨i + 1, A5, c5, by omega, by go_num, rfl, HOK'.out, HO5.out, HBW5.out⟩
          case measure => simp [intOf]; omega
      · obtain rfl : i = n := by omega
        have HTL := Lib.hid (show zs.take (i * 2) = zs by rw [← HZS.out, List.take_length])
        rw [HTL.out] at HO
        obtain ⟨hA, hsl⟩ := HO.out.sl'
        obtain ⟨hy1, hy2⟩ := HYES.out HT.out HOK.out
        have HR := Lib.hid (rof__any 10 2 (i : Int) A1 zs c1 wr hsl (by rw [HZS.out]; omega) (by decide) (by rw [HZS.out, Int.tdiv_eq_ediv_of_nonneg (by omega)]; omega) (by omega) (by omega))
        rw [hy1, hy2, HZS.out] at HR
        clear hA hsl hy1 hy2
        go_wp2_with fail
        refine HR.out.mono ?_
        rintro e w5 ⟨A5, c5, rfl, ho5, hb5⟩
        have hlt := row_lt HX.out
        have HX5 := Lib.hid ((hb5.block _ hlt).trans HX.out)
        replace HBw := Lib.hid (HBw.out.trans (hb5.mono HBw.out.size))
        have HO5 := Lib.hid ho5
        clear hb5 ho5 HR HO HX HYES HNO
        go_wp2_with ((with_reducible refine wpl_store_row rtV ?_ (.tmp 4) (.tmp 60) ?_ (w.heap.size) ?_ (vrow (on (raB 10 i zs) 10) (on (raB 10 i zs) (i : Int)) A5 (raL 10 i zs).length c5) ?_ (vrow_one _ _ _ _ _) 48 ?_ _ ?_ HX5.out ?_); rfl; rfl; rfl; rfl; rfl; rfl; intro w7 hr7 hg7 hs7; (try simp only [Act.put]))
        exact bodyPost_ret (res_row_tmp rtV rfl _ _ w.heap.size 48 (vrow (on (raB 10 i zs) 10) (on (raB 10 i zs) (i : Int)) A5 (raL 10 i zs).length c5) rfl (.bool (raB 10 i zs)) rfl rfl hr7) rfl ⟨A5, c5, rfl, (HO5.out.kept hg7 (by
          cases hq : (Value.slice A5 (raL 10 i zs).length c5).ownBlock with
          | none => exact .inl rfl
          | some q => exact .inr (fun e => by have h1 := (World.ownsRow.lt HO5.out q hq).1; have e' : q = w.heap.size := Option.some.inj e; omega))).sl'.2, HBw.out.grown hg7 HBw.out.size (fun k hk => by cases hk; exact Nat.le_refl _)⟩
  have d10 : (k != 10) = true := by simpa using h10
  have HEz := Lib.hid (HNO.out (.inl (decide_eq_false (by omega))))
  have HBw := Lib.hid HB.out
  clear h5 h10
  go_enter Try.func24, Try.ntmps24
  go_wp2_with ((with_reducible refine wpl_store_row rtV ?_ (.tmp 4) (.tmp 14) ?_ (w.heap.size) ?_ (vrow 0 0 none 0 0) ?_ (vrow_one _ _ _ _ _) 48 ?_ _ ?_ HX.out ?_); rfl; rfl; rfl; rfl; rfl; rfl; intro w7 hr7 hg7 hs7; (try simp only [Act.put]))
  rw [HEz.out.1, HEz.out.2]
  exact bodyPost_ret (res_row_tmp rtV rfl _ _ w.heap.size 48 (vrow 0 0 none 0 0) rfl (.bool false) rfl rfl hr7) rfl ⟨none, 0, rfl, .inl rfl, HBw.out.grown hg7 HBw.out.size (fun k hk => by cases hk; exact Nat.le_refl _)⟩
end Go.Proofs.Ytkepbobnjplpoaa
