/- The contracts of Get and its reference: the number in bytes. -/
import Derived.Test.YtmdcdmgbillehaaOcB
import Derived.OpenShut
namespace Go.Proofs.Ytmdcdmgbillehaa
open Go.RowKit
open Go.Tin
set_option linter.unusedVariables false
set_option linter.unusedSimpArgs false


/-- The bytes of a number, in the order of their weight. -/
def segO (l : List Int) (a s o : Int) : List Int := ordL o ((l.drop a.toNat).take s.toNat)
theorem getB_t {n : Nat} {a s o : Int} (h : getB n a s o = true) : szB s = true ∧ orB o = true ∧ 0 ≤ a ∧ a ≤ (n : Int) - s := by
  unfold getB mayO at h
  simp only [Bool.and_eq_true, decide_eq_true_eq] at h
  exact ⟨h.1.1, h.1.2, h.2.1, h.2.2⟩
theorem seg_len (l : List Int) (a s : Nat) (h : a + s ≤ l.length) : ((l.drop a).take s).length = s := by
  rw [List.length_take, List.length_drop]; omega
theorem seg_nth (l : List Int) (a s i : Nat) (h : a + s ≤ l.length) (hi : i < s) : nth ((l.drop a).take s) i = nth l (a + i) := by
  unfold nth
  simp [List.getD_eq_getElem?_getD, hi]
theorem rev_nth (l : List Int) (i : Nat) (hi : i < l.length) : nth l.reverse i = nth l (l.length - 1 - i) := by
  unfold nth
  rw [List.getD_eq_getElem?_getD, List.getElem?_reverse hi, List.getD_eq_getElem?_getD]
theorem segO_len (l : List Int) (a s : Nat) (o : Int) (h : a + s ≤ l.length) : (segO l a s o).length = s := by
  unfold segO ordL
  split <;> simp [seg_len l a s h, List.length_reverse]
theorem segO_nth (l : List Int) (a s i : Nat) (o : Int) (h : a + s ≤ l.length) (hi : i < s) : nth (segO l a s o) i = nth l (if o = 1 then a + s - 1 - i else a + i) := by
  unfold segO ordL
  simp only [Int.toNat_natCast]
  split
  · rw [rev_nth _ _ (by rw [seg_len l a s h]; exact hi), seg_len l a s h, seg_nth l a s _ h (by omega)]
    congr 1
    omega
  · rw [seg_nth l a s i h hi]
theorem be_step (l : List Int) (i : Nat) (h : i < l.length) : be (l.take (i + 1)) = be (l.take i) * 256 + nth l i := by
  rw [take_snoc_nth l i h, be_snoc]; omega
def Byts (l : List Int) : Prop := ∀ x ∈ l, 0 ≤ x ∧ x < 256
theorem Byts.nth {l : List Int} (h : Byts l) (i : Nat) : 0 ≤ nth l i ∧ nth l i < 256 := by
  unfold Tin.nth
  rw [List.getD_eq_getElem?_getD]
  by_cases hj : i < l.length
  · rw [List.getElem?_eq_getElem hj]; exact h _ (List.getElem_mem hj)
  · rw [List.getElem?_eq_none (by omega)]; simp
theorem Byts.sub {l m : List Int} (h : Byts l) (hm : ∀ x ∈ m, x ∈ l) : Byts m := fun x hx => h x (hm x hx)
theorem Byts.seg {l : List Int} (h : Byts l) (a s o : Int) : Byts (segO l a s o) := h.sub fun x hx => by
  unfold segO ordL at hx
  have key : ∀ y, y ∈ (l.drop a.toNat).take s.toNat → y ∈ l := fun y hy => List.mem_of_mem_drop (List.mem_of_mem_take hy)
  split at hx
  · exact key x (List.mem_reverse.1 hx)
  · exact key x hx
theorem Byts.take {l : List Int} (h : Byts l) (i : Nat) : Byts (l.take i) := h.sub fun _ hx => List.mem_of_mem_take hx
theorem Byts.drop {l : List Int} (h : Byts l) (i : Nat) : Byts (l.drop i) := h.sub fun _ hx => List.mem_of_mem_drop hx
theorem byts_wf {l : List Int} (h : ∀ z ∈ l, (Lit.int .u8 z).wf = true) : Byts l := fun z hz => by
  have := Go.bounds_u8 (h z hz)
  omega
theorem ret_ib {a b : Int} {p q : Bool} (h : a = b) (h' : p = q) : Ending.returned (.tuple #[.int .i64 a, .bool p]) = .returned (.tuple #[.int .i64 b, .bool q]) := by rw [h, h']
theorem be_top {l : List Int} (h : Byts l) {k : Nat} (hk : l.length ≤ k) (hk4 : k ≤ 4) : 0 ≤ be l ∧ be l < 4294967296 ∧ (k ≤ 3 → be l < 16777216) := by
  obtain ⟨h0, h1⟩ := be_bd l h
  have key : (256 : Int) ^ l.length ≤ 256 ^ k := by
    rcases (by omega : k = 0 ∨ k = 1 ∨ k = 2 ∨ k = 3 ∨ k = 4) with rfl | rfl | rfl | rfl | rfl <;>
      (rcases (by omega : l.length = 0 ∨ l.length = 1 ∨ l.length = 2 ∨ l.length = 3 ∨ l.length = 4) with e | e | e | e | e <;> rw [e] at hk ⊢ <;> first | decide | omega)
  refine ⟨h0, ?_, fun hk3 => ?_⟩
  · have : (256 : Int) ^ k ≤ 256 ^ 4 := by rcases (by omega : k = 0 ∨ k = 1 ∨ k = 2 ∨ k = 3 ∨ k = 4) with rfl | rfl | rfl | rfl | rfl <;> decide
    have e : (256 : Int) ^ 4 = 4294967296 := by decide
    omega
  · have : (256 : Int) ^ k ≤ 256 ^ 3 := by rcases (by omega : k = 0 ∨ k = 1 ∨ k = 2 ∨ k = 3) with rfl | rfl | rfl | rfl <;> decide
    have e : (256 : Int) ^ 3 = 16777216 := by decide
    omega

set_option maxRecDepth 100000 in
set_option maxHeartbeats 1000000 in
theorem get_no (A : Option Addr) (n c : Nat) (a s o : Int) (w : World) (hn : n ≤ 1000000000) (hno : getB n a s o = false) :
    Calls Try.prog 70 #[.slice A n c, .int .i64 a, .int .i64 s, .int .i64 o] w fun e w' => e = .returned (.tuple #[.int .i64 0, .bool false]) ∧ Below w.heap.size w w' := by
  go_enter Try.func70, Try.ntmps70
  go_wp2_with fail
  refine (may_any s o w).mono ?_
  rintro e w1 ⟨rfl, hb⟩
  by_cases hm : mayO s o = true
  · unfold getB at hno
    rw [hm, Bool.true_and] at hno
    rw [hm]
    have hs : szB s = true := by unfold mayO at hm; rw [Bool.and_eq_true] at hm; exact hm.1
    have hs' := szB_t hs
    have s0 : 0 ≤ s := by omega
    have s1 : s ≤ 4 := by omega
    clear hm hs hs'
    by_cases h0 : a < 0
    · have d0 : decide (a < 0) = true := by simpa using h0
      clear hno
      go_wp2_with fail
      go_ret2
      exact ⟨rfl, hb⟩
    · have d0 : decide (a < 0) = false := by simpa using h0
      have d1 : decide ((n : Int) - s < a) = true := by simp at hno; simp; omega
      clear hno
      go_wp2_with fail
      go_ret2
      exact ⟨rfl, hb⟩
  · have hm' : mayO s o = false := by simpa using hm
    rw [hm']
    clear hno hm hm'
    go_wp2_with fail
    go_ret2
    exact ⟨rfl, hb⟩

set_option maxRecDepth 100000 in
set_option maxHeartbeats 1000000 in
theorem get_yes (A : Option Addr) (l : List Int) (c : Nat) (a s : Nat) (o : Int) (w : World) (hs : Sl .u8 w A l) (hl : l.length ≤ 1000000000) (hby : Byts l) (hy : getB l.length a s o = true) :
    Calls Try.prog 70 #[.slice A l.length c, .int .i64 (a : Int), .int .i64 (s : Int), .int .i64 o] w fun e w' => e = .returned (.tuple #[.int .i64 (be (segO l a s o)), .bool true]) ∧ Below w.heap.size w w' := by
  obtain ⟨hz, ho, a0, a1⟩ := getB_t hy
  have hmay : mayO s o = true := by unfold mayO; rw [hz, ho]; rfl
  have hs4 : s ≤ 4 ∧ 1 ≤ s := by have := szB_t hz; omega
  have hfit : a + s ≤ l.length := by omega
  have ho' := orB_t ho
  have HSL := Lib.hid (segO_len l a s o hfit)
  have HSN := Lib.hid (fun i hi => segO_nth l a s i o hfit hi)
  have HBS := Lib.hid (hby.seg a s o)
  have HS := Lib.hid hs
  have HB := Lib.hid hby
  have HM := Lib.hid hmay
  generalize segO l a s o = q at *
  clear hs hby hz ho hy hmay
  have d1 : decide ((l.length : Int) - (s : Int) < (a : Int)) = false := by simp; omega
  go_enter Try.func70, Try.ntmps70
  go_wp2_with fail
  refine (may_any s o w).mono ?_
  rintro e w1 ⟨rfl, hb⟩
  rw [HM.out]
  go_wp2_with fail
  go_loop [10, 30] (fun s10 s30 => ∃ i : Nat, i ≤ s ∧ s30 = .int .i64 (i : Int) ∧ s10 = .int .i64 (be (q.take i))) (fun _ s30 => s - (intOf s30).toNat)
  case atStart => exact ⟨0, by omega, rfl, rfl⟩
  case round =>
    obtain ⟨i, hi, rfl, rfl⟩ := hrel
    by_cases his : i < s
    · have i1 : (i : Int) < (s : Int) := by omega
      obtain ⟨b, off, rfl, hlt, hcell⟩ := (HS.out.keep hb).at_ (by omega)
      obtain ⟨n0, n1, n2⟩ := be_top (HBS.out.take i) (show (q.take i).length ≤ i by rw [List.length_take]; omega) (by omega)
      have n3 := n2 (by omega)
      have hst := be_step q i (by rw [HSL.out]; exact his)
      have hx := HSN.out i his
      rw [hx] at hst
      rcases ho' with rfl | rfl
      · rw [if_pos rfl] at hst
        have k0 := hcell (a + s - 1 - i) (by omega)
        rw [show l.getD (a + s - 1 - i) 0 = nth l (a + s - 1 - i) from rfl] at k0
        have e1 : (a : Int) + (s : Int) - 1 - (i : Int) = ((a + s - 1 - i : Nat) : Int) := by omega
        have b0 := HB.out.nth (a + s - 1 - i)
        have hor := i64_or_byte (be (q.take i)) (nth l (a + s - 1 - i)) n0 n1 b0.1 b0.2
        have HST := Lib.hid hst
        clear hst hx hcell n2
        go_wp2_with fail
        go_round
        case rel => exact ⟨i + 1, by omega, by go_num, by rw [HST.out]⟩
        case measure => simp [intOf]; omega
      · rw [if_neg (by decide)] at hst
        have k0 := hcell (a + i) (by omega)
        rw [show l.getD (a + i) 0 = nth l (a + i) from rfl] at k0
        have b0 := HB.out.nth (a + i)
        have hor := i64_or_byte (be (q.take i)) (nth l (a + i)) n0 n1 b0.1 b0.2
        have HST := Lib.hid hst
        clear hst hx hcell n2
        go_wp2_with fail
        go_round
        case rel => exact ⟨i + 1, by omega, by go_num, by rw [HST.out]⟩
        case measure => simp [intOf]; omega
    · obtain rfl : i = s := by omega
      go_wp2_with fail
      go_ret2
      exact ⟨ret_ib (by rw [List.take_of_length_le (by rw [HSL.out]; omega)]) rfl, hb⟩

set_option maxRecDepth 100000 in
set_option maxHeartbeats 1000000 in
theorem get_any (A : Option Addr) (l : List Int) (c : Nat) (a s o : Int) (w : World) (hs : Sl .u8 w A l) (hl : l.length ≤ 1000000000) (hby : Byts l) :
    Calls Try.prog 70 #[.slice A l.length c, .int .i64 a, .int .i64 s, .int .i64 o] w fun e w' => e = .returned (.tuple #[.int .i64 (getN l a s o), .bool (getB l.length a s o)]) ∧ Below w.heap.size w w' := by
  by_cases h : getB l.length a s o = true
  · obtain ⟨hz, ho, a0, a1⟩ := getB_t h
    obtain ⟨a, rfl⟩ := Int.eq_ofNat_of_zero_le a0
    obtain ⟨s, rfl⟩ := Int.eq_ofNat_of_zero_le (show 0 ≤ s by have := szB_t hz; omega)
    refine (get_yes A l c a s o w hs hl hby h).mono ?_
    rintro e w' ⟨rfl, hb⟩
    exact ⟨ret_ib (by unfold getN; rw [if_pos h]; rfl) h.symm, hb⟩
  · have h' : getB l.length a s o = false := by simpa using h
    refine (get_no A l.length c a s o w hl h').mono ?_
    rintro e w' ⟨rfl, hb⟩
    exact ⟨ret_ib (by unfold getN; rw [if_neg h]) h'.symm, hb⟩
end Go.Proofs.Ytmdcdmgbillehaa
