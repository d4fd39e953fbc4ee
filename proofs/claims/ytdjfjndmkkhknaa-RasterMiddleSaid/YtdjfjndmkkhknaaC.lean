/- The contracts of a picture's places: at, near, At, Byte. -/
import Derived.Test.YtdjfjndmkkhknaaB
import Derived.Test.YtdjfjndmkkhknaaRes
import Derived.OpenShut
namespace Go.Proofs.Ytdjfjndmkkhknaa
open Go.RowKit
open Go.Tin
set_option linter.unusedVariables false
set_option linter.unusedSimpArgs false

/-- Where a place's colour begins. -/
def pos (W x y : Int) : Nat := (3 * (y * W + x)).toNat
theorem pos_facts {W H x y : Int} {n : Nat} (hW : 1 ≤ W ∧ W ≤ 4096) (hH : 1 ≤ H ∧ H ≤ 4096) (hn : (n : Int) = 3 * W * H) (hx : 0 ≤ x ∧ x < W) (hy : 0 ≤ y ∧ y < H) :
    (3 * (y * W + x) = (pos W x y : Int) ∧ pos W x y + 3 ≤ n) ∧ 0 ≤ y * W ∧ y * W ≤ 16777216 := by
  have h1 : 0 ≤ y * W := Int.mul_nonneg hy.1 (by omega)
  have h2 : y * W ≤ (H - 1) * W := Int.mul_le_mul_of_nonneg_right (by omega) (by omega)
  have h3 : (H - 1) * W = W * H - W := by rw [Int.sub_mul, Int.one_mul, Int.mul_comm]
  have h4 : 3 * W * H = 3 * (W * H) := by rw [Int.mul_assoc]
  have h5 : W * H ≤ 4096 * H := Int.mul_le_mul_of_nonneg_right hW.2 (by omega)
  unfold pos
  refine ⟨⟨by omega, by omega⟩, h1, by omega⟩

theorem at27 : AT Try.prog 27 5 .u8 3 := ⟨Try.underlying27, Try.underlying5, by kernel_rfl, by kernel_rfl⟩
/-- The colour that begins so far. -/
def col (l : List Int) (p : Nat) : List Int := [nth l p, nth l (p + 1), nth l (p + 2)]
theorem col_len (l : List Int) (p : Nat) : (col l p).length = 3 := rfl

set_option maxRecDepth 100000 in
set_option maxHeartbeats 1000000 in
theorem at_any (W H x y : Int) (A : Option Addr) (l : List Int) (c : Nat) (w : World) (hs : Sl .u8 w A l) (hc : l.length ≤ c) (hW : 1 ≤ W ∧ W ≤ 4096) (hH : 1 ≤ H ∧ H ≤ 4096) (hn : (l.length : Int) = 3 * W * H) (hx : 0 ≤ x ∧ x < W) (hy : 0 ≤ y ∧ y < H) :
    Calls Try.prog 24 #[.agg #[.int .i64 W, .int .i64 H, .slice A l.length c], .int .i64 x, .int .i64 y] w fun e w' => e = .returned (.agg (arr .u8 (col l (pos W x y)))) ∧ Below w.heap.size w w' := by
  obtain ⟨⟨hp, hl⟩, m0, m1⟩ := pos_facts hW hH hn hx hy
  obtain ⟨b, off, rfl, hlt, hcell⟩ := hs.at_ (by omega)
  generalize pos W x y = p at *
  obtain ⟨x0, x1⟩ := hx
  obtain ⟨y0, y1⟩ := hy
  have q0 : w.cell? ⟨b, off + p, none⟩ = some (.int .u8 (nth l p)) := hcell p (by omega)
  have q1 : w.cell? ⟨b, off + p + 1, none⟩ = some (.int .u8 (nth l (p + 1))) := by have := hcell (p + 1) (by omega); rwa [← Nat.add_assoc] at this
  have q2 : w.cell? ⟨b, off + p + 2, none⟩ = some (.int .u8 (nth l (p + 2))) := by have := hcell (p + 2) (by omega); rwa [← Nat.add_assoc] at this
  have hne : b ≠ w.heap.size := by omega
  have xb : x ≤ 4096 := by omega
  have hA : ∀ Wd : World, (Instr.arrayAt 27 (.slice (some ⟨b, off + p, none⟩) (l.length - p) (c - p))).run Try.prog Wd = .ok (.pointer (some ⟨b, off + p, none⟩)) Wd := fun Wd => run_arrayAt (P := Try.prog) (w := Wd) 27 5 3 _ _ _ Try.underlying27 (by omega)
  clear hcell hn hs
  obtain ⟨hW0, hW1⟩ := hW
  obtain ⟨hH0, hH1⟩ := hH
  go_enter Try.func24, Try.ntmps24
  go_wp2_with fail
  exact bodyPost_ret (res_arr (l := col l p) at27 rfl _ _ (w.heap.size + 1) 27 rfl rfl (heap_alloc2_new w _ _)) rfl ⟨rfl, ba (ba (brefl w) _) _⟩

set_option maxRecDepth 100000 in
set_option maxHeartbeats 1000000 in
theorem near_any (W H x y : Int) (A : Option Addr) (l : List Int) (c : Nat) (w : World) (hs : Sl .u8 w A l) (hc : l.length ≤ c) (hW : 1 ≤ W ∧ W ≤ 4096) (hH : 1 ≤ H ∧ H ≤ 4096) (hn : (l.length : Int) = 3 * W * H) (hx : 0 ≤ x ∧ x ≤ 4096) (hy : 0 ≤ y ∧ y ≤ 4096) :
    Calls Try.prog 29 #[.agg #[.int .i64 W, .int .i64 H, .slice A l.length c], .int .i64 x, .int .i64 y] w fun e w' => e = .returned (.agg (arr .u8 (col l (pos W (min x (W - 1)) (min y (H - 1)))))) ∧ Below w.heap.size w w' := by
  have hmx : ∀ a b : Int, (if a < b then a else b) = min a b := by intro a b; split <;> omega
  have hmin := fun wx hsx => at_any W H (min x (W - 1)) (min y (H - 1)) A l c wx hsx hc hW hH hn (by omega) (by omega)
  have hkeep := fun (wx : World) (hb : Below w.heap.size w wx) => hmin wx (hs.keep hb)
  have HK := Lib.hid hkeep
  clear hkeep hmin hs hn
  obtain ⟨hW0, hW1⟩ := hW
  obtain ⟨hH0, hH1⟩ := hH
  obtain ⟨x0, x1⟩ := hx
  obtain ⟨y0, y1⟩ := hy
  go_enter Try.func29, Try.ntmps29
  go_wp2_with fail
  generalize hW0 : (w.alloc _).alloc _ = W0 at *
  have hb0 : Below w.heap.size w W0 := by rw [← hW0]; exact ba (ba (brefl w) _) _
  have hz0 : W0.heap.size = w.heap.size + 2 := by rw [← hW0]; simp
  have r0 : W0.heap[w.heap.size + 1]? = some (.cells #[.int .u8 0, .int .u8 0, .int .u8 0] 27 (0, 0)) := by rw [← hW0]; exact heap_alloc2_new w _ _
  clear hW0
  refine (HK.out W0 hb0).mono ?_
  rintro e w1 ⟨rfl, hb1⟩
  have r1 := (hb1.block _ (show w.heap.size + 1 < _ by omega)).trans r0
  go_wp2_with (with_reducible refine wpl_store_arr at27 rfl (.tmp 6) (.tmp 20) rfl (w.heap.size + 1) rfl rfl 27 (col_len l _) _ rfl r1 ?_; intro w2 hr2 hg2 hs2)
  exact bodyPost_ret (res_arr at27 rfl _ _ (w.heap.size + 1) 27 rfl (col_len l _) hr2) rfl ⟨rfl, (bt hb0 hb1).grown hg2 (bt hb0 hb1).size (fun k hk => by cases hk; omega)⟩

/-- Numbers of bytes. -/
def Byts (l : List Int) : Prop := ∀ j, 0 ≤ nth l j ∧ nth l j < 256
theorem byts_of {l : List Int} (h : ∀ z ∈ l, (Lit.int .u8 z).wf = true) : Byts l := by
  intro j
  unfold nth
  rw [List.getD_eq_getElem?_getD]
  by_cases hj : j < l.length
  · have := Go.bounds_u8 (h l[j] (List.getElem_mem hj))
    simp [hj]; omega
  · simp [List.getElem?_eq_none (by omega : l.length ≤ j)]

/-- What At answers. -/
def atB (W H x y : Int) (n : Nat) : Bool := mayB W H n && (decide (0 ≤ x) && decide (0 ≤ y) && decide (x < W) && decide (y < H))
def atC (W H x y : Int) (l : List Int) : List Int := if atB W H x y l.length = true then col l (pos W x y) else [0, 0, 0]
theorem mayB_t {W H : Int} {n : Nat} (h : mayB W H n = true) : (1 ≤ W ∧ W ≤ 4096) ∧ (1 ≤ H ∧ H ≤ 4096) ∧ (n : Int) = 3 * W * H := by
  unfold mayB at h
  rw [Bool.and_eq_true, Bool.and_eq_true] at h
  exact ⟨okS_t h.1.1, okS_t h.1.2, by simpa using h.2⟩

set_option maxRecDepth 100000 in
set_option maxHeartbeats 1000000 in
theorem rat_no (W H x y : Int) (A : Option Addr) (n c : Nat) (w : World) (hno : atB W H x y n = false) :
    Calls Try.prog 9 #[.agg #[.int .i64 W, .int .i64 H, .slice A n c], .int .i64 x, .int .i64 y] w fun e w' => e = .returned (.tuple #[.agg (arr .u8 [0, 0, 0]), .bool false]) ∧ Below w.heap.size w w' := by
  go_enter Try.func9, Try.ntmps9
  go_wp2_with fail
  generalize hW0 : (w.alloc _).alloc _ = W0 at *
  have hb0 : Below w.heap.size w W0 := by rw [← hW0]; exact ba (ba (brefl w) _) _
  have hz0 : W0.heap.size = w.heap.size + 2 := by rw [← hW0]; simp
  have c0 : W0.cell? ⟨w.heap.size, 0, none⟩ = some (.int .i64 W) := by rw [← hW0]; simp [go_sem]
  have c1 : W0.cell? ⟨w.heap.size, 1, none⟩ = some (.int .i64 H) := by rw [← hW0]; simp [go_sem]
  have c2 : W0.cell? ⟨w.heap.size, 2, none⟩ = some (.slice A n c) := by rw [← hW0]; simp [go_sem]
  have r0 : W0.heap[w.heap.size + 1]? = some (.cells #[.int .u8 0, .int .u8 0, .int .u8 0] 27 (0, 0)) := by rw [← hW0]; exact heap_alloc2_new w _ _
  clear hW0
  refine (may_any W H A n c W0).mono ?_
  rintro e w1 ⟨rfl, hb1⟩
  obtain ⟨hc, hf⟩ := bcell hb1
  have k0 : w1.cell? ⟨w.heap.size, 0, none⟩ = some (.int .i64 W) := (hc _ _ (by omega)).trans c0
  have k1 : w1.cell? ⟨w.heap.size, 1, none⟩ = some (.int .i64 H) := (hc _ _ (by omega)).trans c1
  have r1 := (hb1.block _ (show w.heap.size + 1 < _ by omega)).trans r0
  have hb2 := bt hb0 hb1
  clear hc hf c0 c1 c2 r0 hb0 hb1
  by_cases hm : mayB W H n = true
  · rw [hm]
    unfold atB at hno
    rw [hm, Bool.true_and] at hno
    clear hm
    by_cases x0 : 0 ≤ x
    · have d0 : decide (x < 0) = false := by simpa using x0
      by_cases y0 : 0 ≤ y
      · have d1 : decide (y < 0) = false := by simpa using y0
        by_cases x1 : x < W
        · have d2 : decide (W ≤ x) = false := by simpa using x1
          have d3 : decide (H ≤ y) = true := by simp [x0, y0, x1] at hno; simpa using hno
          clear hno x0 y0 x1
          go_wp2_with (with_reducible refine wpl_store_arr at27 rfl (.tmp 6) (.tmp 31) rfl (w.heap.size + 1) rfl rfl 27 (col_len [0, 0, 0] 0) _ rfl r1 ?_; intro w2 hr2 hg2 hs2)
          exact bodyPost_ret (res_arr_tmp at27 rfl _ _ (w.heap.size + 1) 27 rfl (.bool false) rfl (col_len [0, 0, 0] 0) hr2) rfl ⟨rfl, hb2.grown hg2 hb2.size (fun k hk => by cases hk; omega)⟩
        · have d2 : decide (W ≤ x) = true := by simp; omega
          clear hno x0 y0 x1
          go_wp2_with (with_reducible refine wpl_store_arr at27 rfl (.tmp 6) (.tmp 31) rfl (w.heap.size + 1) rfl rfl 27 (col_len [0, 0, 0] 0) _ rfl r1 ?_; intro w2 hr2 hg2 hs2)
          exact bodyPost_ret (res_arr_tmp at27 rfl _ _ (w.heap.size + 1) 27 rfl (.bool false) rfl (col_len [0, 0, 0] 0) hr2) rfl ⟨rfl, hb2.grown hg2 hb2.size (fun k hk => by cases hk; omega)⟩
      · have d1 : decide (y < 0) = true := by simp; omega
        clear hno x0 y0
        go_wp2_with (with_reducible refine wpl_store_arr at27 rfl (.tmp 6) (.tmp 31) rfl (w.heap.size + 1) rfl rfl 27 (col_len [0, 0, 0] 0) _ rfl r1 ?_; intro w2 hr2 hg2 hs2)
        exact bodyPost_ret (res_arr_tmp at27 rfl _ _ (w.heap.size + 1) 27 rfl (.bool false) rfl (col_len [0, 0, 0] 0) hr2) rfl ⟨rfl, hb2.grown hg2 hb2.size (fun k hk => by cases hk; omega)⟩
    · have d0 : decide (x < 0) = true := by simp; omega
      clear hno x0
      go_wp2_with (with_reducible refine wpl_store_arr at27 rfl (.tmp 6) (.tmp 31) rfl (w.heap.size + 1) rfl rfl 27 (col_len [0, 0, 0] 0) _ rfl r1 ?_; intro w2 hr2 hg2 hs2)
      exact bodyPost_ret (res_arr_tmp at27 rfl _ _ (w.heap.size + 1) 27 rfl (.bool false) rfl (col_len [0, 0, 0] 0) hr2) rfl ⟨rfl, hb2.grown hg2 hb2.size (fun k hk => by cases hk; omega)⟩
  · have hm' : mayB W H n = false := by simpa using hm
    rw [hm']
    clear hno hm hm'
    go_wp2_with (with_reducible refine wpl_store_arr at27 rfl (.tmp 6) (.tmp 31) rfl (w.heap.size + 1) rfl rfl 27 (col_len [0, 0, 0] 0) _ rfl r1 ?_; intro w2 hr2 hg2 hs2)
    exact bodyPost_ret (res_arr_tmp at27 rfl _ _ (w.heap.size + 1) 27 rfl (.bool false) rfl (col_len [0, 0, 0] 0) hr2) rfl ⟨rfl, hb2.grown hg2 hb2.size (fun k hk => by cases hk; omega)⟩

set_option maxRecDepth 100000 in
set_option maxHeartbeats 1000000 in
theorem rat_yes (W H x y : Int) (A : Option Addr) (l : List Int) (c : Nat) (w : World) (hs : Sl .u8 w A l) (hc : l.length ≤ c) (hyes : atB W H x y l.length = true) :
    Calls Try.prog 9 #[.agg #[.int .i64 W, .int .i64 H, .slice A l.length c], .int .i64 x, .int .i64 y] w fun e w' => e = .returned (.tuple #[.agg (arr .u8 (col l (pos W x y))), .bool true]) ∧ Below w.heap.size w w' := by
  unfold atB at hyes
  rw [Bool.and_eq_true] at hyes
  obtain ⟨hm, hin⟩ := hyes
  simp only [Bool.and_eq_true, decide_eq_true_eq] at hin
  obtain ⟨⟨⟨x0, y0⟩, x1⟩, y1⟩ := hin
  obtain ⟨hW, hH, hn⟩ := mayB_t hm
  have d0 : decide (x < 0) = false := by simpa using x0
  have d1 : decide (y < 0) = false := by simpa using y0
  have d2 : decide (W ≤ x) = false := by simpa using x1
  have d3 : decide (H ≤ y) = false := by simpa using y1
  have hkeep := fun (wx : World) (hb : Below w.heap.size w wx) => at_any W H x y A l c wx (hs.keep hb) hc hW hH hn ⟨x0, x1⟩ ⟨y0, y1⟩
  have HK := Lib.hid hkeep
  clear hkeep hs hn hW hH x0 x1 y0 y1
  go_enter Try.func9, Try.ntmps9
  go_wp2_with fail
  generalize hW0 : (w.alloc _).alloc _ = W0 at *
  have hb0 : Below w.heap.size w W0 := by rw [← hW0]; exact ba (ba (brefl w) _) _
  have hz0 : W0.heap.size = w.heap.size + 2 := by rw [← hW0]; simp
  have c0 : W0.cell? ⟨w.heap.size, 0, none⟩ = some (.int .i64 W) := by rw [← hW0]; simp [go_sem]
  have c1 : W0.cell? ⟨w.heap.size, 1, none⟩ = some (.int .i64 H) := by rw [← hW0]; simp [go_sem]
  have c2 : W0.cell? ⟨w.heap.size, 2, none⟩ = some (.slice A l.length c) := by rw [← hW0]; simp [go_sem]
  have r0 : W0.heap[w.heap.size + 1]? = some (.cells #[.int .u8 0, .int .u8 0, .int .u8 0] 27 (0, 0)) := by rw [← hW0]; exact heap_alloc2_new w _ _
  clear hW0
  refine (may_any W H A l.length c W0).mono ?_
  rw [hm]
  rintro e w1 ⟨rfl, hb1⟩
  obtain ⟨hcc, hf⟩ := bcell hb1
  have k0 : w1.cell? ⟨w.heap.size, 0, none⟩ = some (.int .i64 W) := (hcc _ _ (by omega)).trans c0
  have k1 : w1.cell? ⟨w.heap.size, 1, none⟩ = some (.int .i64 H) := (hcc _ _ (by omega)).trans c1
  have k2 : w1.cell? ⟨w.heap.size, 2, none⟩ = some (.slice A l.length c) := (hcc _ _ (by omega)).trans c2
  have r1 := (hb1.block _ (show w.heap.size + 1 < _ by omega)).trans r0
  have hb2 := bt hb0 hb1
  have hz1 := hb1.size
  clear hcc hf c0 c1 c2 r0 hb0 hb1 hm
  go_wp2_with fail
  refine (HK.out w1 hb2).mono ?_
  rintro e w3 ⟨rfl, hb3⟩
  have r3 := (hb3.block _ (show w.heap.size + 1 < _ by omega)).trans r1
  have hb4 := bt hb2 hb3
  clear r1 k0 k1 k2
  go_wp2_with (with_reducible refine wpl_store_arr at27 rfl (.tmp 6) (.tmp 36) rfl (w.heap.size + 1) rfl rfl 27 (col_len l _) _ rfl r3 ?_; intro w2 hr2 hg2 hs2)
  exact bodyPost_ret (res_arr_tmp at27 rfl _ _ (w.heap.size + 1) 27 rfl (.bool true) rfl (col_len l _) hr2) rfl ⟨rfl, hb4.grown hg2 hb4.size (fun k hk => by cases hk; omega)⟩

/-- Byte: the reference's colour of a place that there is. -/
theorem byte_any (W H x y : Int) (j : Nat) (A : Option Addr) (l : List Int) (c : Nat) (w : World) (hs : Sl .u8 w A l) (hW : 1 ≤ W ∧ W ≤ 4096) (hH : 1 ≤ H ∧ H ≤ 4096) (hn : (l.length : Int) = 3 * W * H) (hx : 0 ≤ x ∧ x < W) (hy : 0 ≤ y ∧ y < H) (hj : j < 3) (hb : Byts l) :
    Calls Try.prog 11 #[.agg #[.int .i64 W, .int .i64 H, .slice A l.length c], .int .i64 x, .int .i64 y, .int .i64 (j : Int)] w fun e w' => e = .returned (.int .i64 (nth l (pos W x y + j))) ∧ Below w.heap.size w w' := by
  obtain ⟨⟨hp, hl⟩, m0, m1⟩ := pos_facts hW hH hn hx hy
  obtain ⟨b, off, rfl, hlt, hcell⟩ := hs.at_ (by omega)
  generalize pos W x y = p at *
  obtain ⟨x0, x1⟩ := hx
  obtain ⟨y0, y1⟩ := hy
  have q0 : w.cell? ⟨b, off + (p + j), none⟩ = some (.int .u8 (nth l (p + j))) := hcell (p + j) (by omega)
  have e1 : 3 * W * y = 3 * (y * W) := by rw [Int.mul_assoc, Int.mul_comm W y]
  have e2 : 3 * W * y + 3 * x + (j : Int) = ((p + j : Nat) : Int) := by rw [e1]; push_cast; omega
  have n0 : 0 ≤ 3 * W * y := by omega
  have n1 : 3 * W * y ≤ 50331648 := by omega
  have hne : b ≠ w.heap.size := by omega
  have xb : x ≤ 4096 := by omega
  obtain ⟨b0, b1⟩ := hb (p + j)
  clear hcell hn hs e1 hb
  obtain ⟨hW0, hW1⟩ := hW
  obtain ⟨hH0, hH1⟩ := hH
  go_enter Try.func11, Try.ntmps11
  go_wp2_with fail
  go_ret
  exact ⟨rfl, ba (brefl w) _⟩
end Go.Proofs.Ytdjfjndmkkhknaa
