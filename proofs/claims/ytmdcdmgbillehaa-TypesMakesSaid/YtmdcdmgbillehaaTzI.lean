/- The contracts of OfText. -/
import Derived.Test.YtmdcdmgbillehaaTzH
import Derived.Test.YtmdcdmgbillehaaApm
namespace Go.Proofs.Ytmdcdmgbillehaa
open Go.RowKit
open Go.Tin
set_option linter.unusedVariables false
set_option linter.unusedSimpArgs false


def otB (s : ByteArray) : Bool := mayV 2 ((s.size : Int) + 1) (bytesL s ++ [0])
def otL (s : ByteArray) : List Int := if otB s then bytesL s ++ [0] else []
theorem byts_bytesL (s : ByteArray) : Byts (bytesL s) := by
  intro x hx
  obtain ⟨b, _, rfl⟩ := List.mem_map.1 hx
  have := b.toNat_lt
  omega
theorem bytesOf_bytesL (s : ByteArray) : Lib.bytesOf (bytesL s) = s.data.toList := by
  unfold Lib.bytesOf bytesL
  rw [List.map_map]
  conv => rhs; rw [← List.map_id s.data.toList]
  apply List.map_congr_left
  intro b _
  simp
theorem ix0_snoc : ∀ l : List Int, ix0 (l ++ [0]) = if ix0 l = -1 then (l.length : Int) else ix0 l
  | [] => rfl
  | x :: l => by
    have ih := ix0_snoc l
    have hb := ix0_cases l
    show (if x = 0 then (0 : Int) else if ix0 (l ++ [0]) = -1 then -1 else ix0 (l ++ [0]) + 1) = _
    have e : ix0 (x :: l) = if x = 0 then 0 else if ix0 l = -1 then -1 else ix0 l + 1 := rfl
    rw [ih, e, List.length_cons]
    by_cases hx : x = 0
    · rw [if_pos hx, if_pos hx, if_neg (by decide)]
    · rw [if_neg hx, if_neg hx]
      rcases hb with ⟨h, _⟩ | ⟨m, h, _, _, _⟩
      · rw [if_pos h, if_neg (show ¬ ((l.length : Int) = -1) by omega), if_pos h, if_pos rfl]; omega
      · have h2 : ¬ ix0 l = -1 := by omega
        simp only [if_neg h2]
        rw [if_neg (by omega)]
theorem ot_ix {s : ByteArray} (h : 0 ≤ Lib.indexByte s.data.toList 0) : otB s = false := by
  rw [← bytesOf_bytesL, ix0_lib (byts_bytesL s)] at h
  unfold otB
  apply mayV_f
  rintro ⟨-, -, -, -, h5⟩
  have h6 := h5 rfl
  unfold txB at h6
  rw [decide_eq_true_eq, ix0_snoc, List.length_append] at h6
  rcases ix0_cases (bytesL s) with ⟨h7, _⟩ | ⟨m, h7, h8, _⟩
  · omega
  · rw [if_neg (by omega)] at h6
    simp at h6
    omega
theorem byts_ot (s : ByteArray) : Byts (bytesL s ++ [0]) := byts_app (byts_bytesL s) (by intro x hx; simp at hx; omega)
theorem ot_len (s : ByteArray) : (bytesL s ++ [0]).length = s.size + 1 := by simp [bytesL_len]
theorem bwa_lt (w : World) (e : TypeId) (s : ByteArray) (o : Obj) : w.heap.size < ((Lib.bytesWorld w e s).alloc o).heap.size := by simp [Lib.bytesWorld_size]; omega
theorem bwa_cell (w : World) (e : TypeId) (s : ByteArray) (o : Obj) (j : Nat) (v : Value) (hj : ((bytesL s).map (Value.int .u8))[j]? = some v) : ((Lib.bytesWorld w e s).alloc o).cell? ((⟨w.heap.size, 0, none⟩ : Addr).add j) = some v := by
  rw [World.cell?_alloc_lt _ _ _ (by rw [add_none]; show w.heap.size < _; rw [Lib.bytesWorld_size]; omega)]
  exact bw_cell w e s j v hj
theorem bwa_room (w : World) (e : TypeId) (s : ByteArray) (o : Obj) (h : s.size + 1 ≤ grownCap w s.size 0 e) :
    (∃ v, ((Lib.bytesWorld w e s).alloc o).cell? ⟨w.heap.size, s.size, none⟩ = some v) ∧ ((Lib.bytesWorld w e s).alloc o).frozen? ⟨w.heap.size, s.size, none⟩ = false := by
  have hb := ba (brefl (Lib.bytesWorld w e s)) o
  obtain ⟨⟨v, h1⟩, h2⟩ := bw_room w e s h
  obtain ⟨c1, c2⟩ := bcell hb
  have hlt : w.heap.size < (Lib.bytesWorld w e s).heap.size := by rw [Lib.bytesWorld_size]; omega
  exact ⟨⟨v, (c1 _ _ hlt).trans h1⟩, (c2 _ _ hlt).trans h2⟩
theorem bwa_below (w : World) (e : TypeId) (s : ByteArray) (o : Obj) : Below w.heap.size w ((Lib.bytesWorld w e s).alloc o) := ba (bw_below w e s) o
theorem alloc_cell0 (w : World) (v : Value) (e : TypeId) : (w.alloc (.cells #[v] e)).cell? ⟨w.heap.size, 0, none⟩ = some v := World.cell?_alloc_new w _ _ _
theorem sl_grown {k : IntKind} {w w' : World} {A : Option Addr} {l : List Int} {g : Nat} (h : Sl k w A l) (hg : w.grownBy w' (some g)) (hne : ∀ b o, A = some ⟨b, o, none⟩ → b ≠ g) : Sl k w' A l := by
  rcases h with h | ⟨b, off, hA, hlt, hc⟩
  · exact .inl h
  · refine .inr ⟨b, off, hA, Nat.lt_of_lt_of_le hlt hg.size, fun i hi => ?_⟩
    have := hg.block b hlt (fun e => hne b off hA (by injection e))
    unfold World.cell? at hc ⊢
    simp only at hc ⊢
    rw [this]
    exact hc i hi
set_option maxRecDepth 100000 in
set_option maxHeartbeats 4000000 in
theorem otext_any (s : ByteArray) (w : World) (hl : s.size ≤ 1000000) :
    Calls Try.prog 12 #[.string s] w fun e w' => ∃ A' c', e = .returned (.tuple #[.agg (vrow (on (otB s) 2) (on (otB s) ((s.size : Int) + 1)) A' (otL s).length c'), .bool (otB s)]) ∧ Sl .u8 w' A' (otL s) ∧ Below w.heap.size w w' := by
  have RX := Lib.hid (heap_alloc_new w (.cells (vrow 0 0 none 0 0) 27))
  have HB := Lib.hid (ba (brefl w) (.cells (vrow 0 0 none 0 0) 27))
  have hlz : (s.size : Int) ≤ 1000000 := by omega
  have HOX := Lib.hid (fun h => ot_ix (s := s) h)
  have HO := Lib.hid (show otB s = mayV 2 ((s.size : Int) + 1) (bytesL s ++ [0]) ∧ (otB s = true → otL s = bytesL s ++ [0]) ∧ (otB s = false → otL s = []) from ⟨rfl, fun h => by unfold otL; rw [h]; rfl, fun h => by unfold otL; rw [h]; rfl⟩)
  have HLL := Lib.hid (ot_len s)
  have HLB := Lib.hid (bytesL_len s)
  have HBY := Lib.hid (byts_ot s)
  go_enter Try.func12, Try.ntmps12
  go_wp2_with fail
  generalize hW : w.alloc (.cells #[.int .i64 0, .int .i64 0, .slice none 0 0] 27) = W at *
  have hWs : w.heap.size < W.heap.size := row_lt RX.out
  rw [Lib.run_convert_string_bytes _ 9 25 5 s Try.underlying9 Try.underlying25 Try.underlying5]
  simp only [Result.andThen]
  rw [Oper.upon_value]
  go_wp2_with ((at_builtin; refine Tin.wpl_appm bt5 _ rfl (.tmp 9) (.tmp 10) rfl W.heap.size W.heap.size (grownCap W s.size 0 5) (bytesL s) (by rw [HLB.out]; rfl) (fun j v hj => bwa_cell _ _ _ _ j v hj) (Nat.le_refl _) (bwa_lt _ _ _ _) (by rw [HLB.out]; exact bwa_room _ _ _ _) _ 0 rfl (alloc_cell0 _ _ _) (by rw [HLB.out]; omega) (by rw [HLB.out]; omega) ?_; intro A1 c1 w1 hs1 hb1 hn1; have HN := Lib.hid hn1; clear hn1; rw [HLB.out]; have HS := Lib.hid hs1; have HB1 := Lib.hid ((bwa_below W 5 s (.cells #[.int .u8 0] 5)).trans hb1); clear hs1 hb1))
  have HB2 := Lib.hid (ba (HB.out.trans (HB1.out.mono HB.out.size)) (.cells (vrow 2 ((s.size : Int) + 1) A1 (s.size + 1) c1) 27))
  have hlt1 : w.heap.size < w1.heap.size := Nat.lt_of_lt_of_le hWs HB1.out.size
  have R2 := Lib.hid (show (w1.alloc (.cells (vrow 2 ((s.size : Int) + 1) A1 (s.size + 1) c1) 27)).heap[w.heap.size]? = some (.cells (vrow 0 0 none 0 0) 27 (0, 0)) by rw [Below.heap_alloc _ _ _ hlt1]; exact (HB1.out.block _ hWs).trans RX.out)
  have R4 := Lib.hid (heap_alloc_new w1 (.cells (vrow 2 ((s.size : Int) + 1) A1 (s.size + 1) c1) 27))
  replace HS := Lib.hid (HS.out.keep (ba (brefl w1) (.cells (vrow 2 ((s.size : Int) + 1) A1 (s.size + 1) c1) 27)))
  refine (stx_any s _).mono ?_
  rintro e w2 ⟨rfl, rfl⟩
  by_cases hx : 0 ≤ Lib.indexByte s.data.toList 0
  · have HE := Lib.hid (HOX.out hx)
    have dx : decide (0 ≤ Lib.indexByte s.data.toList 0) = true := by simpa using hx
    clear hx
    go_wp2_with ((with_reducible refine wpl_store_row rtV ?_ (.tmp 2) (.tmp 21) ?_ (w.heap.size) ?_ (vrow 0 0 none 0 0) ?_ (vrow_one _ _ _ _ _) 27 ?_ _ ?_ R2.out ?_); rfl; rfl; rfl; rfl; rfl; rfl; intro w7 hr7 hg7 hs7; (try simp only [Act.put]))
    rw [HE.out, (HO.out.2.2 HE.out)]
    exact bodyPost_ret (res_row_tmp rtV rfl _ _ w.heap.size 27 (vrow 0 0 none 0 0) rfl (.bool false) rfl rfl hr7) rfl ⟨none, 0, rfl, .inl rfl, HB2.out.grown hg7 HB2.out.size (fun k hk => by cases hk; exact Nat.le_refl _)⟩
  have dx : decide (0 ≤ Lib.indexByte s.data.toList 0) = false := by simpa using hx
  clear hx
  have HM := Lib.hid (vmay_any 2 ((s.size : Int) + 1) A1 (bytesL s ++ [0]) c1 (w1.alloc (.cells (vrow 2 ((s.size : Int) + 1) A1 (s.size + 1) c1) 27)) HS.out (by rw [HLL.out]; omega) HBY.out)
  rw [HLL.out, ← HO.out.1] at HM
  go_wp2_with ((with_reducible refine wpl_load_row rtV ?_ (.tmp 4) ?_ (w1.heap.size) ?_ 27 (vrow 2 ((s.size : Int) + 1) A1 (s.size + 1) c1) ?_ R4.out ?_); rfl; rfl; rfl; rfl; simp only [Act.put, List.setIfInBounds_toArray, List.set_cons_succ, List.set_cons_zero])
  refine HM.out.mono ?_
  rintro e w2 ⟨rfl, hb2⟩
  have R2' := Lib.hid ((hb2.block _ (row_lt R2.out)).trans R2.out)
  have R4' := Lib.hid ((hb2.block _ (row_lt R4.out)).trans R4.out)
  have HS' := Lib.hid (HS.out.keep hb2)
  replace HB2 := Lib.hid (HB2.out.trans (hb2.mono HB2.out.size))
  clear hb2 HM HS R2 R4 HB1 HB RX
  cases hE : otB s with
  | false =>
    have HE := Lib.hid hE
    clear hE
    go_wp2_with ((with_reducible refine wpl_store_row rtV ?_ (.tmp 2) (.tmp 21) ?_ (w.heap.size) ?_ (vrow 0 0 none 0 0) ?_ (vrow_one _ _ _ _ _) 27 ?_ _ ?_ R2'.out ?_); rfl; rfl; rfl; rfl; rfl; rfl; intro w7 hr7 hg7 hs7; (try simp only [Act.put]))
    rw [HE.out, (HO.out.2.2 HE.out)]
    exact bodyPost_ret (res_row_tmp rtV rfl _ _ w.heap.size 27 (vrow 0 0 none 0 0) rfl (.bool false) rfl rfl hr7) rfl ⟨none, 0, rfl, .inl rfl, HB2.out.grown hg7 HB2.out.size (fun k hk => by cases hk; exact Nat.le_refl _)⟩
  | true =>
    have HE := Lib.hid (HO.out.2.1 hE)
    have HT := Lib.hid hE
    clear hE
    go_wp2_with (first | ((with_reducible refine wpl_load_row rtV ?_ (.tmp 4) ?_ (w1.heap.size) ?_ 27 (vrow 2 ((s.size : Int) + 1) A1 (s.size + 1) c1) ?_ R4'.out ?_); rfl; rfl; rfl; rfl; simp only [Act.put, List.setIfInBounds_toArray, List.set_cons_succ, List.set_cons_zero]) | ((with_reducible refine wpl_store_row rtV ?_ (.tmp 2) (.tmp 22) ?_ (w.heap.size) ?_ (vrow 2 ((s.size : Int) + 1) A1 (s.size + 1) c1) ?_ (vrow_one _ _ _ _ _) 27 ?_ _ ?_ R2'.out ?_); rfl; rfl; rfl; rfl; rfl; rfl; intro w7 hr7 hg7 hs7; (try simp only [Act.put])))
    rw [HE.out, HLL.out, HT.out]
    exact bodyPost_ret (res_row_tmp rtV rfl _ _ w.heap.size 27 (vrow 2 ((s.size : Int) + 1) A1 (s.size + 1) c1) rfl (.bool true) rfl rfl hr7) rfl ⟨A1, c1, rfl, sl_grown HS'.out hg7 (fun b o h => by have := HN.out b o h; omega), HB2.out.grown hg7 HB2.out.size (fun k hk => by cases hk; exact Nat.le_refl _)⟩
set_option maxRecDepth 100000 in
set_option maxHeartbeats 4000000 in
theorem rotext_any (s : ByteArray) (w : World) (hl : s.size ≤ 1000000) :
    Calls Try.prog 13 #[.string s] w fun e w' => ∃ A' c', e = .returned (.tuple #[.agg (vrow (on (otB s) 2) (on (otB s) ((s.size : Int) + 1)) A' (otL s).length c'), .bool (otB s)]) ∧ Sl .u8 w' A' (otL s) ∧ Below w.heap.size w w' := by
  have RX := Lib.hid (heap_alloc_new w (.cells (vrow 0 0 none 0 0) 27))
  have HB := Lib.hid (ba (brefl w) (.cells (vrow 0 0 none 0 0) 27))
  have hlz : (s.size : Int) ≤ 1000000 := by omega
  have HOX := Lib.hid (fun h => ot_ix (s := s) h)
  have HO := Lib.hid (show otB s = mayV 2 ((s.size : Int) + 1) (bytesL s ++ [0]) ∧ (otB s = true → otL s = bytesL s ++ [0]) ∧ (otB s = false → otL s = []) from ⟨rfl, fun h => by unfold otL; rw [h]; rfl, fun h => by unfold otL; rw [h]; rfl⟩)
  have HLL := Lib.hid (ot_len s)
  have HLB := Lib.hid (bytesL_len s)
  have HBY := Lib.hid (byts_ot s)
  go_enter Try.func13, Try.ntmps13
  go_wp2_with fail
  generalize hW : w.alloc (.cells #[.int .i64 0, .int .i64 0, .slice none 0 0] 27) = W at *
  have hWs : w.heap.size < W.heap.size := row_lt RX.out
  rw [Lib.run_convert_string_bytes _ 9 25 5 s Try.underlying9 Try.underlying25 Try.underlying5]
  simp only [Result.andThen]
  rw [Oper.upon_value]
  go_wp2_with ((at_builtin; refine Tin.wpl_appm bt5 _ rfl (.tmp 9) (.tmp 10) rfl W.heap.size W.heap.size (grownCap W s.size 0 5) (bytesL s) (by rw [HLB.out]; rfl) (fun j v hj => bwa_cell _ _ _ _ j v hj) (Nat.le_refl _) (bwa_lt _ _ _ _) (by rw [HLB.out]; exact bwa_room _ _ _ _) _ 0 rfl (alloc_cell0 _ _ _) (by rw [HLB.out]; omega) (by rw [HLB.out]; omega) ?_; intro A1 c1 w1 hs1 hb1 hn1; have HN := Lib.hid hn1; clear hn1; rw [HLB.out]; have HS := Lib.hid hs1; have HB1 := Lib.hid ((bwa_below W 5 s (.cells #[.int .u8 0] 5)).trans hb1); clear hs1 hb1))
  have HB2 := Lib.hid (ba (HB.out.trans (HB1.out.mono HB.out.size)) (.cells (vrow 2 ((s.size : Int) + 1) A1 (s.size + 1) c1) 27))
  have hlt1 : w.heap.size < w1.heap.size := Nat.lt_of_lt_of_le hWs HB1.out.size
  have R2 := Lib.hid (show (w1.alloc (.cells (vrow 2 ((s.size : Int) + 1) A1 (s.size + 1) c1) 27)).heap[w.heap.size]? = some (.cells (vrow 0 0 none 0 0) 27 (0, 0)) by rw [Below.heap_alloc _ _ _ hlt1]; exact (HB1.out.block _ hWs).trans RX.out)
  have R4 := Lib.hid (heap_alloc_new w1 (.cells (vrow 2 ((s.size : Int) + 1) A1 (s.size + 1) c1) 27))
  replace HS := Lib.hid (HS.out.keep (ba (brefl w1) (.cells (vrow 2 ((s.size : Int) + 1) A1 (s.size + 1) c1) 27)))
  have HM := Lib.hid (rmay_any 2 ((s.size : Int) + 1) A1 (bytesL s ++ [0]) c1 (w1.alloc (.cells (vrow 2 ((s.size : Int) + 1) A1 (s.size + 1) c1) 27)) HS.out (by rw [HLL.out]; omega) HBY.out)
  rw [HLL.out, ← HO.out.1] at HM
  go_wp2_with ((with_reducible refine wpl_load_row rtV ?_ (.tmp 4) ?_ (w1.heap.size) ?_ 27 (vrow 2 ((s.size : Int) + 1) A1 (s.size + 1) c1) ?_ R4.out ?_); rfl; rfl; rfl; rfl; simp only [Act.put, List.setIfInBounds_toArray, List.set_cons_succ, List.set_cons_zero])
  refine HM.out.mono ?_
  rintro e w2 ⟨rfl, hb2⟩
  have R2' := Lib.hid ((hb2.block _ (row_lt R2.out)).trans R2.out)
  have R4' := Lib.hid ((hb2.block _ (row_lt R4.out)).trans R4.out)
  have HS' := Lib.hid (HS.out.keep hb2)
  replace HB2 := Lib.hid (HB2.out.trans (hb2.mono HB2.out.size))
  clear hb2 HM HS R2 R4 HB1 HB RX
  cases hE : otB s with
  | false =>
    have HE := Lib.hid hE
    clear hE
    go_wp2_with ((with_reducible refine wpl_store_row rtV ?_ (.tmp 2) (.tmp 16) ?_ (w.heap.size) ?_ (vrow 0 0 none 0 0) ?_ (vrow_one _ _ _ _ _) 27 ?_ _ ?_ R2'.out ?_); rfl; rfl; rfl; rfl; rfl; rfl; intro w7 hr7 hg7 hs7; (try simp only [Act.put]))
    rw [HE.out, (HO.out.2.2 HE.out)]
    exact bodyPost_ret (res_row_tmp rtV rfl _ _ w.heap.size 27 (vrow 0 0 none 0 0) rfl (.bool false) rfl rfl hr7) rfl ⟨none, 0, rfl, .inl rfl, HB2.out.grown hg7 HB2.out.size (fun k hk => by cases hk; exact Nat.le_refl _)⟩
  | true =>
    have HE := Lib.hid (HO.out.2.1 hE)
    have HT := Lib.hid hE
    clear hE
    go_wp2_with (first | ((with_reducible refine wpl_load_row rtV ?_ (.tmp 4) ?_ (w1.heap.size) ?_ 27 (vrow 2 ((s.size : Int) + 1) A1 (s.size + 1) c1) ?_ R4'.out ?_); rfl; rfl; rfl; rfl; simp only [Act.put, List.setIfInBounds_toArray, List.set_cons_succ, List.set_cons_zero]) | ((with_reducible refine wpl_store_row rtV ?_ (.tmp 2) (.tmp 17) ?_ (w.heap.size) ?_ (vrow 2 ((s.size : Int) + 1) A1 (s.size + 1) c1) ?_ (vrow_one _ _ _ _ _) 27 ?_ _ ?_ R2'.out ?_); rfl; rfl; rfl; rfl; rfl; rfl; intro w7 hr7 hg7 hs7; (try simp only [Act.put])))
    rw [HE.out, HLL.out, HT.out]
    exact bodyPost_ret (res_row_tmp rtV rfl _ _ w.heap.size 27 (vrow 2 ((s.size : Int) + 1) A1 (s.size + 1) c1) rfl (.bool true) rfl rfl hr7) rfl ⟨A1, c1, rfl, sl_grown HS'.out hg7 (fun b o h => by have := HN.out b o h; omega), HB2.out.grown hg7 HB2.out.size (fun k hk => by cases hk; exact Nat.le_refl _)⟩
end Go.Proofs.Ytmdcdmgbillehaa
