/- The reference's blocks of a plane. -/
import Derived.Test.YtajobboldjgidaaSmH
namespace Go.Proofs.Ytajobboldjgidaa
open Go.RowKit
open Go.Tin
set_option linter.unusedVariables false
set_option linter.unusedSimpArgs false


theorem rblk {W H : Int} {v : List Int} {a r q i k : Nat} (hq : q < a) (hk : k < 8) : blkV W H v a (r * a + q) (8 * i + k) = nearV W H v (8 * (q : Int) + (k : Int)) (8 * (r : Int) + (i : Int)) - 128 := by
  have h1 : ((r * a + q : Nat) : Int) % (a : Int) = (q : Int) := by
    rw [← Int.natCast_emod, Nat.mul_comm, Nat.mul_add_mod, Nat.mod_eq_of_lt hq]
  have h2 : ((r * a + q : Nat) : Int) / (a : Int) = (r : Int) := by
    rw [← Int.natCast_ediv, Nat.mul_comm, Nat.mul_add_div (by omega), Nat.div_eq_of_lt hq, Nat.add_zero]
  unfold blkV
  rw [h1, h2, show ((8 * i + k : Nat) : Int) % 8 = (k : Int) by omega, show ((8 * i + k : Nat) : Int) / 8 = (i : Int) by omega]
set_option maxRecDepth 100000 in
set_option maxHeartbeats 4000000 in
theorem rblocks_any (W H : Int) (a d : Nat) (A : Option Addr) (c : Nat) (v : List Int) (w : World) (hs : Sl .i64 w A v) (hn : v.length ≤ 1000000000) (hmay : mayP W H v = true) (ha : 1 ≤ a ∧ a ≤ 512) (hd : 1 ≤ d ∧ d ≤ 512) :
    Calls Try.prog 14 #[plA W H A v.length c, .int .i64 (a : Int), .int .i64 (d : Int)] w fun e w' => ∃ A' c', e = .returned (.slice A' (a * d) c') ∧
      OwnV 67 64 w' w.heap.size (.slice A' (a * d) c') (a * d) (iv (blF (blkV W H v a) (a * d))) ∧ Below w.heap.size w w' := by
  obtain ⟨r0, hb, hz⟩ := alloc1 w (.cells (plrow W H A v.length c) 24)
  have R0 := Lib.hid r0
  have HV := Lib.hid hs
  have HB := Lib.hid hb
  have HM := Lib.hid hmay
  clear hs r0 hb hmay
  obtain ⟨a0, a1⟩ := ha
  obtain ⟨d0, d1⟩ := hd
  have HZ := Lib.hid (Nat.le_of_eq hz.symm)
  clear hz
  go_enter Try.func14, Try.ntmps14
  go_wp2_with fail
  generalize (w.alloc (.cells (plrow W H A v.length c) 24)) = w0 at *
  go_loopw [8, 7] (fun s8 s7 wr => ∃ (r : Nat) (A1 : Option Addr) (c1 : Nat), r ≤ d ∧ s8 = .int .i64 (r : Int) ∧ s7 = .slice A1 (r * a) c1 ∧ OwnV 67 64 wr (w.heap.size + 1) (.slice A1 (r * a) c1) (r * a) (iv (blF (blkV W H v a) (r * a))) ∧
      wr.heap[w.heap.size]? = some (.cells (plrow W H A v.length c) 24 (0, 0)) ∧ Below w.heap.size w wr ∧ w.heap.size + 1 ≤ wr.heap.size) (fun s8 _ _ => d - (intOf s8).toNat)
  case atStart => exact ⟨0, none, 0, by omega, rfl, by simp, by rw [Nat.zero_mul]; exact OwnV.nil_ _ _ _ _, R0.out, HB.out, HZ.out⟩
  case round =>
    clear R0 HB HZ
    obtain ⟨r, A1, c1, hrd, rfl, rfl, hO, hR, hb, hgs⟩ := hrel
    have HO := Lib.hid hO
    have R0 := Lib.hid hR
    have HB := Lib.hid hb
    clear hO hR hb
    by_cases hlt : r < d
    case neg =>
      obtain rfl : r = d := by omega
      go_wp2_with fail
      go_ret
      exact ⟨A1, c1, by rw [Nat.mul_comm a r]; rfl, by rw [Nat.mul_comm a r]; exact HO.out.mono (by omega), HB.out⟩
    have i1 : (r : Int) < (d : Int) := by omega
    have hra : r * a ≤ 262144 := Nat.mul_le_mul (show r ≤ 512 by omega) a1
    go_wp2_with fail
    go_loopw [9, 7] (fun s9 s7 wr => ∃ (q : Nat) (A1 : Option Addr) (c1 : Nat), q ≤ a ∧ s9 = .int .i64 (q : Int) ∧ s7 = .slice A1 (r * a + q) c1 ∧ OwnV 67 64 wr (w.heap.size + 1) (.slice A1 (r * a + q) c1) (r * a + q) (iv (blF (blkV W H v a) (r * a + q))) ∧
        wr.heap[w.heap.size]? = some (.cells (plrow W H A v.length c) 24 (0, 0)) ∧ Below w.heap.size w wr ∧ w.heap.size + 1 ≤ wr.heap.size) (fun s9 _ _ => a - (intOf s9).toNat)
    case atStart => exact ⟨0, A1, c1, by omega, rfl, rfl, HO.out, R0.out, HB.out, hgs⟩
    case round =>
      clear R0 HB HO hgs
      obtain ⟨q, A1, c1, hqa, rfl, rfl, hO, hR, hb, hgs⟩ := hrel
      have HO := Lib.hid hO
      have R0 := Lib.hid hR
      have HB := Lib.hid hb
      clear hO hR hb
      by_cases hqlt : q < a
      case neg =>
        obtain rfl : q = a := by omega
        go_wp2_with fail
        exact ⟨⟨r + 1, A1, c1, by omega, rfl, by rw [Nat.succ_mul], by rw [Nat.succ_mul]; exact HO.out, R0.out, HB.out, hgs⟩, by simp only [intOf]; omega⟩
      have i2 : (q : Int) < (a : Int) := by omega
      obtain ⟨n, hn0⟩ : ∃ n, r * a + q = n := ⟨_, rfl⟩
      rw [hn0] at HO ⊢
      have hn1 : n ≤ 300000 := by omega
      have HRB := Lib.hid (fun (i k : Nat) (hk : k < 8) => show blkV W H v a n (8 * i + k) = nearV W H v (8 * (q : Int) + (k : Int)) (8 * (r : Int) + (i : Int)) - 128 by rw [← hn0]; exact rblk hqlt hk)
      have HN0 := Lib.hid hn0
      clear hn0
      go_wp2_with fail
      obtain ⟨w6, rfl⟩ : ∃ w6, w6 = wr := ⟨_, rfl⟩
      have HLW := Lib.hid (World.ownsRow.lt HO.out)
      generalize hW0 : w6.alloc _ = W0 at *
      have hb7 : Below w6.heap.size w6 W0 := by rw [← hW0]; exact ba (brefl w6) _
      have hz7 : W0.heap.size = w6.heap.size + 1 := by rw [← hW0]; simp
      have hg0 : W0.heap[w6.heap.size]? = some (.cells (arr .i64 (tell 64 (blkV W H v a n) (8 * 0))) 67 (0, 0)) := by
        rw [Nat.mul_zero, tell_zero, arr_rep, ← hW0]
        exact heap_alloc_new w6 _
      clear hW0
      have HO7 := Lib.hid (HO.out.keep hb7)
      have R7 := Lib.hid ((hb7.block _ (row_lt R0.out)).trans R0.out)
      have HB7 := Lib.hid (HB.out.trans (hb7.mono HB.out.size))
      clear hb7 HO R0 HB
      go_loopw [11] (fun s11 wr => ∃ (i : Nat), i ≤ 8 ∧ s11 = .int .i64 (i : Int) ∧ wr.heap[w6.heap.size]? = some (.cells (arr .i64 (tell 64 (blkV W H v a n) (8 * i))) 67 (0, 0)) ∧ OwnV 67 64 wr (w.heap.size + 1) (.slice A1 n c1) n (iv (blF (blkV W H v a) n)) ∧
          wr.heap[w.heap.size]? = some (.cells (plrow W H A v.length c) 24 (0, 0)) ∧ Below w.heap.size w wr ∧ w6.heap.size + 1 ≤ wr.heap.size) (fun s11 _ => 8 - (intOf s11).toNat)
      case atStart => exact ⟨0, by omega, rfl, hg0, HO7.out, R7.out, HB7.out, by omega⟩
      case round =>
        clear HO7 R7 HB7 hg0 hz7
        obtain ⟨i, hi, rfl, hG, hO, hR, hb, hgs2⟩ := hrel
        have HG := Lib.hid hG
        have HO := Lib.hid hO
        have R0 := Lib.hid hR
        have HB := Lib.hid hb
        clear hG hO hR hb
        by_cases hi8 : i < 8
        case neg =>
          obtain rfl : i = 8 := by omega
          obtain ⟨cs, hcs⟩ : ∃ cs, arr .i64 (tell 64 (blkV W H v a n) (8 * 8)) = cs := ⟨_, rfl⟩
          have HC1 := Lib.hid (show cs.size = 64 by rw [← hcs]; simp)
          have HC2 := Lib.hid (show cs.toList = iv (full 64 (blkV W H v a n)) by rw [← hcs, show 8 * 8 = 64 from rfl, tell_all, arr_toList])
          rw [hcs] at HG
          clear hcs
          have HC3 := Lib.hid (show ∀ u ∈ cs.toList, u.oneCell' = true by rw [HC2.out]; intro u hu; obtain ⟨z, _, rfl⟩ := List.mem_map.1 hu; rfl)
          have hBr : w.heap.size + 1 ≤ wr.heap.size := by omega
          go_wp2_with (first | ((with_reducible refine wpl_load_row rt64 ?_ (.tmp 10) ?_ (w6.heap.size) ?_ 67 cs ?_ HG.out ?_); rfl; rfl; rfl; exact HC1.out; simp only [Act.put, List.setIfInBounds_toArray, List.set_cons_succ, List.set_cons_zero]) | ((with_reducible refine wpl_bslice sv64 ?_ (.tmp 48) ?_ cs ?_ HC1.out ?_ ?_); rfl; rfl; rfl; decide; simp only [Act.put, List.setIfInBounds_toArray, List.set_cons_succ, List.set_cons_zero]) | (at_builtin; refine Tin.wplv_push sv64 wr cs rfl (.tmp 47) (.tmp 49) rfl (w.heap.size + 1) A1 n c1 (iv (blF (blkV W H v a) n)) rfl HO.out hBr rfl HC1.out HC3.out (by omega) (by omega) ?_; intro A4 c4 w4 ho4 hg4 how4; have HO4 := Lib.hid ho4; have HG4 := Lib.hid hg4; clear ho4 hg4 how4))
          have hlw : ∀ q, (Value.slice A1 n c1).ownBlock = some q → w.heap.size + 1 ≤ q := fun q hq => (World.ownsRow.lt HO.out q hq).1
          have e1 : r * a + (q + 1) = n + 1 := by have := HN0.out; omega
          exact ⟨⟨q + 1, A4, c4, by omega, rfl, by rw [e1], by have h := HO4.out; rw [HC2.out, ← List.map_append] at h; rw [e1]; exact h, (HG4.out.block _ (row_lt R0.out) (fun e => by have := hlw _ e.symm; omega)).trans R0.out, HB.out.grown HG4.out HB.out.size (fun q hq => by have := hlw q hq; omega), Nat.le_trans hBr HG4.out.size⟩, by simp only [intOf]; omega⟩
        have i3 : (i : Int) < 8 := by omega
        go_wp2_with fail
        go_loopw [12] (fun s12 wr => ∃ (k : Nat), k ≤ 8 ∧ s12 = .int .i64 (k : Int) ∧ wr.heap[w6.heap.size]? = some (.cells (arr .i64 (tell 64 (blkV W H v a n) (8 * i + k))) 67 (0, 0)) ∧ OwnV 67 64 wr (w.heap.size + 1) (.slice A1 n c1) n (iv (blF (blkV W H v a) n)) ∧
            wr.heap[w.heap.size]? = some (.cells (plrow W H A v.length c) 24 (0, 0)) ∧ Below w.heap.size w wr ∧ w6.heap.size + 1 ≤ wr.heap.size) (fun s12 _ => 8 - (intOf s12).toNat)
        case atStart => exact ⟨0, by omega, rfl, HG.out, HO.out, R0.out, HB.out, hgs2⟩
        case round =>
          clear HO R0 HB HG hgs2
          obtain ⟨k, hk, rfl, hG, hO, hR, hb, hgs2⟩ := hrel
          have HG := Lib.hid hG
          have HO := Lib.hid hO
          have R0 := Lib.hid hR
          have HB := Lib.hid hb
          clear hG hO hR hb
          by_cases hk8 : k < 8
          case neg =>
            obtain rfl : k = 8 := by omega
            go_wp2_with fail
            exact ⟨⟨i + 1, by omega, rfl, by rw [show 8 * (i + 1) = 8 * i + 8 by omega]; exact HG.out, HO.out, R0.out, HB.out, hgs2⟩, by simp only [intOf]; omega⟩
          have i4 : (k : Int) < 8 := by omega
          have HBV := Lib.hid (near_bd (W := W) (H := H) (v := v) (mayP_all HM.out) (8 * (q : Int) + (k : Int)) (8 * (r : Int) + (i : Int)))
          have HBL := Lib.hid (HRB.out i k hk8)
          go_wp2_with ((with_reducible refine wpl_load_row rtP ?_ (.tmp 3) ?_ (w.heap.size) ?_ 24 (plrow W H A v.length c) ?_ R0.out ?_); rfl; rfl; rfl; rfl; simp only [Act.put, List.setIfInBounds_toArray, List.set_cons_succ, List.set_cons_zero])
          refine (rnear_any W H _ _ A c v _ (HV.out.keep HB.out) (mayP_W HM.out) (mayP_H HM.out) (mayP_n HM.out) (by omega) (by omega)).mono ?_
          rintro e w5 ⟨rfl, hb5⟩
          obtain ⟨b0, b1⟩ := HBV.out
          generalize nearV W H v (8 * (q : Int) + (k : Int)) (8 * (r : Int) + (i : Int)) = x at *
          clear HBV
          have HG5 := Lib.hid ((hb5.block _ (row_lt HG.out)).trans HG.out)
          have R5 := Lib.hid ((hb5.block _ (row_lt R0.out)).trans R0.out)
          have HO5 := Lib.hid (HO.out.keep hb5)
          have HB5 := Lib.hid (HB.out.trans (hb5.mono HB.out.size))
          have hgs5 : w6.heap.size + 1 ≤ w5.heap.size := Nat.le_trans hgs2 hb5.size
          clear hb5 HG R0 HO HB
          have hj64 : 8 * i + k < 64 := by omega
          have c5 := blk_cell HG5.out (8 * i + k) (by simp; exact hj64)
          have f5 := frozen_of_row w5 w6.heap.size (8 * i + k) _ _ HG5.out
          go_wp2_with fail
          have hk6 := grown_setCells w6.heap.size [.int .i64 (x - 128)] (8 * i + k) w5 w5 (World.grownBy.refl w5 _)
          exact ⟨⟨k + 1, by omega, rfl, by rw [blk_set HG5.out, ← Nat.add_assoc, ← tell_set _ _ _ hj64, HBL.out], HO5.out.kept hk6 (ownv_ne (fun q hq => by have := (HLW.out q hq).2; omega)), (heap_setCell_other _ _ _ _ (by show w.heap.size ≠ w6.heap.size; omega)).trans R5.out, HB5.out.setCell (by show w.heap.size ≤ w6.heap.size; omega) _, by simp only [World.setCell]; simp; omega⟩, by simp only [intOf]; omega⟩
end Go.Proofs.Ytajobboldjgidaa
