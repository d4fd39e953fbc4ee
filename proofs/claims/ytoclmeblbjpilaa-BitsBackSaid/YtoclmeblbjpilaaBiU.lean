/- The contract of Done. -/
import Derived.Test.YtoclmeblbjpilaaBiT
namespace Go.Proofs.Ytoclmeblbjpilaa
open Go.RowKit
open Go.Tin
set_option linter.unusedVariables false
set_option linter.unusedSimpArgs false


theorem numL_ones : ∀ f, numL (List.replicate f 1) = 2 ^ f - 1
  | 0 => by simp [numL]
  | f + 1 => by rw [List.replicate_succ', numL_snoc, numL_ones f, Int.pow_succ]; omega
theorem pad_last (L : List Int) (hL : ∀ x ∈ L, x = 0 ∨ x = 1) (m f : Nat) (hm : m = L.length % 8) (hf : f = 8 - m) (hm0 : 0 < m) :
    pck (padL L) = pck L ++ [IntKind.u8.wrap (bits .or .u32 (IntKind.u32.wrap (numL (L.drop (8 * (L.length / 8))) * 2 ^ f)) (IntKind.u32.wrap (IntKind.u32.wrap (2 ^ f) - 1)))] := by
  rw [IntKind.wrap_u32, IntKind.wrap_u32, IntKind.wrap_u32, show ((2 : Int) ^ f % 4294967296 - 1) % 4294967296 = (2 ^ f - 1) % 4294967296 by omega]
  have hpn : padN L.length = f := by unfold padN; omega
  have hpl : (padL L).length / 8 = L.length / 8 + 1 := by rw [padL_len, hpn]; omega
  have hA : (L.take (8 * (L.length / 8))).length = 8 * (L.length / 8) := by rw [List.length_take]; omega
  obtain ⟨T, hT⟩ : ∃ T, T = L.drop (8 * (L.length / 8)) := ⟨_, rfl⟩
  have hTl : T.length = m := by rw [hT, List.length_drop]; omega
  have hTb : ∀ x ∈ T, x = 0 ∨ x = 1 := fun x hx => hL x (by rw [hT] at hx; exact List.mem_of_mem_drop hx)
  have hw : padL L = L.take (8 * (L.length / 8)) ++ (T ++ List.replicate f 1) := by
    unfold padL
    rw [hpn, hT, ← List.append_assoc, List.take_append_drop]
  have h1 : pck (padL L) = pckN L (L.length / 8) ++ pckN (T ++ List.replicate f 1) 1 := by
    have h5 := pckN_app (L.take (8 * (L.length / 8))) (L.drop (8 * (L.length / 8))) _ hA 0
    rw [List.take_append_drop, Nat.add_zero, show pckN (L.drop (8 * (L.length / 8))) 0 = [] from rfl, List.append_nil] at h5
    unfold pck
    rw [hpl, hw, pckN_app _ _ _ hA, ← h5]
  have h2 : pckN (T ++ List.replicate f 1) 1 = [numL T * 2 ^ f + (2 ^ f - 1)] := by
    have h3 : pckN (T ++ List.replicate f 1) 1 = [numL (((T ++ List.replicate f 1).drop (8 * 0)).take 8)] := rfl
    rw [h3, Nat.mul_zero, List.drop_zero, List.take_of_length_le (by rw [List.length_append, List.length_replicate]; omega), numL_app, numL_ones, List.length_replicate]
  have hb := numL_bd T hTb
  rw [hTl] at hb
  have hr7 : (2 : Int) ^ m * 2 ^ f = 256 := by
    rw [← Int.pow_add, show m + f = 8 by omega]; rfl
  obtain ⟨p1, p2⟩ := pow16 (n := f) (by omega)
  have hpf : (2 : Int) ^ f ≤ 128 := by
    have : (2 : Nat) ^ f ≤ 2 ^ 7 := Nat.pow_le_pow_right (by decide) (by omega)
    exact_mod_cast this
  have hr0 : 0 ≤ numL T * 2 ^ f := Int.mul_nonneg hb.1 (by omega)
  have hr1 : numL T * 2 ^ f ≤ 256 - 2 ^ f := by
    have : numL T * 2 ^ f ≤ (2 ^ m - 1) * 2 ^ f := Int.mul_le_mul_of_nonneg_right (by omega) (by omega)
    rw [Int.sub_mul, hr7] at this
    omega
  rw [h1, h2, ← hT, Int.emod_eq_of_lt hr0 (by omega), Int.emod_eq_of_lt (show (0 : Int) ≤ 2 ^ f - 1 by omega) (by omega)]
  rw [bits_join .u32 32 (by decide) wraps_u32 f _ _ hr0 (Int.mul_emod_left _ _) (by omega) (by omega) (by omega) (by omega)]
  unfold pck
  rw [show IntKind.u8.wrap (numL T * 2 ^ f + (2 ^ f - 1)) = numL T * 2 ^ f + (2 ^ f - 1) by rw [IntKind.wrap_u8]; omega]
theorem sl_ad {k : IntKind} {w : World} {A : Option Addr} {l : List Int} (h : Sl k w A l) (o : Obj) : Sl k (w.alloc o).drew A l := h.keep (w' := (w.alloc o).drew) (by have h := ba (brefl w) o; exact ⟨h.os, h.tape, h.output, h.size, h.block⟩)
theorem WS.capA {w : World} {B g : Nat} {A : Option Addr} {c : Nat} {L : List Int} (h : WS w B g A c L) : L.length / 8 ≤ c ∧ c ≤ maxLen ∧ (A = none → c = 0) ∧ (A = none → pck L = []) := by
  have hpl : (pck L).length = L.length / 8 := pckN_len _ _
  obtain ⟨A', c', h1, h2, h3, h4, h5⟩ := h.own.sl
  injection h1 with ha hb hc
  subst ha; subst hc
  refine ⟨by omega, h4, fun e => ?_, fun e => ?_⟩
  · rcases h5 with ⟨_, h5⟩ | ⟨g, h5, _⟩
    · exact h5
    · rw [e] at h5; cases h5
  · rcases h5 with ⟨_, h5⟩ | ⟨g, h5, _⟩
    · exact List.eq_nil_of_length_eq_zero (by omega)
    · rw [e] at h5; cases h5

set_option maxRecDepth 100000 in
set_option maxHeartbeats 2000000 in
theorem done_any (w : World) (B g : Nat) (A : Option Addr) (c : Nat) (L : List Int) (h : WS w B g A c L) :
    Calls Try.prog 12 #[.pointer (some ⟨g, 0, none⟩)] w fun e w' => ∃ A' c', e = .returned (.slice A' (stf (pck (padL L))).length c') ∧ Own .u8 5 w' w.heap.size (.slice A' (stf (pck (padL L))).length c') (stf (pck (padL L))) ∧ Below w.heap.size w w' := by
  have hpl : (pck L).length = L.length / 8 := pckN_len _ _
  have hlen := h.len
  obtain ⟨q1, q2, q3, q4⟩ := h.capA
  have hrow := h.row
  have HS := Lib.hid h.own.sl'.2
  have hgt := h.gt
  by_cases hm : L.length % 8 = 0
  · have hp : padL L = L := by unfold padL padN; rw [hm]; simp
    rw [← hpl, hm] at hrow
    have c0 := row_cell hrow 0 rfl
    have c2 := row_cell hrow 2 rfl
    have HC := Lib.hid (stuff_any A (pck L) c w HS.out (by omega))
    have hl2 : (pck L).length ≤ 100000 := by omega
    rw [hp]
    clear h hrow hpl hm hp q1 q2 q3 q4 hlen
    generalize pck L = l at *
    go_enter Try.func12, Try.ntmps12
    go_wp2_with fail
    refine HC.out.mono ?_
    rintro e w2 ⟨A2, c2', rfl, ho, hb⟩
    have HO := Lib.hid ho
    clear ho
    go_wp2_with fail
    go_ret
    exact ⟨A2, c2', rfl, HO.out, hb⟩
  · obtain ⟨m, hm2⟩ : ∃ m, m = L.length % 8 := ⟨_, rfl⟩
    obtain ⟨f, hf⟩ : ∃ f, f = 8 - m := ⟨_, rfl⟩
    have hlast := pad_last L h.bits m f hm2 hf (by omega)
    replace hrow : w.heap[g]? = some (.cells #[.slice A (pck L).length c, .int .u32 (numL (L.drop (8 * (L.length / 8)))), .int .i64 (m : Int)] 27 (0, 0)) := by rw [hpl, hm2]; exact hrow
    have hbd := numL_bd (L.drop (8 * (L.length / 8))) (fun x hx => h.bits x (List.mem_of_mem_drop hx))
    rw [List.length_drop, show L.length - 8 * (L.length / 8) = m by omega] at hbd
    have hp2 : (2 : Int) ^ m ≤ 2 ^ 7 := by
      have : (2 : Nat) ^ m ≤ 2 ^ 7 := Nat.pow_le_pow_right (by decide) (by omega)
      exact_mod_cast this
    have r0 := hbd.1
    have r1 : numL (L.drop (8 * (L.length / 8))) ≤ 127 := by omega
    have HLA := Lib.hid hlast
    have m0 : 0 < m := by omega
    have m7 : m ≤ 7 := by omega
    have hl2 : (pck L).length ≤ 100000 := by omega
    rw [← hpl] at q1
    have HQ3 := Lib.hid q3
    have HQ4 := Lib.hid q4
    clear h hlast hbd hp2 hpl hm hm2 hlen q3 q4
    generalize numL (L.drop (8 * (L.length / 8))) = r at *
    generalize pck (padL L) = out at *
    generalize pck L = l at *
    have c0 := row_cell hrow 0 rfl
    have c1 := row_cell hrow 1 rfl
    have c2 := row_cell hrow 2 rfl
    have ff : IntKind.i64.wrap (8 - (m : Int)) = (f : Int) := by rw [wrap_i64]; omega
    have f8 : f < 8 := by omega
    have fm : (8 : Int) - (m : Int) = (f : Int) := by omega
    have HF := Lib.hid hf
    clear hf hrow
    go_enter Try.func12, Try.ntmps12
    go_wp2_with fail
    go_region_law (first | (go_simp; go_at_call 25; refine (clip_any _ _ _ _ q1 q2 HQ3.out).mono ?_; rintro e w' ⟨rfl, rfl⟩) | (refine step_full bt5 _ rfl (.tmp 19) (.tmp 31) rfl A l.length (if A = none then 0 else l.length) l (IntKind.u8.wrap (bits .or .u32 (IntKind.u32.wrap (r * 2 ^ f)) (IntKind.u32.wrap (IntKind.u32.wrap (2 ^ f) - 1)))) rfl rfl rfl (sl_ad HS.out _) HQ4.out _ rfl (by simp [go_sem]) (by omega) (by omega) w.heap.size (Nat.le_of_lt (by show w.heap.size < (w.alloc _).heap.size; simp)) ?_; intro g4 cap4 w4 ho4 hg4; have HO4 := Lib.hid ho4; clear ho4))
    all_goals
      have hb4 : Below w.heap.size w w4 := (ba (brefl w) _).grown (w := w.alloc _) (row := none) ⟨hg4.os, hg4.tape, hg4.output, hg4.size, hg4.block⟩ (by simp) (fun _ h => by cases h)
      have HO5 := HO4.out
      rw [← HLA.out] at HO5
      have hlo : l.length + 1 = out.length := by rw [HLA.out]; simp
      rw [hlo] at HO5 ⊢
      have HC := Lib.hid (stuff_any _ out cap4 w4 HO5.sl'.2 (by omega))
      clear HO5 HO4 HLA hlo
      generalize out.length = on at *
      generalize (if A = none then 0 else l.length) = cc19
      go_wp2_with fail
      refine HC.out.mono ?_
      rintro e w5 ⟨A5, c5, rfl, ho5, hb5⟩
      have H5 := Lib.hid ho5
      clear ho5
      go_wp2_with fail
      go_ret
      exact ⟨A5, c5, rfl, H5.out.mono hb4.size, bt hb4 hb5⟩
end Go.Proofs.Ytoclmeblbjpilaa
