/- The contracts of the reference's Number and Lowest. -/
import Derived.Test.YtoclmeblbjpilaaBiC
import Derived.Laws.BitsAll
import Derived.Laws.ShiftsVarLaws
namespace Go.Proofs.Ytoclmeblbjpilaa
open Go.RowKit
open Go.Tin
set_option linter.unusedVariables false
set_option linter.unusedSimpArgs false


theorem bt3 : ST Try.prog 28 3 .i64 8 := ST.of Try.underlying28 Try.underlying3 (by kernel_rfl)
theorem Sl.cells3 {w : World} {A : Option Addr} {l : List Int} (h : Sl .i64 w A l) (h0 : 0 < l.length) : ∃ b off, A = some ⟨b, off, none⟩ ∧ RowKit.Hid (∀ W : World, Below w.heap.size w W → ∀ i, i < l.length → W.cell? ⟨b, off + i, none⟩ = some (.int .i64 (nth l i))) := by
  obtain ⟨b, off, rfl, hlt, hcell⟩ := h.at_ h0
  exact ⟨b, off, rfl, Lib.hid fun W hb i hi => (hb.cell (p := ⟨b, off + i, none⟩) hlt).trans (hcell i hi)⟩

theorem mem_nth (l : List Int) (i : Nat) (h : i < l.length) : nth l i ∈ l := by
  simp [nth, List.getD_eq_getElem?_getD, h]

set_option maxRecDepth 100000 in
set_option maxHeartbeats 1000000 in
theorem number_any (A : Option Addr) (l : List Int) (c : Nat) (w : World) (hs : Sl .i64 w A l) (hl : l.length ≤ 40) (hx : ∀ x ∈ l, x = 0 ∨ x = 1) :
    Calls Try.prog 22 #[.slice A l.length c] w fun e w' => e = .returned (.int .i64 (numL l)) ∧ w = w' := by
  have HS := Lib.hid hs
  have HX := Lib.hid hx
  clear hs hx
  go_enter Try.func22, Try.ntmps22
  go_wp2_with fail
  go_loop [3, 4] (fun s3 s4 => ∃ (i : Nat), i ≤ l.length ∧ s4 = .int .i64 (i : Int) ∧ s3 = .int .i64 (numL (l.take i))) (fun _ s4 => l.length - (intOf s4).toNat)
  case atStart => exact ⟨0, by omega, rfl, by simp [numL]⟩
  case round =>
    obtain ⟨i, hi, rfl, rfl⟩ := hrel
    by_cases hil : i < l.length
    · have i1 : (i : Int) < (l.length : Int) := by omega
      obtain ⟨b, off, rfl, K⟩ := Sl.cells3 HS.out (by omega)
      have k0 := K.out w (brefl w) i hil
      have h1 := numL_bd (l.take i) (fun x hx => HX.out x (List.mem_of_mem_take hx))
      have h2 : (2 : Int) ^ (l.take i).length ≤ 2 ^ 40 := by
        have : (2 : Nat) ^ (l.take i).length ≤ 2 ^ 40 := Nat.pow_le_pow_right (by decide) (by rw [List.length_take]; omega)
        exact_mod_cast this
      have h3 := HX.out (nth l i) (mem_nth l i hil)
      have n1 : 0 ≤ numL (l.take i) := h1.1
      have n2 : numL (l.take i) < 1099511627776 := by have := h1.2; omega
      have n3 : 0 ≤ nth l i := by omega
      have n4 : nth l i ≤ 1 := by omega
      have HN := Lib.hid (show numL (l.take (i + 1)) = 2 * numL (l.take i) + nth l i by rw [take_snoc l i hil, numL_snoc])
      clear h1 h2 h3
      go_wp2_with fail
      go_round
      case rel => exact ⟨i + 1, by omega, by go_num, by rw [HN.out]⟩
      case measure => simp [intOf]; omega
    · obtain rfl : i = l.length := by omega
      go_wp2_with fail
      go_ret
      exact ⟨ret_int (by simp), rfl⟩

theorem and_one64 (n : Int) : bits .and .i64 n 1 = n % 2 := by
  have h1 : (BitVec.ofInt 64 1).toNat = 2 ^ 1 - 1 := by decide
  have key : (BitVec.ofInt 64 n &&& BitVec.ofInt 64 1).toNat = (n % ((2 ^ 64 : Nat) : Int)).toNat % 2 ^ 1 := by
    rw [BitVec.toNat_and, BitVec.toNat_ofInt, h1, Nat.and_two_pow_sub_one_eq_mod]
  show IntKind.i64.wrap ((BitVec.ofInt 64 n &&& BitVec.ofInt 64 1).toNat : Nat) = n % 2
  rw [key, IntKind.wrap_i64]
  omega

set_option maxRecDepth 100000 in
set_option maxHeartbeats 1000000 in
theorem lowest_any (v : Int) (n : Nat) (w : World) (hn : n ≤ 64) (wv : (Lit.int .i64 v).wf = true) :
    Calls Try.prog 9 #[.int .i64 v, .int .i64 (n : Int)] w fun e w' => ∃ A' c', e = .returned (.slice A' n c') ∧ Own .i64 3 w' w.heap.size (.slice A' n c') (low v n) ∧ Below w.heap.size w w' := by
  have hv := wf64 wv
  go_enter Try.func9, Try.ntmps9
  go_wp2_with fail
  go_loopw [5, 6] (fun s5 s6 wr => ∃ (k : Nat) (o : List Int) (A' : Option Addr) (c' : Nat), k ≤ n ∧ o.length + k = n ∧ s6 = .int .i64 ((k : Int) - 1) ∧ s5 = .slice A' o.length c' ∧ low v n = o ++ low v k ∧ Own .i64 3 wr w.heap.size (.slice A' o.length c') o ∧ Below w.heap.size w wr) (fun _ s6 _ => ((intOf s6) + 1).toNat)
  case atStart => exact ⟨n, [], none, 0, by omega, by simp, rfl, rfl, by simp, Own.nil_ _ _ _ _, brefl w⟩
  case round =>
    obtain ⟨k, o, A', c', hk, hok, rfl, rfl, hp, ho, hb⟩ := hrel
    have HO := Lib.hid ho
    have HP := Lib.hid hp
    clear ho hp
    have hz := hb.size
    rcases k with _ | k
    · have hR : low v n = o := by rw [HP.out]; simp [low]
      have HR := Lib.hid hR
      have e1 : o.length = n := by omega
      clear hR
      go_wp2_with fail
      go_ret
      rw [HR.out]
      exact ⟨A', c', by rw [← e1]; rfl, by have h := HO.out; rw [e1] at h; exact h, hb⟩
    · have e1 : ((k + 1 : Nat) : Int) - 1 = (k : Int) := by omega
      have hsb := and_one64 (v / 2 ^ k)
      simp only [e1]
      go_wp2_with (at_builtin; refine Tin.wpl_push bt3 w wr (v / 2 ^ k % 2) rfl (.tmp 13) (.tmp 18) rfl w.heap.size A' _ c' o rfl HO.out hb hz rfl (by omega) (by omega) ?_; intro A4 c4 w4 ho4 hb4 hz4 hg4 how4; clear hg4 how4)
      go_roundw
      case rel => exact ⟨k, o ++ [v / 2 ^ k % 2], A4, c4, by omega, by simp; omega, by rfl, by simp, by rw [HP.out]; simp [low], by simpa using ho4, hb4⟩
      case measure => simp [intOf]
end Go.Proofs.Ytoclmeblbjpilaa
