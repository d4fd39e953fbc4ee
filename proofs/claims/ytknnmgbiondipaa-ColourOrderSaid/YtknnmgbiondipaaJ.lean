/- Plain numbers and lists: more of a colour is no less of luminance; bytes are turned three by three. No program in sight. -/
import Derived.Test.YtknnmgbiondipaaI
namespace Go.Proofs.Ytknnmgbiondipaa
open Go.Tin

/-- The greater one. -/
def mx (a b : Int) : Int := if a < b then b else a
theorem le_mx (a b : Int) : a ≤ mx a b := by unfold mx; split <;> omega
theorem clamp_mono {a b : Int} (h : a ≤ b) : clamp a ≤ clamp b := by unfold clamp; repeat' split <;> try omega
theorem rnd_mono {a b : Int} (h : a ≤ b) : rnd a ≤ rnd b := by unfold rnd; omega
theorem clamp_clamp (n : Int) : clamp (clamp n) = clamp n := clamp_in (clamp_bd n).1 (clamp_bd n).2
theorem lumY_mono (r g b m : Int) : lumY r g b ≤ lumY (mx r m) (mx g m) (mx b m) := by
  unfold lumY
  have h1 := clamp_mono (le_mx r m)
  have h2 := clamp_mono (le_mx g m)
  have h3 := clamp_mono (le_mx b m)
  exact clamp_mono (rnd_mono (by omega))
theorem lum_clamp (r g b : Int) : lumY (clamp r) (clamp g) (clamp b) = lumY r g b ∧ lumB (clamp r) (clamp g) (clamp b) = lumB r g b ∧ lumR (clamp r) (clamp g) (clamp b) = lumR r g b := by
  unfold lumY lumB lumR
  simp only [clamp_clamp, and_self]
theorem pai_clamp (r g b : Int) : paiR (clamp r) (clamp g) (clamp b) = paiR r g b ∧ paiG (clamp r) (clamp g) (clamp b) = paiG r g b ∧ paiB (clamp r) (clamp g) (clamp b) = paiB r g b := by
  unfold paiR paiG paiB
  simp only [clamp_clamp, and_self]

theorem threes_left (p : Bool) (a c : List Int) : ∀ k, 3 * k ≤ a.length → threes p (a ++ c) k = threes p a k := by
  intro k
  induction k with
  | zero => intro _; rfl
  | succ k ih =>
    intro h
    rw [threes_snoc, threes_snoc, ih (by omega)]
    simp only [List.getD_eq_getElem?_getD, List.getElem?_append_left (show 3 * k < a.length by omega), List.getElem?_append_left (show 3 * k + 1 < a.length by omega), List.getElem?_append_left (show 3 * k + 2 < a.length by omega)]
theorem threes_right (p : Bool) (a c : List Int) (m : Nat) (hm : a.length = 3 * m) : ∀ k, threes p (a ++ c) (m + k) = threes p a m ++ threes p c k := by
  intro k
  induction k with
  | zero => simp [threes, threes_left p a c m (by omega)]
  | succ k ih =>
    rw [← Nat.add_assoc, threes_snoc, ih, threes_snoc, List.append_assoc]
    have e0 : 3 * (m + k) = a.length + 3 * k := by omega
    have h0 : ∀ j, (a ++ c).getD (a.length + 3 * k + j) 0 = c.getD (3 * k + j) 0 := fun j => by
      rw [List.getD_eq_getElem?_getD, List.getD_eq_getElem?_getD, List.getElem?_append_right (by omega), show a.length + 3 * k + j - a.length = 3 * k + j from by omega]
    have h00 := h0 0
    simp only [Nat.add_zero] at h00
    rw [e0, h00, h0 1, h0 2]
theorem allOf_append (p : Bool) (a c : List Int) (ha : a.length % 3 = 0) (hc : c.length % 3 = 0) : allOf p (a ++ c) = allOf p a ++ allOf p c := by
  unfold allOf
  rw [if_pos ha, if_pos hc, if_pos (by rw [List.length_append]; omega), List.length_append]
  rw [show (a.length + c.length) / 3 = a.length / 3 + c.length / 3 from by omega]
  exact threes_right p a c (a.length / 3) (by omega) _
theorem allOf_len (p : Bool) (a : List Int) (ha : a.length % 3 = 0) : (allOf p a).length = a.length := by
  unfold allOf
  rw [if_pos ha, threes_len]; omega
theorem allB_append {a c : List Int} (ha : AllB a) (hc : AllB c) : AllB (a ++ c) := by
  intro i
  rcases Nat.lt_or_ge i a.length with h | h
  · have := ha i
    rwa [List.getD_eq_getElem?_getD, List.getElem?_append_left h, ← List.getD_eq_getElem?_getD]
  · have := hc (i - a.length)
    rwa [List.getD_eq_getElem?_getD, List.getElem?_append_right h, ← List.getD_eq_getElem?_getD]
theorem strOf_toList (l : List Int) : (strOf l).data.toList = l.map fun n => UInt8.ofNat n.toNat := by
  have h : ∀ (l : List Int) (r : ByteArray), (l.foldl (fun r n => r.push (UInt8.ofNat n.toNat)) r).data.toList = r.data.toList ++ l.map fun n => UInt8.ofNat n.toNat := by
    intro l
    induction l with
    | nil => intro r; simp
    | cons x l ih => intro r; rw [List.foldl_cons, ih]; simp
  have := h l ByteArray.empty
  simpa [strOf] using this
theorem strOf_size (l : List Int) : (strOf l).size = l.length := by
  have h := strOf_toList l
  have h2 := congrArg List.length h
  simpa using h2
theorem strOf_append (a c : List Int) : strOf (a ++ c) = strOf a ++ strOf c := by
  apply ByteArray.ext
  apply Array.ext'
  rw [strOf_toList, List.map_append, ← strOf_toList, ← strOf_toList]
  simp
theorem all_n (A : Option Addr) (n c : Nat) (l : List Int) (p : Bool) (w : World) (hn : l.length = n) (hr : Sl .u8 w A l) (hc : n ≤ c) (hl : n ≤ 1000000) (hb : AllB l) :
    Calls Try.prog 14 #[.slice A n c, .bool p] w (AllPost w (allOf p l)) := by
  subst hn
  exact all_any A c l p w hr hc hl hb
end Go.Proofs.Ytknnmgbiondipaa
