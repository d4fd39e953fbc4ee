/- The planes of a picture are planes that may be painted; flat pictures (no program in sight). -/
import Derived.Test.YtajobboldjgidaaSmU
namespace Go.Proofs.Ytajobboldjgidaa
open Go.RowKit
open Go.Tin
set_option linter.unusedVariables false
set_option linter.unusedSimpArgs false


theorem box_bd {W H : Int} {v : List Int} (hm : mayP W H v = true) {h s : Nat} (x y : Nat) : 0 ≤ boxS W H v h s x y ∧ boxS W H v h s x y ≤ 255 * h * s :=
  lsum_bd2 h (fun i => lsum_bd (fun k => near_bd (mayP_all hm) _ _) h) s
theorem dn_bd {W H : Int} {v : List Int} (hm : mayP W H v = true) {h s : Nat} (hh : 1 ≤ h ∧ h ≤ 2) (hv : 1 ≤ s ∧ s ≤ 2) (x y : Nat) : 0 ≤ dnV W H v h s x y ∧ dnV W H v h s x y ≤ 255 := by
  obtain ⟨h1, h2⟩ := box_bd (h := h) (s := s) hm x y
  unfold dnV
  generalize boxS W H v h s x y = S at *
  have e1 : h = 1 ∨ h = 2 := by omega
  have e2 : s = 1 ∨ s = 2 := by omega
  rcases e1 with rfl | rfl <;> rcases e2 with rfl | rfl <;> simp at h2 ⊢ <;> omega
theorem ptN_le {n s : Nat} (hn : 1 ≤ n ∧ n ≤ 4096) (hs : 1 ≤ s ∧ s ≤ 2) : 1 ≤ ptN n s ∧ ptN n s ≤ 4096 := ptN_bd hn hs
theorem pl0_may (l : List Int) {wd ht : Nat} (hw : 1 ≤ wd ∧ wd ≤ 4096) (hh : 1 ≤ ht ∧ ht ≤ 4096) (c : Nat) : mayP (wd : Int) (ht : Int) (grid (pcV l wd c) wd ht) = true := grid_may (fun x y => lumC_bd _ _ _) hw hh
theorem plO_may (l : List Int) {wd ht h s : Nat} (hw : 1 ≤ wd ∧ wd ≤ 4096) (hh : 1 ≤ ht ∧ ht ≤ 4096) (h1 : 1 ≤ h ∧ h ≤ 2) (s1 : 1 ≤ s ∧ s ≤ 2) (c : Nat) : mayP (plO l wd ht h s c).W (plO l wd ht h s c).H (plO l wd ht h s c).v = true := by
  unfold plO
  split
  · exact pl0_may l hw hh 0
  · exact grid_may (fun x y => dn_bd (pl0_may l hw hh c) h1 s1 x y) (ptN_bd hw h1) (ptN_bd hh s1)
theorem okPt_pl (l : List Int) {k : Int} {wd ht h s : Nat} (hk : okK k = true) (hfx : fH k = (h : Int)) (hfy : fV k = (s : Int)) (hw : 1 ≤ wd ∧ wd ≤ 4096) (hh : 1 ≤ ht ∧ ht ≤ 4096) : okPt k [plO l wd ht h s 0, plO l wd ht h s 1, plO l wd ht h s 2] = true := by
  obtain ⟨⟨x0, x1⟩, y0, y1⟩ := fHV_bd hk
  rw [hfx] at x0 x1
  rw [hfy] at y0 y1
  have h1 : 1 ≤ h ∧ h ≤ 2 := by omega
  have s1 : 1 ≤ s ∧ s ≤ 2 := by omega
  have m := fun c => plO_may l (h := h) (s := s) hw hh h1 s1 c
  have e0 : (plO l wd ht h s 0).W = (wd : Int) ∧ (plO l wd ht h s 0).H = (ht : Int) := ⟨rfl, rfl⟩
  have e : ∀ c, c ≠ 0 → (plO l wd ht h s c).W = ptV (wd : Int) (fH k) ∧ (plO l wd ht h s c).H = ptV (ht : Int) (fV k) := by
    intro c hc
    unfold plO
    rw [if_neg hc, hfx, hfy, ptV_N h1.1, ptV_N s1.1]
    exact ⟨rfl, rfl⟩
  unfold okPt
  simp only [hk, Bool.true_and, List.length_cons, List.length_nil, List.any_cons, List.any_nil, badP, m, Bool.not_true, Bool.or_false, Bool.not_false, List.drop_succ_cons, List.drop_zero, List.all_cons, List.all_nil, List.getD_cons_zero, e0.1, e0.2, (e 1 (by decide)).1, (e 1 (by decide)).2, (e 2 (by decide)).1, (e 2 (by decide)).2]
  simp
  exact ⟨m 0, by have h := m 1; rw [(e 1 (by decide)).1, (e 1 (by decide)).2] at h; exact h, by have h := m 2; rw [(e 2 (by decide)).1, (e 2 (by decide)).2] at h; exact h⟩
/-- Three bytes, so often. -/
def repT (z : List Int) : Nat → List Int
  | 0 => []
  | n + 1 => repT z n ++ z
theorem repT_len {z : List Int} (hz : z.length = 3) : ∀ n, (repT z n).length = 3 * n
  | 0 => rfl
  | n + 1 => by rw [repT, List.length_append, repT_len hz n, hz]; omega
theorem repT_nth {z : List Int} (hz : z.length = 3) {k j : Nat} (hj : j < 3) : ∀ n, k < n → nth (repT z n) (3 * k + j) = nth z j
  | 0, h => by omega
  | n + 1, h => by
    rw [repT]
    by_cases hk : k < n
    · rw [nth_app_lt (by rw [repT_len hz]; omega)]
      exact repT_nth hz hj n hk
    · obtain rfl : k = n := by omega
      rw [nth_app_ge (by rw [repT_len hz]; omega), repT_len hz, show 3 * k + j - 3 * k = j by omega]
/-- The number of a colour. -/
def lumZ (z : List Int) (c : Nat) : Int := nth (tri false (nth z 0) (nth z 1) (nth z 2)) c
theorem flat_lum {z : List Int} (hz : z.length = 3) {N k : Nat} (hk : k < N) (c : Nat) : lumC (repT z N) k c = lumZ z c := by
  have h0 := repT_nth hz (k := k) (j := 0) (by decide) N hk
  have h1 := repT_nth hz (k := k) (j := 1) (by decide) N hk
  have h2 := repT_nth hz (k := k) (j := 2) (by decide) N hk
  rw [Nat.add_zero] at h0
  unfold nth at h0 h1 h2
  unfold lumC lumZ
  rw [h0, h1, h2]
  rfl
theorem lin_const {f : Nat → Nat → Int} {K : Int} {wd y : Nat} (hf : ∀ x, x < wd → f x y = K) : ∀ x, x ≤ wd → lin f y x = List.replicate x K
  | 0, _ => rfl
  | x + 1, h => by rw [lin, lin_const hf x (by omega), hf x (by omega), List.replicate_succ']
theorem grid_const {f : Nat → Nat → Int} {K : Int} {wd ht : Nat} (hf : ∀ x y, x < wd → y < ht → f x y = K) : ∀ y, y ≤ ht → grid f wd y = List.replicate (wd * y) K
  | 0, _ => by simp [grid]
  | y + 1, h => by rw [grid, grid_const hf y (by omega), lin_const (fun x hx => hf x y hx (by omega)) wd (Nat.le_refl _), List.replicate_append_replicate, Nat.mul_succ]
theorem near_const {K : Int} {wd ht : Nat} (hw : 1 ≤ wd ∧ wd ≤ 4096) (hh : 1 ≤ ht ∧ ht ≤ 4096) {x y : Int} (hx : 0 ≤ x) (hy : 0 ≤ y) : nearV (wd : Int) (ht : Int) (List.replicate (wd * ht) K) x y = K := by
  have h := (npos_facts (W := (wd : Int)) (H := (ht : Int)) (n := wd * ht) (by omega) (by omega) (by rw [Int.natCast_mul]) hx hy).1.2
  unfold nearV nth
  rw [List.getD_eq_getElem?_getD, List.getElem?_replicate, if_pos h]
  rfl
theorem dn_const {K : Int} {wd ht h s : Nat} (hw : 1 ≤ wd ∧ wd ≤ 4096) (hh : 1 ≤ ht ∧ ht ≤ 4096) (h1 : 1 ≤ h ∧ h ≤ 2) (s1 : 1 ≤ s ∧ s ≤ 2) (x y : Nat) : dnV (wd : Int) (ht : Int) (List.replicate (wd * ht) K) h s x y = K := by
  have hn : ∀ (a b : Nat), nearV (wd : Int) (ht : Int) (List.replicate (wd * ht) K) ((h : Int) * (x : Int) + (a : Int)) ((s : Int) * (y : Int) + (b : Int)) = K := fun a b =>
    near_const hw hh (by have := Int.mul_nonneg (show (0 : Int) ≤ h by omega) (show (0 : Int) ≤ x by omega); omega) (by have := Int.mul_nonneg (show (0 : Int) ≤ s by omega) (show (0 : Int) ≤ y by omega); omega)
  have hb : boxS (wd : Int) (ht : Int) (List.replicate (wd * ht) K) h s x y = lsum (fun _ => lsum (fun _ => K) h) s := by
    unfold boxS
    simp only [hn]
  unfold dnV
  rw [hb]
  have e1 : h = 1 ∨ h = 2 := by omega
  have e2 : s = 1 ∨ s = 2 := by omega
  rcases e1 with rfl | rfl <;> rcases e2 with rfl | rfl <;> simp [lsum] <;> omega
theorem flat_pl {z : List Int} (hz : z.length = 3) {wd ht h s : Nat} (hw : 1 ≤ wd ∧ wd ≤ 4096) (hh : 1 ≤ ht ∧ ht ≤ 4096) (h1 : 1 ≤ h ∧ h ≤ 2) (s1 : 1 ≤ s ∧ s ≤ 2) (c : Nat) : ∃ n, 1 ≤ n ∧ (plO (repT z (wd * ht)) wd ht h s c).v = List.replicate n (lumZ z c) := by
  have hg : ∀ c, grid (pcV (repT z (wd * ht)) wd c) wd ht = List.replicate (wd * ht) (lumZ z c) := fun c =>
    grid_const (fun x y hx hy => flat_lum hz (by
      have h1 : (y + 1) * wd ≤ ht * wd := Nat.mul_le_mul_right wd (by omega)
      rw [Nat.succ_mul, Nat.mul_comm ht wd] at h1
      omega) c) ht (Nat.le_refl _)
  unfold plO
  split
  · rename_i hc
    subst hc
    exact ⟨wd * ht, Nat.mul_pos (by omega) (by omega), hg 0⟩
  · refine ⟨ptN wd h * ptN ht s, Nat.mul_pos (ptN_bd hw h1).1 (ptN_bd hh s1).1, ?_⟩
    show grid (dnV (wd : Int) (ht : Int) (grid (pcV (repT z (wd * ht)) wd c) wd ht) h s) (ptN wd h) (ptN ht s) = _
    rw [hg c]
    exact grid_const (fun x y _ _ => dn_const hw hh h1 s1 x y) _ (Nat.le_refl _)
theorem linT_const {f : Nat → Nat → List Int} {t : List Int} {wd y : Nat} (hf : ∀ x, x < wd → f x y = t) : ∀ x, x ≤ wd → linT f y x = repT t x
  | 0, _ => rfl
  | x + 1, h => by rw [linT, linT_const hf x (by omega), hf x (by omega)]; rfl
theorem repT_add (t : List Int) (a : Nat) : ∀ b, repT t a ++ repT t b = repT t (a + b)
  | 0 => by simp [repT]
  | b + 1 => by rw [repT, ← List.append_assoc, repT_add t a b]; rfl
theorem gridT_const {f : Nat → Nat → List Int} {t : List Int} {wd ht : Nat} (hf : ∀ x y, x < wd → y < ht → f x y = t) : ∀ y, y ≤ ht → gridT f wd y = repT t (wd * y)
  | 0, _ => by simp [gridT, repT]
  | y + 1, h => by rw [gridT, gridT_const hf y (by omega), linT_const (fun x hx => hf x y hx (by omega)) wd (Nat.le_refl _), repT_add, Nat.mul_succ]
end Go.Proofs.Ytajobboldjgidaa
