/- Plain laws of pictures: what a picture is that is told place by place; cut, padded and brought down to its own size it is itself. No program in sight. -/
import Derived.Test.YtdjfjndmkkhknaaS
namespace Go.Proofs.Ytdjfjndmkkhknaa
open Go.RowKit
open Go.Tin
set_option linter.unusedVariables false
set_option linter.unusedSimpArgs false

theorem nth_app (l l' : List Int) (i : Nat) : nth (l ++ l') i = if i < l.length then nth l i else nth l' (i - l.length) := by
  unfold nth
  simp only [List.getD_eq_getElem?_getD]
  split
  · rw [List.getElem?_append_left (by omega)]
  · rw [List.getElem?_append_right (by omega)]
theorem list_ext {l l' : List Int} (hl : l.length = l'.length) (h : ∀ i, i < l.length → nth l i = nth l' i) : l = l' := by
  apply List.ext_getElem hl
  intro i h1 h2
  have := h i h1
  simpa [nth, List.getD_eq_getElem?_getD, h1, h2] using this
theorem pos_nat (wd x y : Nat) : pos (wd : Int) (x : Int) (y : Int) = 3 * (y * wd + x) := by
  have : 3 * ((y : Int) * (wd : Int) + (x : Int)) = ((3 * (y * wd + x) : Nat) : Int) := by push_cast; rfl
  unfold pos
  rw [this, Int.toNat_natCast]

theorem cols_at (tell : Nat → Nat → List Int) (h3 : ∀ x y, (tell x y).length = 3) (y x t : Nat) (ht : t < 3) : ∀ n, x < n → nth (cols tell y n) (3 * x + t) = nth (tell x y) t
  | 0, h => absurd h (Nat.not_lt_zero _)
  | n + 1, h => by
    rw [cols, nth_app, cols_len tell h3]
    by_cases hx : x < n
    · rw [if_pos (by omega), cols_at tell h3 y x t ht n hx]
    · obtain rfl : x = n := by omega
      rw [if_neg (by omega), show 3 * x + t - 3 * x = t by omega]
theorem rows_at (tell : Nat → Nat → List Int) (h3 : ∀ x y, (tell x y).length = 3) (wd x y t : Nat) (hx : x < wd) (ht : t < 3) : ∀ n, y < n → nth (rows tell wd n) (3 * (y * wd + x) + t) = nth (tell x y) t
  | 0, h => absurd h (Nat.not_lt_zero _)
  | n + 1, h => by
    rw [rows, nth_app, rows_len tell h3]
    have e : 3 * wd * n = 3 * (n * wd) := by rw [Nat.mul_assoc, Nat.mul_comm wd n]
    by_cases hy : y < n
    · have h1 : (y + 1) * wd ≤ n * wd := Nat.mul_le_mul_right _ hy
      rw [Nat.succ_mul] at h1
      rw [if_pos (by omega), rows_at tell h3 wd x y t hx ht n hy]
    · obtain rfl : y = n := by omega
      rw [if_neg (by omega), show 3 * (y * wd + x) + t - 3 * wd * y = 3 * x + t by omega, cols_at tell h3 y x t ht wd hx]
theorem col_rows (tell : Nat → Nat → List Int) (h3 : ∀ x y, (tell x y).length = 3) (wd ht x y : Nat) (hx : x < wd) (hy : y < ht) : col (rows tell wd ht) (pos (wd : Int) (x : Int) (y : Int)) = tell x y := by
  rw [pos_nat]
  unfold col
  have e0 := rows_at tell h3 wd x y 0 hx (by omega) ht hy
  have e1 := rows_at tell h3 wd x y 1 hx (by omega) ht hy
  have e2 := rows_at tell h3 wd x y 2 hx (by omega) ht hy
  rw [Nat.add_zero] at e0
  rw [e0, e1, e2]
  have hl := h3 x y
  match tell x y, hl with
  | [p, q, r], _ => rfl
/-- A list told place by place is the list. -/
theorem rows_self (tell : Nat → Nat → List Int) (h3 : ∀ x y, (tell x y).length = 3) (l : List Int) (wd ht : Nat) (hl : l.length = 3 * wd * ht) (h : ∀ x y, x < wd → y < ht → tell x y = col l (pos (wd : Int) (x : Int) (y : Int))) : rows tell wd ht = l := by
  refine list_ext (by rw [rows_len tell h3, hl]) fun i hi => ?_
  rw [rows_len tell h3] at hi
  have hw : 0 < wd := by
    rcases Nat.eq_zero_or_pos wd with h0 | h0
    · subst h0; simp at hi
    · exact h0
  have e : 3 * wd * ht = 3 * (ht * wd) := by rw [Nat.mul_assoc, Nat.mul_comm wd ht]
  have hq : i / 3 < ht * wd := by omega
  have hy : i / 3 / wd < ht := (Nat.div_lt_iff_lt_mul hw).2 hq
  have hx : i / 3 % wd < wd := Nat.mod_lt _ hw
  have hd : i = 3 * (i / 3 / wd * wd + i / 3 % wd) + i % 3 := by
    have := Nat.div_add_mod (i / 3) wd
    rw [Nat.mul_comm] at this
    omega
  have ht3 : i % 3 < 3 := Nat.mod_lt _ (by omega)
  have hr := rows_at tell h3 wd _ _ _ hx ht3 ht hy
  rw [← hd, h _ _ hx hy, pos_nat] at hr
  rw [hr]
  generalize hj : 3 * (i / 3 / wd * wd + i / 3 % wd) = j at *
  rcases (by omega : i % 3 = 0 ∨ i % 3 = 1 ∨ i % 3 = 2) with h' | h' | h' <;> rw [h'] at hd ⊢ <;> rw [hd] <;> rfl

theorem natSize {W H : Int} {n : Nat} (hm : mayB W H n = true) : ∃ P Q : Nat, W = (P : Int) ∧ H = (Q : Int) ∧ 1 ≤ P ∧ P ≤ 4096 ∧ 1 ≤ Q ∧ Q ≤ 4096 ∧ n = 3 * P * Q := by
  obtain ⟨hW, hH, hn⟩ := mayB_t hm
  obtain ⟨P, rfl⟩ := Int.eq_ofNat_of_zero_le (show 0 ≤ W by omega)
  obtain ⟨Q, rfl⟩ := Int.eq_ofNat_of_zero_le (show 0 ≤ H by omega)
  refine ⟨P, Q, rfl, rfl, by omega, by omega, by omega, by omega, ?_⟩
  have : (n : Int) = ((3 * P * Q : Nat) : Int) := by rw [hn]; push_cast; rfl
  exact_mod_cast this
theorem mayB_mk (P Q n : Nat) (h1 : 1 ≤ P) (h2 : P ≤ 4096) (h3 : 1 ≤ Q) (h4 : Q ≤ 4096) (hn : n = 3 * P * Q) : mayB (P : Int) (Q : Int) n = true := by
  unfold mayB okS
  subst hn
  simp only [Bool.and_eq_true, decide_eq_true_eq, beq_iff_eq]
  refine ⟨⟨⟨by omega, by omega⟩, by omega, by omega⟩, ?_⟩
  push_cast
  rfl
theorem okS_mk {a : Int} (h : 1 ≤ a) (h' : a ≤ 4096) : okS a = true := by unfold okS; simp [h, h']

theorem cutB_self {W H : Int} {n : Nat} (hm : mayB W H n = true) : cutB W H n W H = true := by
  obtain ⟨hW, hH, _⟩ := mayB_t hm
  unfold cutB
  simp [hm, okS_mk hW.1 hW.2, okS_mk hH.1 hH.2]
theorem padB_self {W H : Int} {n : Nat} (hm : mayB W H n = true) : padB W H n W H = true := by
  obtain ⟨hW, hH, _⟩ := mayB_t hm
  unfold padB
  simp [hm, okS_mk hW.1 hW.2, okS_mk hH.1 hH.2]
theorem cutR_self (l : List Int) (W H : Int) (hm : mayB W H l.length = true) : cutR l W H W H = l := by
  unfold cutR
  rw [if_pos (cutB_self hm)]
  obtain ⟨P, Q, rfl, rfl, _, _, _, _, hl⟩ := natSize hm
  exact rows_self _ (fun _ _ => rfl) l P Q hl fun x y hx hy => rfl
theorem padR_self (l : List Int) (W H : Int) (hm : mayB W H l.length = true) : padR l W H W H = l := by
  unfold padR
  rw [if_pos (padB_self hm)]
  obtain ⟨P, Q, rfl, rfl, _, _, _, _, hl⟩ := natSize hm
  refine rows_self _ (fun _ _ => rfl) l P Q hl fun x y hx hy => ?_
  have e1 : min (x : Int) ((P : Int) - 1) = (x : Int) := Int.min_eq_left (by omega)
  have e2 : min (y : Int) ((Q : Int) - 1) = (y : Int) := Int.min_eq_left (by omega)
  show padT l (P : Int) (Q : Int) x y = _
  unfold padT
  rw [e1, e2]
theorem boxR_self (l : List Int) (hb : Byts l) (W H : Int) (hm : mayB W H l.length = true) : boxR l W H W H = l := by
  unfold boxR
  rw [if_pos (cutB_self hm)]
  obtain ⟨P, Q, rfl, rfl, _, _, _, _, hl⟩ := natSize hm
  refine rows_self _ (fun _ _ => boxT_len _ _ _ _ _ _ _) l P Q hl fun x y hx hy => ?_
  have f : ∀ z M : Nat, 0 < M → bx z M M = z ∧ bw z M M = 1 := fun z M h => by
    unfold bx bw
    rw [Nat.mul_div_cancel _ h, Nat.mul_div_cancel _ h]
    exact ⟨rfl, by omega⟩
  have hP := f x P (by omega)
  have hQ := f y Q (by omega)
  show boxT l P Q P Q x y = _
  unfold boxT
  rw [hP.1, hP.2, hQ.1, hQ.2]
  have hm' : ∀ c, meanF l (P : Int) x 1 y 1 c = nth l (pos (P : Int) (x : Int) (y : Int) + c) := fun c => by
    have hz := hb (pos (P : Int) (x : Int) (y : Int) + c)
    have e : bsum l (P : Int) c x 1 y 1 = nth l (pos (P : Int) (x : Int) (y : Int) + c) := by
      simp [bsum, rsum, pp]
    unfold meanF
    rw [e]
    omega
  unfold meanL full col
  simp [List.range_succ, hm']

/-- Padded, and cut to its own size again. -/
theorem cut_pad (l : List Int) (W H a b : Int) (hp : padB W H l.length a b = true) : (padR l W H a b).length = (3 * a * b).toNat ∧ mayB a b (padR l W H a b).length = true ∧ cutB a b (padR l W H a b).length W H = true ∧ cutR (padR l W H a b) a b W H = l := by
  have h2 := hp
  unfold padB at h2
  simp only [Bool.and_eq_true, decide_eq_true_eq] at h2
  obtain ⟨hm, ⟨ha, hb⟩, haW, hbH⟩ := h2
  have hoa := ha
  have hob := hb
  have ha := okS_t ha
  have hb := okS_t hb
  obtain ⟨P, Q, rfl, rfl, p1, p2, q1, q2, hl⟩ := natSize hm
  obtain ⟨m, rfl⟩ := Int.eq_ofNat_of_zero_le (show 0 ≤ a by omega)
  obtain ⟨k, rfl⟩ := Int.eq_ofNat_of_zero_le (show 0 ≤ b by omega)
  have hR : padR l (P : Int) (Q : Int) (m : Int) (k : Int) = rows (padT l (P : Int) (Q : Int)) m k := by unfold padR; rw [if_pos hp]; rfl
  rw [hR]
  have hln := rows_len (padT l (P : Int) (Q : Int)) (fun x y => padT_len _ _ _ x y) m k
  have hmm : mayB (m : Int) (k : Int) (rows (padT l (P : Int) (Q : Int)) m k).length = true := mayB_mk m k _ (by omega) (by omega) (by omega) (by omega) hln
  have hc : cutB (m : Int) (k : Int) (rows (padT l (P : Int) (Q : Int)) m k).length (P : Int) (Q : Int) = true := by
    unfold cutB
    rw [hmm, okS_mk (by omega) (by omega), okS_mk (by omega) (by omega), decide_eq_true haW, decide_eq_true hbH]
    rfl
  refine ⟨?_, hmm, hc, ?_⟩
  · rw [hln]
    have : 3 * (m : Int) * (k : Int) = ((3 * m * k : Nat) : Int) := by push_cast; rfl
    rw [this, Int.toNat_natCast]
  · unfold cutR
    rw [if_pos hc]
    refine rows_self _ (fun _ _ => rfl) l P Q hl fun x y hx hy => ?_
    have hx' : x < m := by omega
    have hy' : y < k := by omega
    rw [col_rows _ (fun x y => padT_len _ _ _ x y) m k x y hx' hy']
    have e1 : min (x : Int) ((P : Int) - 1) = (x : Int) := Int.min_eq_left (by omega)
    have e2 : min (y : Int) ((Q : Int) - 1) = (y : Int) := Int.min_eq_left (by omega)
    unfold padT
    rw [e1, e2]
/-- Cut twice is cut to the lesser size. -/
theorem cut_cut (l : List Int) (W H a b : Int) (hc : cutB W H l.length a b = true) : mayB a b (cutR l W H a b).length = true ∧ cutB a b (cutR l W H a b).length 1 1 = true ∧ cutB W H l.length 1 1 = true ∧ cutR (cutR l W H a b) a b 1 1 = cutR l W H 1 1 := by
  have h2 := hc
  unfold cutB at h2
  simp only [Bool.and_eq_true, decide_eq_true_eq] at h2
  obtain ⟨hm, ⟨ha, hb⟩, haW, hbH⟩ := h2
  have ha := okS_t ha
  have hb := okS_t hb
  obtain ⟨P, Q, rfl, rfl, p1, p2, q1, q2, hl⟩ := natSize hm
  obtain ⟨m, rfl⟩ := Int.eq_ofNat_of_zero_le (show 0 ≤ a by omega)
  obtain ⟨k, rfl⟩ := Int.eq_ofNat_of_zero_le (show 0 ≤ b by omega)
  have hR : cutR l (P : Int) (Q : Int) (m : Int) (k : Int) = rows (fun x y => col l (pos (P : Int) (x : Int) (y : Int))) m k := by unfold cutR; rw [if_pos hc]; rfl
  rw [hR]
  have hln := rows_len (fun x y : Nat => col l (pos (P : Int) (x : Int) (y : Int))) (fun x y => rfl) m k
  have hmm : mayB (m : Int) (k : Int) (rows (fun x y => col l (pos (P : Int) (x : Int) (y : Int))) m k).length = true := mayB_mk m k _ (by omega) (by omega) (by omega) (by omega) hln
  have c1 : cutB (m : Int) (k : Int) (rows (fun x y => col l (pos (P : Int) (x : Int) (y : Int))) m k).length 1 1 = true := by
    unfold cutB
    rw [hmm, okS_mk (by omega) (by omega), decide_eq_true (by omega), decide_eq_true (by omega)]
    rfl
  have c2 : cutB (P : Int) (Q : Int) l.length 1 1 = true := by
    unfold cutB
    rw [hm, okS_mk (by omega) (by omega), decide_eq_true (by omega), decide_eq_true (by omega)]
    rfl
  refine ⟨hmm, c1, c2, ?_⟩
  unfold cutR
  rw [if_pos c1, if_pos c2]
  refine rows_congr _ _ _ _ fun x y hx hy => ?_
  have hx0 : x < m := by have : (1 : Int).toNat = 1 := rfl; omega
  have hy0 : y < k := by have : (1 : Int).toNat = 1 := rfl; omega
  exact col_rows (fun x y : Nat => col l (pos (P : Int) (x : Int) (y : Int))) (fun x y => rfl) m k x y hx0 hy0
end Go.Proofs.Ytdjfjndmkkhknaa
