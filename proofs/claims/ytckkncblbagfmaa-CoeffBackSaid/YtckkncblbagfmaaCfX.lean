/- CoeffBack: what is read of a block's symbols (no program in sight). -/
import Derived.Test.YtckkncblbagfmaaCfW
namespace Go.Proofs.Ytckkncblbagfmaa
open Go.RowKit
open Go.Tin
set_option linter.unusedVariables false
set_option linter.unusedSimpArgs false


theorem nthr (l m : List Int) (i : Nat) : nth (l ++ m) (l.length + i) = nth m i := by
  unfold nth
  rw [List.getD_eq_getElem?_getD, List.getElem?_append_right (by omega), Nat.add_sub_cancel_left, List.getD_eq_getElem?_getD]
theorem nthr' {l m : List Int} {n : Nat} (h : l.length = n) (i : Nat) : nth (l ++ m) (n + i) = nth m i := by
  subst h; exact nthr l m i
theorem eq_of_nth {l m : List Int} (h1 : l.length = 64) (h2 : m.length = 64) (h : ∀ j, j < 64 → nth l j = nth m j) : l = m := by
  rw [← full_nth l 64 h1, ← full_nth m 64 h2]
  exact full_congr _ _ _ h
/-- The numbers of the first steps, and noughts behind. -/
def pk (b : List Int) (k : Nat) : List Int := full 64 fun j => if j ≤ k then nth (toL b) j else 0
theorem pk_len (b : List Int) (k : Nat) : (pk b k).length = 64 := by simp [pk]
theorem pk_nth (b : List Int) (k j : Nat) (hj : j < 64) : nth (pk b k) j = if j ≤ k then nth (toL b) j else 0 := by
  unfold pk
  rw [nth_full _ _ _ hj]
theorem toL_len' (b : List Int) : (toL b).length = 64 := by simp [toL]
theorem toL_zero (b : List Int) : nth (toL b) 0 = nth b 0 := by
  unfold toL
  rw [nth_full _ _ _ (by decide)]
  rfl
theorem nth_rep (j : Nat) : nth (List.replicate 64 (0 : Int)) j = 0 := by
  unfold nth
  rw [List.getD_eq_getElem?_getD, List.getElem?_replicate]
  split <;> rfl
theorem pk_zero (b : List Int) : (List.replicate 64 (0 : Int)).set 0 (nth b 0) = pk b 0 := by
  refine eq_of_nth (by simp) (pk_len _ _) fun j hj => ?_
  rw [nth_set _ _ _ _ (by simp), pk_nth _ _ _ hj, nth_rep]
  by_cases h : j = 0
  · subst h
    rw [if_pos rfl, if_pos (Nat.le_refl _), toL_zero]
  · rw [if_neg h, if_neg (by omega)]
theorem pk_set (b : List Int) (k : Nat) (hk : k + 1 < 64) : (pk b k).set (k + 1) (nth (toL b) (k + 1)) = pk b (k + 1) := by
  refine eq_of_nth (by simp [pk_len]) (pk_len _ _) fun j hj => ?_
  rw [nth_set _ _ _ _ (by rw [pk_len]; omega), pk_nth _ _ _ hj, pk_nth _ _ _ hj]
  by_cases h : j = k + 1
  · subst h
    rw [if_pos rfl, if_pos (Nat.le_refl _)]
  · rw [if_neg h]
    by_cases h2 : j ≤ k
    · rw [if_pos h2, if_pos (by omega)]
    · rw [if_neg h2, if_neg (by omega)]
theorem pk_same (b : List Int) (k : Nat) (hk : k + 1 < 64) (h0 : nth (toL b) (k + 1) = 0) : pk b k = pk b (k + 1) := by
  rw [← pk_set b k hk, h0]
  refine eq_of_nth (pk_len _ _) (by simp [pk_len]) fun j hj => ?_
  rw [nth_set _ _ _ _ (by rw [pk_len]; omega)]
  by_cases h : j = k + 1
  · subst h
    rw [if_pos rfl, pk_nth _ _ _ hj, if_neg (by omega)]
  · rw [if_neg h]
theorem pk_end (b : List Int) : pk b 63 = toL b := by
  refine eq_of_nth (pk_len _ _) (toL_len' _) fun j hj => ?_
  rw [pk_nth _ _ _ hj, if_pos (by omega)]
theorem cod_z (b : List Int) (last : Int) : ∀ k, (cod b last k).bad = false → (cod b last k).z ≤ k ∧ ∀ j, k - (cod b last k).z < j → j ≤ k → nth (toL b) j = 0
  | 0, _ => by
    refine ⟨?_, fun j h1 h2 => by omega⟩
    simp only [cod, ini]
    split <;> simp
  | k + 1, h => by
    simp only [cod] at h ⊢
    by_cases hb : (cod b last k).bad = true
    · rw [stp_bad _ _ hb] at h
      cases h
    · obtain ⟨h1, h2⟩ := cod_z b last k (by simpa using hb)
      generalize cod b last k = s at *
      by_cases h0 : nth (toL b) (k + 1) = 0
      · rw [h0, stp_zero]
        refine ⟨by simp only; omega, fun j hj1 hj2 => ?_⟩
        simp only at hj1
        by_cases he : j = k + 1
        · rw [he]; exact h0
        · exact h2 j (by omega) (by omega)
      · unfold stp
        rw [if_neg h0]
        unfold stp at h
        rw [if_neg h0] at h
        split
        · rename_i hh
          rw [if_pos hh] at h
          cases h
        · exact ⟨Nat.zero_le _, fun j hj1 hj2 => by simp only at hj1; omega⟩
theorem ok240 : okS 1 240 0 0 1 10 = true := by decide
theorem set_zero {to : List Int} (j : Nat) (hj : j < to.length) (h : nth to j = 0) : to.set j 0 = to := by
  apply List.ext_getElem?
  intro i
  rw [List.getElem?_set]
  split
  · rename_i he
    subst he
    unfold nth at h
    rw [List.getD_eq_getElem?_getD, List.getElem?_eq_getElem hj] at h
    rw [List.getElem?_eq_getElem hj]
    simpa using h.symm
  · rfl
theorem six (zs : List Int) (n : Nat) (to : List Int) (hto : to.length = 64) : ∀ q f p m, (∀ i, i < q → nth zs ((m + i) * 4) = 1 ∧ nth zs ((m + i) * 4 + 1) = 240 ∧ nth zs ((m + i) * 4 + 2) = 0 ∧ nth zs ((m + i) * 4 + 3) = 0) → m + q ≤ n → p + 16 * q ≤ 64 → q ≤ f → (∀ j, p ≤ j → j < p + 16 * q → nth to j = 0) → rdL zs n f p m to = rdL zs n (f - q) (p + 16 * q) (m + q) to
  | 0, f, p, m, _, _, _, _, _ => by simp
  | q + 1, f, p, m, h, hn, hp, hf, h0 => by
    obtain ⟨f', rfl⟩ : ∃ f', f = f' + 1 := ⟨f - 1, by omega⟩
    obtain ⟨e0, e1, e2, e3⟩ := h 0 (by omega)
    simp only [Nat.add_zero] at e0 e1 e2 e3
    have hok : okA zs m 1 10 = true := by unfold okA; rw [e0, e1, e2, e3]; exact ok240
    have hsy : syA zs m = 240 := e1
    have hvl : vlA zs m = 0 := by unfold vlA; rw [e2, e3]; rfl
    have h15 : ((240 : Int) / 16).toNat = 15 := rfl
    have hz : nth to (p + 15) = 0 := h0 _ (by omega) (by omega)
    rw [rdL_go (by omega) (by omega) hok (by rw [hsy]; decide) (by rw [hsy, h15]; omega), hsy, h15, hvl, set_zero _ (by omega) hz,
      six zs n to hto q f' (p + 15 + 1) (m + 1) (fun i hi => by have := h (i + 1) (by omega); rwa [show m + (i + 1) = m + 1 + i by omega] at this) (by omega) (by omega) (by omega) (fun j h1 h2 => h0 j (by omega) (by omega))]
    congr 1 <;> omega
theorem repL_nth (ac : Int) : ∀ k i, i < k → nth (repL ac k) (i * 4) = ac ∧ nth (repL ac k) (i * 4 + 1) = 240 ∧ nth (repL ac k) (i * 4 + 2) = 0 ∧ nth (repL ac k) (i * 4 + 3) = 0
  | 0, i, h => by omega
  | k + 1, i, h => by
    have hl := repL_len ac k
    rw [repL]
    by_cases hi : i < k
    · obtain ⟨h0, h1, h2, h3⟩ := repL_nth ac k i hi
      rw [nth_app_lt (by omega), nth_app_lt (by omega), nth_app_lt (by omega), nth_app_lt (by omega)]
      exact ⟨h0, h1, h2, h3⟩
    · obtain rfl : i = k := by omega
      exact ⟨nthr' (i := 0) hl, nthr' (i := 1) hl, nthr' (i := 2) hl, nthr' (i := 3) hl⟩
theorem symL_rep (ac : Int) (z : Nat) (V N : Int) (i : Nat) (hi : i < z / 16) : nth (symL ac z V N) (i * 4) = ac ∧ nth (symL ac z V N) (i * 4 + 1) = 240 ∧ nth (symL ac z V N) (i * 4 + 2) = 0 ∧ nth (symL ac z V N) (i * 4 + 3) = 0 := by
  have hl := repL_len ac (z / 16)
  unfold symL
  rw [nth_app_lt (by omega), nth_app_lt (by omega), nth_app_lt (by omega), nth_app_lt (by omega)]
  exact repL_nth ac _ i hi
theorem symL_last (ac : Int) (z : Nat) (V N : Int) : nth (symL ac z V N) (z / 16 * 4) = ac ∧ nth (symL ac z V N) (z / 16 * 4 + 1) = ((z % 16 : Nat) : Int) * 16 + N ∧ nth (symL ac z V N) (z / 16 * 4 + 2) = V ∧ nth (symL ac z V N) (z / 16 * 4 + 3) = N := by
  have hl := repL_len ac (z / 16)
  exact ⟨nthr' (i := 0) hl, nthr' (i := 1) hl, nthr' (i := 2) hl, nthr' (i := 3) hl⟩
theorem rd_sym (zs : List Int) (n : Nat) (to : List Int) (hto : to.length = 64) (f p m z : Nat) (V : Int) (N : Nat) (hN : 1 ≤ N) (hN' : N ≤ 10) (hva : vaB V N = true) (hz : ∀ i, i < (z / 16 + 1) * 4 → nth zs (m * 4 + i) = nth (symL 1 z V N) i) (hn : m + z / 16 + 1 ≤ n) (hp : p + z ≤ 63) (hf : z / 16 + 1 ≤ f) (h0 : ∀ j, p ≤ j → j < p + z → nth to j = 0) :
    rdL zs n f p m to = rdL zs n (f - z / 16 - 1) (p + z + 1) (m + z / 16 + 1) (to.set (p + z) (vaN V N)) := by
  rw [six zs n to hto (z / 16) f p m (fun i hi => by
    obtain ⟨a0, a1, a2, a3⟩ := symL_rep 1 z V N i hi
    have b0 := hz (i * 4) (by omega)
    have b1 := hz (i * 4 + 1) (by omega)
    have b2 := hz (i * 4 + 2) (by omega)
    have b3 := hz (i * 4 + 3) (by omega)
    rw [show (m + i) * 4 = m * 4 + i * 4 by omega, show m * 4 + i * 4 + 1 = m * 4 + (i * 4 + 1) by omega, show m * 4 + i * 4 + 2 = m * 4 + (i * 4 + 2) by omega, show m * 4 + i * 4 + 3 = m * 4 + (i * 4 + 3) by omega]
    exact ⟨b0.trans a0, b1.trans a1, b2.trans a2, b3.trans a3⟩) (by omega) (by omega) (by omega) (fun j h1 h2 => h0 j h1 (by omega))]
  obtain ⟨f', hf'⟩ : ∃ f', f - z / 16 = f' + 1 := ⟨f - z / 16 - 1, by omega⟩
  obtain ⟨a0, a1, a2, a3⟩ := symL_last 1 z V N
  have b0 := (hz (z / 16 * 4) (by omega)).trans a0
  have b1 := (hz (z / 16 * 4 + 1) (by omega)).trans a1
  have b2 := (hz (z / 16 * 4 + 2) (by omega)).trans a2
  have b3 := (hz (z / 16 * 4 + 3) (by omega)).trans a3
  have e : (m + z / 16) * 4 = m * 4 + z / 16 * 4 := by omega
  have hsy : syA zs (m + z / 16) = ((z % 16 : Nat) : Int) * 16 + N := by unfold syA; rw [e, Nat.add_assoc, b1]
  have hok : okA zs (m + z / 16) 1 10 = true := by
    unfold okA okS
    simp only [e, Nat.add_assoc, b0, b1, b2, b3, hva, Bool.true_and, Bool.and_eq_true, decide_eq_true_eq, beq_iff_eq]
    refine ⟨trivial, ?_, ?_, ?_, ?_⟩ <;> omega
  have hvl : vlA zs (m + z / 16) = vaN V N := by unfold vlA; simp only [e, Nat.add_assoc, b2, b3]
  have hd : (syA zs (m + z / 16) / 16).toNat = z % 16 := by rw [hsy]; omega
  rw [hf', rdL_go (by omega) (by omega) hok (by rw [hsy]; omega) (by rw [hd, hsy]; omega), hd, hvl]
  have e1 : p + 16 * (z / 16) + z % 16 = p + z := by omega
  rw [e1]
  congr 1
theorem cod_ok (b : List Int) (last : Int) (k : Nat) (h : (cod b last (k + 1)).bad = false) : (cod b last k).bad = false := by
  cases hb : (cod b last k).bad with
  | false => rfl
  | true =>
    have := stp_bad _ (nth (toL b) (k + 1)) hb
    simp only [cod] at h
    rw [this] at h
    cases h
theorem cod_ok' (b : List Int) (last : Int) (h : (cod b last 63).bad = false) (k : Nat) (hk : k ≤ 63) : (cod b last k).bad = false := by
  cases hb : (cod b last k).bad with
  | false => rfl
  | true =>
    have := cod_bad b last k hb (63 - k)
    rw [show k + (63 - k) = 63 by omega, h] at this
    cases this
/-- What is put of a number that is not too great. -/
theorem stp_put {s : Cd} {v : Int} (h0 : v ≠ 0) (h : (stp s v).bad = false) : ∃ N : Nat, 1 ≤ N ∧ N ≤ 10 ∧ sz v = (N : Int) ∧ stp s v = ⟨s.out ++ symL 1 s.z (exV v) N, 0, s.bad⟩ ∧ vaB (exV v) N = true ∧ vaN (exV v) N = v := by
  unfold stp at h
  rw [if_neg h0] at h
  by_cases hh : sz v < 0 ∨ 10 < sz v
  · rw [if_pos hh] at h
    cases h
  · rcases sz_cases v with ⟨N, hN, hs⟩ | ⟨hN, _⟩
    · have hs' := hs
      obtain ⟨k1, k2, k3, k4⟩ := hs'
      have h1 : 1 ≤ N := by
        rcases k4 with k4 | k4
        · subst k4
          rw [show (2 : Int) ^ 0 = 1 from rfl] at k2 k3
          omega
        · cases N with
          | zero => rw [show (2 : Int) ^ 0 = 1 from rfl] at k2 k3; omega
          | succ N => omega
      obtain ⟨_, e2, _⟩ := ex_of hs
      have hv := va_ex hs
      rw [e2] at hv
      exact ⟨N, h1, by omega, hN, stp_yes s v h0 N hN (by omega), hv.1, hv.2⟩
    · omega
theorem ini_put {d : Int} (h : (ini d).bad = false) : ∃ N : Nat, N ≤ 11 ∧ ini d = ⟨[0, (N : Int), exV d, (N : Int)], 0, false⟩ ∧ vaB (exV d) N = true ∧ vaN (exV d) N = d := by
  unfold ini at h ⊢
  by_cases hh : sz d < 0 ∨ 11 < sz d
  · rw [if_pos hh] at h
    cases h
  · rcases sz_cases d with ⟨N, hN, hs⟩ | ⟨hN, _⟩
    · obtain ⟨_, e2, _⟩ := ex_of hs
      have hv := va_ex hs
      rw [e2] at hv
      refine ⟨N, by omega, ?_, hv.1, hv.2⟩
      rw [if_neg hh, hN]
      simp [symL, repL]
    · omega
theorem rd_k (b : List Int) (last : Int) (zs : List Int) (n : Nat) : ∀ k, k ≤ 63 → (cod b last k).bad = false → ∀ m, (cod b last k).out.length = m * 4 → (∀ i, i < m * 4 → nth zs i = nth (cod b last k).out i) → m ≤ n → ∃ f, 65 ≤ f + (k + 1 - (cod b last k).z) ∧ rdA zs n last = rdL zs n f (k + 1 - (cod b last k).z) m (pk b k)
  | 0, _, hbad, m, hm, hz, hn => by
    simp only [cod] at *
    obtain ⟨N, hN, hi, hva, hvn⟩ := ini_put hbad
    rw [hi] at hm hz ⊢
    simp only [List.length_cons, List.length_nil] at hm
    obtain rfl : m = 1 := by omega
    have b0 : nth zs 0 = 0 := hz 0 (by decide)
    have b1 : nth zs 1 = (N : Int) := hz 1 (by decide)
    have b2 : nth zs 2 = exV (nth b 0 - last) := hz 2 (by decide)
    have b3 : nth zs 3 = (N : Int) := hz 3 (by decide)
    have hok : okA zs 0 0 11 = true := by
      unfold okA okS
      simp only [Nat.zero_mul, Nat.zero_add, b0, b1, b2, b3, hva, Bool.true_and, Bool.and_eq_true, decide_eq_true_eq, beq_iff_eq]
      refine ⟨trivial, ?_, ?_, ?_, ?_⟩ <;> omega
    have hsy : syA zs 0 = (N : Int) := b1
    have hvl : vlA zs 0 = nth b 0 - last := by
      show vaN (nth zs 2) (nth zs 3) = _
      rw [b2, b3, hvn]
    refine ⟨64, by simp, ?_⟩
    rw [rdA_yes (by omega) hok (by rw [hsy]; omega), hvl, show last + (nth b 0 - last) = nth b 0 by omega, pk_zero]
    rfl
  | k + 1, hk, hbad, m, hm, hz, hn => by
    have hb' := cod_ok b last k hbad
    obtain ⟨zk, z0⟩ := cod_z b last k hb'
    obtain ⟨m0, hm0, hmz⟩ := cod_len b last k
    have ih := rd_k b last zs n k (by omega) hb' m0 hm0
    simp only [cod] at hbad hm hz ⊢
    generalize cod b last k = s at *
    by_cases h0 : nth (toL b) (k + 1) = 0
    · rw [h0, stp_zero] at hm hz ⊢
      simp only at hm hz ⊢
      obtain rfl : m = m0 := by omega
      obtain ⟨f, hf, hr⟩ := ih hz hn
      refine ⟨f, by omega, ?_⟩
      rw [hr, pk_same b k (by omega) h0, show k + 1 + 1 - (s.z + 1) = k + 1 - s.z by omega]
    · obtain ⟨N, hN, hN', hs, hst, hva, hvn⟩ := stp_put h0 hbad
      rw [hst] at hm hz ⊢
      simp only at hm hz ⊢
      rw [List.length_append, symL_len, hm0] at hm
      obtain rfl : m = m0 + s.z / 16 + 1 := by omega
      obtain ⟨f, hf, hr⟩ := ih (fun i hi => by rw [hz i (by omega), nth_app_lt (by omega)]) (by omega)
      refine ⟨f - s.z / 16 - 1, by omega, ?_⟩
      rw [hr, rd_sym zs n (pk b k) (pk_len _ _) f (k + 1 - s.z) m0 s.z _ N hN hN' hva (fun i hi => by rw [hz (m0 * 4 + i) (by omega), nthr' hm0]) (by omega) (by omega) (by omega) (fun j h1 h2 => by
        rw [pk_nth _ _ _ (by omega), if_pos (by omega)]
        exact z0 j (by omega) (by omega)), hvn, show k + 1 - s.z + s.z = k + 1 by omega, pk_set b k (by omega)]
      rfl
theorem code_of {b : List Int} {last : Int} (h : told b last = true) : (cod b last 63).bad = false ∧ code b last = symsOf (cod b last 63) := by
  refine ⟨?_, by unfold code; rw [if_pos h]⟩
  unfold told at h
  simp only [Bool.and_eq_true, Bool.not_eq_true'] at h
  exact h.2.2
/-- What is read of a block's symbols, whatever stands behind them. -/
theorem rd_all {b : List Int} {last : Int} (h : told b last = true) (N : Nat) (hN : N * 4 = (code b last).length) (zs : List Int) (n : Nat) (hz : ∀ i, i < N * 4 → nth zs i = nth (code b last) i) (hn : N ≤ n) : rdA zs n last = ⟨0, toL b, N⟩ := by
  obtain ⟨hbad, hc⟩ := code_of h
  rw [hc] at hN hz
  obtain ⟨m, hm, hmz⟩ := cod_len b last 63
  obtain ⟨zk, -⟩ := cod_z b last 63 hbad
  have key := rd_k b last zs n 63 (Nat.le_refl _) hbad m hm
  generalize cod b last 63 = s at *
  unfold symsOf at hN hz
  by_cases hz0 : 0 < s.z
  · rw [if_pos hz0] at hN hz
    simp only [List.length_append, List.length_cons, List.length_nil] at hN
    obtain rfl : N = m + 1 := by omega
    obtain ⟨f, hf, hr⟩ := key (fun i hi => by rw [hz i (by omega), nth_app_lt (by omega)]) (by omega)
    obtain ⟨f', rfl⟩ : ∃ f', f = f' + 1 := ⟨f - 1, by omega⟩
    have b0 : nth zs (m * 4) = 1 := by rw [hz _ (by omega)]; exact nthr' (i := 0) hm
    have b1 : nth zs (m * 4 + 1) = 0 := by rw [hz _ (by omega)]; exact nthr' (i := 1) hm
    have b2 : nth zs (m * 4 + 2) = 0 := by rw [hz _ (by omega)]; exact nthr' (i := 2) hm
    have b3 : nth zs (m * 4 + 3) = 0 := by rw [hz _ (by omega)]; exact nthr' (i := 3) hm
    have hok : okA zs m 1 10 = true := by unfold okA; rw [b0, b1, b2, b3]; decide
    rw [hr, rdL_stop (by omega) (by omega) hok b1, pk_end]
  · rw [if_neg hz0] at hN hz
    obtain rfl : N = m := by omega
    obtain ⟨f, hf, hr⟩ := key hz hn
    obtain ⟨f', rfl⟩ : ∃ f', f = f' + 1 := ⟨f - 1, by omega⟩
    rw [hr, rdL_end (by omega), pk_end]
/-- Without the last one they are too few. -/
theorem rd_cut {b : List Int} {last : Int} (h : told b last = true) (n : Nat) (hN : (n + 1) * 4 = (code b last).length) (zs : List Int) (hz : ∀ i, i < n * 4 → nth zs i = nth (code b last) i) : ∃ t u, rdA zs n last = ⟨3, t, u⟩ := by
  obtain ⟨hbad, hc⟩ := code_of h
  rw [hc] at hN hz
  obtain ⟨m, hm, hmz⟩ := cod_len b last 63
  obtain ⟨zk, -⟩ := cod_z b last 63 hbad
  have key := rd_k b last zs n 63 (Nat.le_refl _) hbad m hm
  have hb' := cod_ok' b last hbad 62 (by omega)
  obtain ⟨m', hm', hmz'⟩ := cod_len b last 62
  obtain ⟨zk', z0'⟩ := cod_z b last 62 hb'
  have key' := rd_k b last zs n 62 (by omega) hb' m' hm'
  unfold symsOf at hN hz
  by_cases hz0 : 0 < (cod b last 63).z
  · rw [if_pos hz0] at hN hz
    simp only [List.length_append, List.length_cons, List.length_nil] at hN
    obtain rfl : n = m := by omega
    obtain ⟨f, hf, hr⟩ := key (fun i hi => by rw [hz i (by omega), nth_app_lt (by omega)]) (by omega)
    obtain ⟨f', rfl⟩ : ∃ f', f = f' + 1 := ⟨f - 1, by omega⟩
    exact ⟨_, _, by rw [hr, rdL_out (by omega) rfl]⟩
  · rw [if_neg hz0] at hN hz
    have e63 : cod b last 63 = stp (cod b last 62) (nth (toL b) (62 + 1)) := rfl
    rw [e63] at hN hz hz0 hbad
    clear e63 key hm hmz zk
    generalize cod b last 62 = s at *
    have h0 : nth (toL b) (62 + 1) ≠ 0 := by
      intro h0
      rw [h0, stp_zero] at hz0
      simp only at hz0
      omega
    obtain ⟨N, hN1, hN', hs, hst, hva, hvn⟩ := stp_put h0 hbad
    rw [hst] at hN hz
    simp only at hN hz
    rw [List.length_append, symL_len, hm'] at hN
    obtain rfl : n = m' + s.z / 16 := by omega
    obtain ⟨f, hf, hr⟩ := key' (fun i hi => by rw [hz i (by omega), nth_app_lt (by omega)]) (by omega)
    have hsix := six zs (m' + s.z / 16) (pk b 62) (pk_len _ _) (s.z / 16) f (62 + 1 - s.z) m' (fun i hi => by
      obtain ⟨a0, a1, a2, a3⟩ := symL_rep 1 s.z (exV (nth (toL b) (62 + 1))) N i hi
      have c : ∀ r, r < 4 → nth zs ((m' + i) * 4 + r) = nth (symL 1 s.z (exV (nth (toL b) (62 + 1))) N) (i * 4 + r) := fun r hr => by
        rw [hz _ (by omega), show (m' + i) * 4 + r = m' * 4 + (i * 4 + r) by omega]
        exact nthr' hm' _
      exact ⟨(c 0 (by omega)).trans a0, (c 1 (by omega)).trans a1, (c 2 (by omega)).trans a2, (c 3 (by omega)).trans a3⟩) (Nat.le_refl _) (by omega) (by omega) (fun j h1 h2 => by
        rw [pk_nth _ _ _ (by omega), if_pos (by omega)]
        exact z0' j (by omega) (by omega))
    obtain ⟨f', hf'⟩ : ∃ f', f - s.z / 16 = f' + 1 := ⟨f - s.z / 16 - 1, by omega⟩
    exact ⟨_, _, by rw [hr, hsix, hf', rdL_out (by omega) rfl]⟩
/-- What each symbol is. -/
def Good (l : List Int) (m : Nat) : Prop := l.length = m * 4 ∧ 1 ≤ m ∧ ∀ i, i < m → nth l (i * 4) = (if i = 0 then 0 else 1) ∧ nth l (i * 4 + 3) = nth l (i * 4 + 1) % 16
theorem good_app {l r : List Int} {m q : Nat} (h : Good l m) (hr : r.length = q * 4) (hq : ∀ i, i < q → nth r (i * 4) = 1 ∧ nth r (i * 4 + 3) = nth r (i * 4 + 1) % 16) : Good (l ++ r) (m + q) := by
  obtain ⟨h1, h2, h3⟩ := h
  refine ⟨by rw [List.length_append]; omega, by omega, fun i hi => ?_⟩
  by_cases him : i < m
  · rw [nth_app_lt (by omega), nth_app_lt (by omega), nth_app_lt (by omega)]
    exact h3 i him
  · obtain ⟨j, rfl⟩ : ∃ j, i = m + j := ⟨i - m, by omega⟩
    have e : ∀ r', nth (l ++ r) ((m + j) * 4 + r') = nth r (j * 4 + r') := fun r' => by
      rw [show (m + j) * 4 + r' = m * 4 + (j * 4 + r') by omega]
      exact nthr' h1 _
    rw [if_neg (by omega), e 3, e 1]
    have e0 := e 0
    rw [Nat.add_zero, Nat.add_zero] at e0
    rw [e0]
    exact hq j (by omega)
theorem good_sym (z : Nat) (V : Int) (N : Nat) (hN : N ≤ 15) : ∀ i, i < z / 16 + 1 → nth (symL 1 z V N) (i * 4) = 1 ∧ nth (symL 1 z V N) (i * 4 + 3) = nth (symL 1 z V N) (i * 4 + 1) % 16 := by
  intro i hi
  by_cases h : i < z / 16
  · obtain ⟨a0, a1, a2, a3⟩ := symL_rep 1 z V N i h
    rw [a0, a1, a3]
    decide
  · obtain rfl : i = z / 16 := by omega
    obtain ⟨a0, a1, a2, a3⟩ := symL_last 1 z V N
    rw [a0, a1, a3]
    exact ⟨rfl, by omega⟩
theorem good_cod (b : List Int) (last : Int) : ∀ k, (cod b last k).bad = false → ∃ m, Good (cod b last k).out m
  | 0, h => by
    simp only [cod] at *
    obtain ⟨N, hN, hi, _, _⟩ := ini_put h
    rw [hi]
    refine ⟨1, rfl, Nat.le_refl _, fun i hi => ?_⟩
    obtain rfl : i = 0 := by omega
    exact ⟨rfl, show (N : Int) = (N : Int) % 16 by omega⟩
  | k + 1, h => by
    have hb := cod_ok b last k h
    obtain ⟨m, hm⟩ := good_cod b last k hb
    simp only [cod] at *
    generalize cod b last k = s at *
    by_cases h0 : nth (toL b) (k + 1) = 0
    · rw [h0, stp_zero]
      exact ⟨m, hm⟩
    · obtain ⟨N, hN1, hN', hs, hst, hva, hvn⟩ := stp_put h0 h
      rw [hst]
      exact ⟨_, good_app hm (symL_len _ _ _ _) (good_sym s.z _ N (by omega))⟩
theorem good_code {b : List Int} {last : Int} (h : told b last = true) : ∃ m, Good (code b last) m ∧ m ≤ 64 := by
  obtain ⟨hbad, hc⟩ := code_of h
  rw [hc]
  obtain ⟨m, hm⟩ := good_cod b last 63 hbad
  obtain ⟨m', hm', hmz⟩ := cod_len b last 63
  have hl := hm.1
  generalize cod b last 63 = s at *
  unfold symsOf
  split
  · refine ⟨m + 1, good_app hm rfl fun i hi => ?_, by omega⟩
    obtain rfl : i = 0 := by omega
    exact ⟨rfl, rfl⟩
  · exact ⟨m, hm, by omega⟩
/-- Two blocks that have the same symbols are the same. -/
theorem code_one {b o : List Int} {last : Int} (hb : b.length = 64) (ho : o.length = 64) (h : told b last = true) (h' : told o last = true) (he : code b last = code o last) : b = o := by
  obtain ⟨m, hm, -⟩ := good_code h
  have r1 := rd_all h m hm.1.symm (code b last) m (fun _ _ => rfl) (Nat.le_refl _)
  have r2 := rd_all h' m (by rw [← he]; exact hm.1.symm) (code b last) m (fun _ _ => by rw [he]) (Nat.le_refl _)
  rw [r1] at r2
  have : toL b = toL o := by injection r2
  rw [← from_to b hb, this, from_to o ho]
end Go.Proofs.Ytckkncblbagfmaa
