/- TypesBack: what is made again of what was read (no program in sight). -/
import Derived.Test.YtmdcdmgbillehaaTzU
namespace Go.Proofs.Ytmdcdmgbillehaa
open Go.RowKit
open Go.Tin
set_option linter.unusedVariables false
set_option linter.unusedSimpArgs false


theorem putB_t {n s o : Int} (h : putB n s o = true) : (s = 1 ∨ s = 2 ∨ s = 4) ∧ (o = 1 ∨ o = 2) ∧ 0 ≤ n ∧ n < topI s := by
  unfold putB mayO at h
  simp only [Bool.and_eq_true, decide_eq_true_eq] at h
  exact ⟨szB_t h.1.1, orB_t h.1.2, h.2⟩
theorem getB_in (n a s : Nat) (o : Int) (hs : s = 1 ∨ s = 2 ∨ s = 4) (ho : o = 1 ∨ o = 2) (h : a + s ≤ n) : getB n a s o = true := by
  unfold getB mayO
  have h1 : szB s = true := by rcases hs with rfl | rfl | rfl <;> rfl
  have h2 : orB o = true := by rcases ho with rfl | rfl <;> rfl
  rw [h1, h2]
  simp
  omega
theorem turnK_twice (i s n : Nat) (hs : s = 1 ∨ s = 2 ∨ s = 4 ∨ s = 8) (h : i < n - n % s) : turnK i s < n - n % s ∧ turnK (turnK i s) s = i := by
  unfold turnK
  rcases hs with rfl | rfl | rfl | rfl <;> omega
theorem turn_turn (l : List Int) (s : Nat) (o : Int) (hy : turnB s o = true) : turnL (turnL l s o) s o = l := by
  have hlen := turnL_len l s o hy
  refine ext_nth (by rw [turnL_len _ s o hy, hlen]) fun i hi => ?_
  rw [turnL_len _ s o hy, hlen] at hi
  rw [turnL_nth _ s o i hy (by rw [hlen]; exact hi), hlen]
  by_cases h : o = 1 ∧ i < l.length - l.length % s
  · have hs := (turnB_t hy).1
    obtain ⟨h1, h2⟩ := turnK_twice i s l.length (by omega) h.2
    rw [if_pos h, turnL_nth l s o _ hy (by omega), if_pos ⟨h.1, h1⟩, h2]
  · rw [if_neg h, turnL_nth l s o i hy hi, if_neg h]
theorem bytes_be1 {q : List Int} (h : Byts q) (hl : q.length = 1) : bytesOf 1 (be q) = q := by
  match q, hl with
  | [a], _ =>
    have ha := h a (by simp)
    simp [bytesOf, be]
    omega
theorem bytes_be2 {q : List Int} (h : Byts q) (hl : q.length = 2) : bytesOf 2 (be q) = q := by
  match q, hl with
  | [a, b], _ =>
    have ha := h a (by simp)
    have hb := h b (by simp)
    simp [bytesOf, be]
    omega
theorem bytes_be4 {q : List Int} (h : Byts q) (hl : q.length = 4) : bytesOf 4 (be q) = q := by
  match q, hl with
  | [a, b, c, d], _ =>
    have ha := h a (by simp)
    have hb := h b (by simp)
    have hc := h c (by simp)
    have hd := h d (by simp)
    simp [bytesOf, be]
    omega
theorem be_tops {q : List Int} (h : Byts q) {s : Nat} (hl : q.length = s) (hs : s = 1 ∨ s = 2 ∨ s = 4) : 0 ≤ be q ∧ be q < topI s := by
  obtain ⟨h0, h1⟩ := be_bd q h
  refine ⟨h0, ?_⟩
  rw [hl] at h1
  rcases hs with rfl | rfl | rfl
  · have : topI ((1 : Nat) : Int) = 256 := rfl
    rw [this]; omega
  · have : topI ((2 : Nat) : Int) = 65536 := rfl
    rw [this]; omega
  · have : topI ((4 : Nat) : Int) = 4294967296 := rfl
    rw [this]; omega
/-- A number that is got is put as its bytes. -/
theorem put_get {l : List Int} (h : Byts l) {a s : Nat} (hs : s = 1 ∨ s = 2 ∨ s = 4) (hfit : a + s ≤ l.length) : putB (getN l a s 2) s 2 = true ∧ putL (getN l a s 2) s 2 = (l.drop a).take s := by
  have hg := getB_in l.length a s 2 hs (.inr rfl) hfit
  have hq : Byts ((l.drop a).take s) := (h.drop a).take s
  have hql : ((l.drop a).take s).length = s := by rw [List.length_take, List.length_drop]; omega
  have e : getN l a s 2 = be ((l.drop a).take s) := by
    unfold getN
    rw [if_pos hg]
    rfl
  obtain ⟨t0, t1⟩ := be_tops hq hql hs
  have hp : putB (getN l a s 2) s 2 = true := by
    unfold putB mayO
    rw [e, show szB s = true by rcases hs with rfl | rfl | rfl <;> rfl, decide_eq_true t0, decide_eq_true t1]
    rfl
  refine ⟨hp, ?_⟩
  unfold putL
  rw [if_pos hp, e]
  show bytesOf s _ = _
  rcases hs with rfl | rfl | rfl
  · exact bytes_be1 hq hql
  · exact bytes_be2 hq hql
  · exact bytes_be4 hq hql
theorem sp1 {n s : Int} (h : sgB n s = true) : plB (sgN n s) s = true ∧ plN (sgN n s) s = n := by
  have h2 := h
  unfold sgB at h2
  unfold sgN plN plB
  rw [if_pos h]
  rcases top4 s with e | e | e | e <;> rw [e] at h2 ⊢ <;> simp at h2 <;> (try omega)
  all_goals
    split
    · refine ⟨by simp; omega, ?_⟩
      rw [if_pos (by simp; omega), if_pos (by omega)]
      omega
    · refine ⟨by simp; omega, ?_⟩
      rw [if_pos (by simp; omega), if_neg (by omega)]
/-- A number that is read of a value is put as its bytes. -/
theorem nm_num {t : Int} {l : List Int} (h : Byts l) {a s : Nat} (hp : prT t = (s : Int)) (hs : s = 1 ∨ s = 2 ∨ s = 4) (hfit : a + s ≤ l.length) : nmB t (numV t l a) = true ∧ nmL t (numV t l a) = (l.drop a).take s := by
  obtain ⟨h1, h2⟩ := put_get h hs hfit
  have e1 : nmB t (numV t l a) = ((!sgT t || plB (numV t l a) (prT t)) && putB (nmV t (numV t l a)) (prT t) 2) := rfl
  have e2 : nmL t (numV t l a) = putL (nmV t (numV t l a)) (prT t) 2 := rfl
  have e3 : nmV t (numV t l a) = if sgT t then plN (numV t l a) (prT t) else numV t l a := rfl
  have e4 : numV t l a = if sgT t then sgN (getN l a (prT t) 2) (prT t) else getN l a (prT t) 2 := rfl
  rw [e1, e2, e3]
  rw [hp] at e4 ⊢
  cases hsg : sgT t with
  | false =>
    rw [hsg] at e4
    rw [e4]
    simp only [Bool.not_false, Bool.true_or, Bool.true_and, Bool.false_eq_true, if_false]
    exact ⟨h1, h2⟩
  | true =>
    rw [hsg] at e4
    have hb : sgB (getN l a s 2) s = true := by
      obtain ⟨_, _, b0, b1⟩ := putB_t h1
      unfold sgB
      rw [decide_eq_true b0, decide_eq_true b1]; rfl
    obtain ⟨p1, p2⟩ := sp1 hb
    rw [e4]
    simp only [if_true, p1, p2, Bool.not_true, Bool.false_or, Bool.true_and]
    exact ⟨h1, h2⟩
theorem nms_ats {t : Int} {l : List Int} (h : Byts l) {s : Nat} (hp : prT t = (s : Int)) (hs : s = 1 ∨ s = 2 ∨ s = 4) : ∀ m : Nat, m * s ≤ l.length → nmsB t (atsV t l s m) = true ∧ nmsL t (atsV t l s m) = l.take (m * s)
  | 0, _ => by simp [atsV, nmsB, nmsL]
  | i + 1, hm => by
    have hst : (i + 1) * s = i * s + s := Nat.succ_mul i s
    obtain ⟨h1, h2⟩ := nms_ats h hp hs i (by omega)
    have hc : ((i * s : Nat) : Int) = (i : Int) * (s : Int) := Int.natCast_mul i s
    obtain ⟨h3, h4⟩ := nm_num (t := t) h (a := i * s) hp hs (by omega)
    rw [hc] at h3 h4
    have e : atsV t l s (i + 1) = atsV t l s i ++ [numV t l ((i : Int) * (s : Int))] := rfl
    rw [e, nmsB_app, nmsL_app, h1, h2]
    have e1 : nmsB t [numV t l ((i : Int) * (s : Int))] = (nmB t (numV t l ((i : Int) * (s : Int))) && true) := rfl
    have e2 : nmsL t [numV t l ((i : Int) * (s : Int))] = nmL t (numV t l ((i : Int) * (s : Int))) ++ [] := rfl
    rw [e1, e2, h3, h4, hst, List.take_add, List.append_nil]
    exact ⟨rfl, rfl⟩
theorem num_back {t c : Int} {l : List Int} (h : Byts l) (hb : numB t c l = true) : ronB t (numL t c l) = true ∧ ronL t (numL t c l) = l ∧ ((numL t c l).length : Int) = c := by
  have hb' := hb
  unfold numB at hb'
  rw [Bool.and_eq_true] at hb'
  obtain ⟨hm, h2⟩ := hb'
  obtain ⟨hz, hlen, hc1, hc2⟩ := may_sz hm
  have hm0 : szT t ≠ 0 := ((mayV_iff t c l).1 hm).1
  have hps := pr_sz (of_decide_eq_true h2)
  have hL : numL t c l = atsV t l (szT t) c.toNat := by unfold numL; rw [hb]; rfl
  have hnu : nuT t = true := by
    have := is_le2 hm0
    rw [h2] at this
    unfold nuT
    rw [decide_eq_true hm0]
    simp at this ⊢
    omega
  have hs124 : szT t = 1 ∨ szT t = 2 ∨ szT t = 4 := by
    rcases hz with h | h | h | h
    · exact .inl h
    · exact .inr (.inl h)
    · exact .inr (.inr h)
    · exfalso
      have h3 := of_decide_eq_true h2
      rcases szT_cases t with ⟨h', _⟩ | ⟨ha, hb, _⟩
      · exact hm0 h'
      · rcases n13 (show 0 ≤ t by omega) hb with rfl | rfl | rfl | rfl | rfl | rfl | rfl | rfl | rfl | rfl | rfl | rfl | rfl <;> first | (exact absurd h3 (by decide)) | (exact absurd h (by decide))
  obtain ⟨s, hs⟩ := Int.eq_ofNat_of_zero_le (show 0 ≤ szT t by omega)
  have hs' : s = 1 ∨ s = 2 ∨ s = 4 := by omega
  have hle : c.toNat * s = l.length := by
    rw [hs] at hlen
    rw [← Int.natCast_mul] at hlen
    omega
  obtain ⟨n1, n2⟩ := nms_ats (t := t) h (s := s) (by rw [hps, hs]) hs' c.toNat (by omega)
  rw [hle, List.take_length] at n2
  have hcl : ((atsV t l (szT t) c.toNat).length : Int) = c := by rw [atsV_len]; omega
  have n1' : nmsB t (atsV t l (szT t) c.toNat) = true := by rw [hs]; exact n1
  have n2' : nmsL t (atsV t l (szT t) c.toNat) = l := by rw [hs]; exact n2
  have hrof : rofB t c (atsV t l (szT t) c.toNat) = true := by unfold rofB; rw [n1', n2', hm]; rfl
  have hron : ronB t (atsV t l (szT t) c.toNat) = true := by unfold ronB; rw [hnu, hcl, hrof]; rfl
  rw [hL]
  refine ⟨hron, ?_, hcl⟩
  unfold ronL
  rw [if_pos hron, hcl]
  unfold rofL
  rw [if_pos hrof, n2']
theorem nth_ats (t : Int) (l : List Int) (s : Int) : ∀ (m j : Nat), j < m → nth (atsV t l s m) j = numV t l ((j : Int) * s)
  | 0, j, h => absurd h (Nat.not_lt_zero j)
  | i + 1, j, h => by
    have e : atsV t l s (i + 1) = atsV t l s i ++ [numV t l ((i : Int) * s)] := rfl
    rw [e]
    by_cases hj : j < i
    · rw [nth_app_lt (by rw [atsV_len]; exact hj)]
      exact nth_ats t l s i j hj
    · obtain rfl : j = i := by omega
      unfold nth
      rw [List.getD_eq_getElem?_getD, List.getElem?_append_right (by rw [atsV_len]; exact Nat.le_refl _), atsV_len]
      simp
theorem rat_back {t c : Int} {l : List Int} (h : Byts l) (hb : ratB t c l = true) : raB t (ratN t c l) (ratL t c l) = true ∧ raL t (ratN t c l) (ratL t c l) = l ∧ ((ratN t c l : Nat) : Int) = c := by
  obtain ⟨hL, hN⟩ := rat_yes hb
  unfold ratB at hb
  rw [Bool.and_eq_true] at hb
  obtain ⟨hm, h2⟩ := hb
  obtain ⟨hz, hlen, hc1, hc2⟩ := may_sz hm
  have h2' := of_decide_eq_true h2
  obtain ⟨e8, e4⟩ := rat_sz h2'
  have hl8 : l.length = c.toNat * 8 := by rw [e8] at hlen; omega
  have hrt : raT t = true := h2
  rw [hL, hN]
  generalize hm' : c.toNat = m at *
  have hcm : (m : Int) = c := by omega
  have hq : ∀ i, i ≤ m → rtpB t (atsV t l 4 (m * 2)) i = true := by
    intro i
    induction i with
    | zero => intro _; rfl
    | succ i ih =>
      intro hi
      show (rtpB t (atsV t l 4 (m * 2)) i && rtQ t (nth (atsV t l 4 (m * 2)) (i * 2)) (nth (atsV t l 4 (m * 2)) (i * 2 + 1))) = true
      rw [ih (by omega), nth_ats t l 4 (m * 2) (i * 2) (by omega), nth_ats t l 4 (m * 2) (i * 2 + 1) (by omega)]
      have c1 : (((i * 2 : Nat) : Int) * 4) = ((i * 2 * 4 : Nat) : Int) := by omega
      have c2 : (((i * 2 + 1 : Nat) : Int) * 4) = (((i * 2 + 1) * 4 : Nat) : Int) := by omega
      obtain ⟨a1, _⟩ := nm_num (t := t) h (a := i * 2 * 4) (s := 4) e4 (by omega) (by omega)
      obtain ⟨b1, _⟩ := nm_num (t := t) h (a := (i * 2 + 1) * 4) (s := 4) e4 (by omega) (by omega)
      rw [c1, c2]
      generalize numV t l ((i * 2 * 4 : Nat) : Int) = x at *
      generalize numV t l (((i * 2 + 1) * 4 : Nat) : Int) = y at *
      rw [Bool.true_and, rtQ_q hrt]
      rcases h2' with rfl | rfl
      · rw [nm5] at a1 b1
        show (putB x 4 2 && putB y 4 2) = true
        rw [a1, b1]; rfl
      · rw [nm10] at a1 b1
        show (plB x 4 && plB y 4) = true
        rw [a1, b1]; rfl
  have hqm := hq m (Nat.le_refl _)
  obtain ⟨n1, n2⟩ := nms_pairs t (atsV t l 4 (m * 2)) m (by rw [atsV_len]; exact Nat.le_refl _) hqm
  have htk : (atsV t l 4 (m * 2)).take (m * 2) = atsV t l 4 (m * 2) := List.take_of_length_le (by rw [atsV_len]; exact Nat.le_refl _)
  rw [htk] at n1 n2
  obtain ⟨p1, p2⟩ := nms_ats (t := t) h (s := 4) e4 (by omega) (m * 2) (by omega)
  have p2' : nmsL t (atsV t l 4 (m * 2)) = l := by
    have : m * 2 * 4 = l.length := by omega
    rw [this, List.take_length] at p2
    exact p2
  have hrl : rtpL t (atsV t l 4 (m * 2)) m = l := n2.symm.trans p2'
  have hrm : rmB t m (atsV t l 4 (m * 2)) = true := by unfold rmB; rw [hqm, hrl, hcm, hm]; rfl
  have hra : raB t m (atsV t l 4 (m * 2)) = true := by unfold raB; rw [hrt, hrm]; rfl
  refine ⟨hra, ?_, hcm⟩
  unfold raL rmL
  rw [if_pos hra, if_pos hrm, hrl]
theorem strOf_go : ∀ (l : List Int) (r : ByteArray), (l.foldl (fun r n => r.push (UInt8.ofNat n.toNat)) r).data.toList = r.data.toList ++ l.map fun n => UInt8.ofNat n.toNat
  | [], r => by simp
  | n :: l, r => by
    rw [List.foldl_cons, strOf_go l]
    show (r.data.push (UInt8.ofNat n.toNat)).toList ++ _ = _
    simp
theorem bytesL_strOf {q : List Int} (h : Byts q) : bytesL (strOf q) = q := by
  unfold bytesL strOf
  rw [strOf_go]
  show (List.map _ (([] : List UInt8) ++ _)) = _
  rw [List.nil_append, List.map_map]
  conv => rhs; rw [← List.map_id q]
  apply List.map_congr_left
  intro n hn
  have := h n hn
  simp
  omega
theorem tex_back {t c : Int} {l : List Int} (h : Byts l) (hb : texB t c l = true) : t = 2 ∧ otB (texS t c l) = true ∧ otL (texS t c l) = l ∧ ((texS t c l).size : Int) + 1 = c := by
  have hS := tex_yes hb
  unfold texB at hb
  rw [Bool.and_eq_true] at hb
  obtain ⟨hm, h2⟩ := hb
  obtain rfl : t = 2 := of_decide_eq_true h2
  obtain ⟨hz, hlen, hc1, hc2⟩ := may_sz hm
  have htx : txB l = true := ((mayV_iff 2 c l).1 hm).2.2.2.2 rfl
  have e1 : szT 2 = 1 := rfl
  rw [e1] at hlen
  have hl1 : 0 < l.length := by omega
  have hlast := ((tx_iff hl1).1 htx (l.length - 1) (by omega)).2 (by omega)
  have hq : Byts (l.take (l.length - 1)) := h.take _
  have hsplit : l.take (l.length - 1) ++ [0] = l := by
    have h3 := take_next (l := l) (i := l.length - 1) (by omega)
    rw [hlast, show l.length - 1 + 1 = l.length by omega, List.take_length] at h3
    exact h3.symm
  have hbl : bytesL (texS 2 c l) = l.take (l.length - 1) := by rw [hS]; exact bytesL_strOf hq
  have hsz : (texS 2 c l).size = l.length - 1 := by rw [← bytesL_len, hbl, List.length_take]; omega
  have hszc : ((texS 2 c l).size : Int) + 1 = c := by rw [hsz]; omega
  have hot : otB (texS 2 c l) = true := by unfold otB; rw [hbl, hsplit, hszc]; exact hm
  refine ⟨rfl, hot, ?_, hszc⟩
  unfold otL
  rw [if_pos hot, hbl, hsplit]
theorem turnB_p {t o : Int} (h : szT t ≠ 0) (ho : o = 1 ∨ o = 2) : turnB (prT t) o = true ∧ 0 ≤ prT t := by
  have h2 : orB o = true := by rcases ho with rfl | rfl <;> rfl
  unfold turnB
  rw [h2]
  rcases szT_cases t with ⟨h', _⟩ | ⟨ha, hb, _⟩
  · exact absurd h' h
  · rcases n13 (show 0 ≤ t by omega) hb with rfl | rfl | rfl | rfl | rfl | rfl | rfl | rfl | rfl | rfl | rfl | rfl | rfl <;> first | (exfalso; omega) | decide
theorem by_yes {t c o : Int} {l : List Int} (hm : mayV t c l = true) (ho : o = 1 ∨ o = 2) : (byV t c l o).length = l.length ∧ turnL (byV t c l o) (prT t) o = l ∧ (o = 2 → byV t c l o = l) := by
  obtain ⟨hb, h0⟩ := turnB_p ((mayV_iff t c l).1 hm).1 ho
  have e : byV t c l o = turnL l (prT t) o := by unfold byV; rw [hm]; rfl
  obtain ⟨p, hp⟩ := Int.eq_ofNat_of_zero_le h0
  rw [e]
  rw [hp] at hb ⊢
  refine ⟨turnL_len l _ o hb, turn_turn l p o hb, ?_⟩
  rintro rfl
  exact turnL_big l _ hb
theorem by_no {t c o : Int} {l : List Int} (h : mayV t c l = false ∨ (o ≠ 1 ∧ o ≠ 2)) : byV t c l o = [] := by
  unfold byV
  rcases h with h | h
  · rw [h]; rfl
  · split
    · unfold turnL
      rw [if_neg]
      unfold turnB orB
      simp
      omega
    · rfl
theorem of_back {t c o : Int} {l : List Int} (m : List Int) (hm : mayV t c l = true) (ho : o = 1 ∨ o = 2) : ofB t c (byV t c l o ++ m) o = true ∧ ofL t c (byV t c l o ++ m) o = l := by
  obtain ⟨h1, h2, _⟩ := by_yes hm ho
  obtain ⟨m1, m2, m3, m4, m5⟩ := (mayV_iff t c l).1 hm
  have ht : (byV t c l o ++ m).take (c * szT t).toNat = byV t c l o := by
    rw [← m4]
    rw [List.take_left' (by rw [h1]; omega)]
  have hB : ofB t c (byV t c l o ++ m) o = true := by
    unfold ofB
    rw [ht, h2, hm, decide_eq_true m1, decide_eq_true m2, decide_eq_true m3, decide_eq_true (show c * szT t ≤ ((byV t c l o ++ m).length : Int) by rw [List.length_append, h1, ← m4]; omega)]
    rfl
  refine ⟨hB, ?_⟩
  unfold ofL
  rw [if_pos hB, ht, h2]
end Go.Proofs.Ytmdcdmgbillehaa
