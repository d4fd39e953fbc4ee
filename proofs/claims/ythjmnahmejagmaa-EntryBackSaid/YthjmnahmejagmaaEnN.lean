/- EntryBack: what is read of what was written, and the other way round (no program in sight). -/
import Derived.Test.YthjmnahmejagmaaEnM
namespace Go.Proofs.Ythjmnahmejagmaa
open Go.RowKit
open Go.Tin
set_option linter.unusedVariables false
set_option linter.unusedSimpArgs false


theorem putB_t {n s o : Int} (h : putB n s o = true) : (s = 1 ∨ s = 2 ∨ s = 4) ∧ (o = 1 ∨ o = 2) ∧ 0 ≤ n ∧ n < topI s := by
  unfold putB mayO at h
  simp only [Bool.and_eq_true, decide_eq_true_eq] at h
  exact ⟨szB_t h.1.1, orB_t h.1.2, h.2⟩
theorem be_bytes {n : Int} {s : Nat} (hs : s = 1 ∨ s = 2 ∨ s = 4) (n0 : 0 ≤ n) (n1 : n < topI s) : be (bytesOf s n) = n := by
  rcases hs with rfl | rfl | rfl
  · have : n < 256 := n1
    simp [bytesOf, be]; omega
  · have : n < 65536 := n1
    simp [bytesOf, be]; omega
  · have : n < 4294967296 := n1
    simp [bytesOf, be]; omega
theorem ordL_ordL (o : Int) (l : List Int) : ordL o (ordL o l) = l := by unfold ordL; split <;> simp
theorem getB_in (n a s : Nat) (o : Int) (hs : s = 1 ∨ s = 2 ∨ s = 4) (ho : o = 1 ∨ o = 2) (h : a + s ≤ n) : getB n a s o = true := by
  unfold getB mayO
  have h1 : szB s = true := by rcases hs with rfl | rfl | rfl <;> rfl
  have h2 : orB o = true := by rcases ho with rfl | rfl <;> rfl
  rw [h1, h2]
  simp
  omega
theorem get_put {n : Int} {s : Nat} {o : Int} (hy : putB n s o = true) (X Y : List Int) : getB (X ++ putL n s o ++ Y).length (X.length : Int) s o = true ∧ getN (X ++ putL n s o ++ Y) (X.length : Int) s o = n := by
  obtain ⟨hs, ho, n0, n1⟩ := putB_t hy
  have hP : putL n s o = ordL o (bytesOf s n) := by unfold putL; rw [if_pos hy]; rfl
  have hl : (putL n s o).length = s := by rw [hP, ordL_len, bytesOf_len]
  have hg : getB (X ++ putL n s o ++ Y).length (X.length : Int) s o = true := getB_in _ X.length s o (by omega) ho (by simp; omega)
  refine ⟨hg, ?_⟩
  unfold getN
  rw [if_pos hg]
  simp only [Int.toNat_natCast]
  rw [List.append_assoc, List.drop_left' rfl, List.take_left' hl, hP, ordL_ordL, be_bytes (by omega) n0 n1]
theorem turnK_twice (i s n : Nat) (hs : s = 1 ∨ s = 2 ∨ s = 4 ∨ s = 8) (h : i < n - n % s) : turnK i s < n - n % s ∧ turnK (turnK i s) s = i := by
  unfold turnK
  rcases hs with rfl | rfl | rfl | rfl <;> omega
theorem turn_turn (l : List Int) (s : Nat) (o : Int) (hy : turnB s o = true) : turnL (turnL l s o) s o = l := by
  have hlen := turnL_len l s o hy
  refine ext_nth (by rw [turnL_len _ s o hy, hlen]) fun i hi => ?_
  rw [turnL_len _ s o hy, hlen] at hi
  rw [turnL_nth _ s o i hy (by rw [hlen]; exact hi), hlen]
  by_cases h : o = 1 ∧ i < l.length - l.length % s
  · have hs := (turnB_t hy).1
    obtain ⟨h1, h2⟩ := turnK_twice i s l.length (by omega) h.2
    rw [if_pos h, turnL_nth l s o _ hy (by omega), if_pos ⟨h.1, h1⟩, h2]
  · rw [if_neg h, turnL_nth l s o i hy hi, if_neg h]

theorem bytes_be2 {q : List Int} (h : Byts q) (hl : q.length = 2) : bytesOf 2 (be q) = q := by
  match q, hl with
  | [a, b], _ =>
    have ha := h a (by simp)
    have hb := h b (by simp)
    simp [bytesOf, be]
    omega
theorem bytes_be4 {q : List Int} (h : Byts q) (hl : q.length = 4) : bytesOf 4 (be q) = q := by
  match q, hl with
  | [a, b, c, d], _ =>
    have ha := h a (by simp)
    have hb := h b (by simp)
    have hc := h c (by simp)
    have hd := h d (by simp)
    simp [bytesOf, be]
    omega
theorem byts_ordL {l : List Int} (h : Byts l) (o : Int) : Byts (ordL o l) := by
  unfold ordL
  split
  · exact h.sub fun x hx => List.mem_reverse.1 hx
  · exact h
theorem put_get {l : List Int} (h : Byts l) {a s : Nat} {o : Int} (hs : s = 2 ∨ s = 4) (ho : o = 1 ∨ o = 2) (hfit : a + s ≤ l.length) : putB (getN l a s o) s o = true ∧ putL (getN l a s o) s o = (l.drop a).take s := by
  have hg : getB l.length a s o = true := getB_in _ a s o (by omega) ho hfit
  have hseg : ((l.drop a).take s).length = s := by simp; omega
  have hbs : Byts ((l.drop a).take s) := (h.drop a).take s
  have hN : getN l a s o = be (ordL o ((l.drop a).take s)) := by
    unfold getN
    rw [if_pos hg, Int.toNat_natCast, Int.toNat_natCast]
  have hbo := byts_ordL hbs o
  have hlo : (ordL o ((l.drop a).take s)).length = s := by rw [ordL_len, hseg]
  have hbd := be_bd _ hbo
  rw [hlo] at hbd
  have hby : bytesOf s (be (ordL o ((l.drop a).take s))) = ordL o ((l.drop a).take s) := by
    rcases hs with rfl | rfl
    · exact bytes_be2 hbo hlo
    · exact bytes_be4 hbo hlo
  have hpb : putB (getN l a s o) s o = true := by
    rw [hN]
    unfold putB mayO
    have h2 : orB o = true := by rcases ho with rfl | rfl <;> rfl
    rcases hs with rfl | rfl
    · have e1 : szB ((2 : Nat) : Int) = true := rfl
      have e2 : topI ((2 : Nat) : Int) = 256 ^ 2 := rfl
      rw [e1, h2, e2, decide_eq_true hbd.1, decide_eq_true hbd.2]; rfl
    · have e1 : szB ((4 : Nat) : Int) = true := rfl
      have e2 : topI ((4 : Nat) : Int) = 256 ^ 4 := rfl
      rw [e1, h2, e2, decide_eq_true hbd.1, decide_eq_true hbd.2]; rfl
  refine ⟨hpb, ?_⟩
  unfold putL
  rw [if_pos hpb, Int.toNat_natCast, hN, hby, ordL_ordL]
theorem ew_ok {a b c d o : Int} (h : ewB a b c d o = true) : putB a 2 o = true ∧ putB b 2 o = true ∧ putB c 4 o = true ∧ putB d 4 o = true := by
  have := (ew4 a b c d o).1
  rw [h] at this
  have := this.symm
  simp only [Bool.and_eq_true] at this
  exact this
theorem ew_len {a b c d o : Int} (h : ewB a b c d o = true) : (ewL a b c d o).length = 12 := by
  obtain ⟨h1, h2, h3, h4⟩ := ew_ok h
  rw [(ew4 a b c d o).2 h]
  simp only [List.length_append, putL_len h1, putL_len h2, putL_len h3, putL_len h4]
  rfl
theorem ew_read {a b c d o : Int} (h : ewB a b c d o = true) (X Y : List Int) : erB (X ++ ewL a b c d o ++ Y) (X.length : Int) o = true ∧ er0 (X ++ ewL a b c d o ++ Y) (X.length : Int) o = a ∧ er1 (X ++ ewL a b c d o ++ Y) (X.length : Int) o = b ∧ er2 (X ++ ewL a b c d o ++ Y) (X.length : Int) o = c ∧ er3 (X ++ ewL a b c d o ++ Y) (X.length : Int) o = d := by
  obtain ⟨h1, h2, h3, h4⟩ := ew_ok h
  have hl := ew_len h
  have ho := (putB_t (n := a) (s := 2) h1).2.1
  have hE : erB (X ++ ewL a b c d o ++ Y) (X.length : Int) o = true := by
    unfold erB roomB
    rw [List.length_append, List.length_append, hl]
    have h2 : orB o = true := by rcases ho with rfl | rfl <;> rfl
    rw [h2]
    simp
    omega
  have l1 := putL_len h1
  have l2 := putL_len h2
  have l3 := putL_len h3
  have g1 := (get_put (s := 2) h1 X (putL b 2 o ++ putL c 4 o ++ putL d 4 o ++ Y)).2
  have g2 := (get_put (s := 2) h2 (X ++ putL a 2 o) (putL c 4 o ++ putL d 4 o ++ Y)).2
  have g3 := (get_put (s := 4) h3 (X ++ putL a 2 o ++ putL b 2 o) (putL d 4 o ++ Y)).2
  have g4 := (get_put (s := 4) h4 (X ++ putL a 2 o ++ putL b 2 o ++ putL c 4 o) Y).2
  have e2 : ((X ++ putL a 2 o).length : Int) = (X.length : Int) + 2 := by rw [List.length_append, l1]; rfl
  have e3 : ((X ++ putL a 2 o ++ putL b 2 o).length : Int) = (X.length : Int) + 4 := by rw [List.length_append, List.length_append, l1, l2]; show ((X.length + 2 + 2 : Nat) : Int) = _; omega
  have e4 : ((X ++ putL a 2 o ++ putL b 2 o ++ putL c 4 o).length : Int) = (X.length : Int) + 8 := by rw [List.length_append, List.length_append, List.length_append, l1, l2, l3]; show ((X.length + 2 + 2 + 4 : Nat) : Int) = _; omega
  rw [e2] at g2
  rw [e3] at g3
  rw [e4] at g4
  have hall : X ++ ewL a b c d o ++ Y = X ++ putL a 2 o ++ putL b 2 o ++ putL c 4 o ++ putL d 4 o ++ Y := by rw [(ew4 a b c d o).2 h]; simp
  refine ⟨hE, ?_, ?_, ?_, ?_⟩
  · unfold er0; rw [hE, if_pos rfl, hall]; simpa using g1
  · unfold er1; rw [hE, if_pos rfl, hall]; simpa using g2
  · unfold er2; rw [hE, if_pos rfl, hall]; simpa using g3
  · unfold er3; rw [hE, if_pos rfl, hall]; simpa using g4
theorem ew_short {a b c d o : Int} (h : ewB a b c d o = true) : erB (ewL a b c d o) 1 o = false := by
  unfold erB roomB
  rw [ew_len h]
  simp
theorem er_write {l : List Int} (hby : Byts l) {o : Int} (h : erB l 0 o = true) : ewB (er0 l 0 o) (er1 l 0 o) (er2 l 0 o) (er3 l 0 o) o = true ∧ ewL (er0 l 0 o) (er1 l 0 o) (er2 l 0 o) (er3 l 0 o) o = l.take 12 ∧ 12 ≤ l.length := by
  have h' := h
  unfold erB at h'
  simp only [Bool.and_eq_true] at h'
  obtain ⟨_, hr⟩ := room12 h'.1
  have ho := orB_t h'.2
  have hl : 12 ≤ l.length := by omega
  have g0 := put_get hby (a := 0) (s := 2) (.inl rfl) ho (by omega)
  have g1 := put_get hby (a := 2) (s := 2) (.inl rfl) ho (by omega)
  have g2 := put_get hby (a := 4) (s := 4) (.inr rfl) ho (by omega)
  have g3 := put_get hby (a := 8) (s := 4) (.inr rfl) ho (by omega)
  have r0 : er0 l 0 o = getN l ((0 : Nat) : Int) ((2 : Nat) : Int) o := by unfold er0; rw [h, if_pos rfl]; rfl
  have r1 : er1 l 0 o = getN l ((2 : Nat) : Int) ((2 : Nat) : Int) o := by unfold er1; rw [h, if_pos rfl]; rfl
  have r2 : er2 l 0 o = getN l ((4 : Nat) : Int) ((4 : Nat) : Int) o := by unfold er2; rw [h, if_pos rfl]; rfl
  have r3 : er3 l 0 o = getN l ((8 : Nat) : Int) ((4 : Nat) : Int) o := by unfold er3; rw [h, if_pos rfl]; rfl
  rw [← r0] at g0
  rw [← r1] at g1
  rw [← r2] at g2
  rw [← r3] at g3
  have hB : ewB (er0 l 0 o) (er1 l 0 o) (er2 l 0 o) (er3 l 0 o) o = true := by
    rw [(ew4 _ _ _ _ _).1]
    have a0 : putB (er0 l 0 o) 2 o = true := g0.1
    have a1 : putB (er1 l 0 o) 2 o = true := g1.1
    have a2 : putB (er2 l 0 o) 4 o = true := g2.1
    have a3 : putB (er3 l 0 o) 4 o = true := g3.1
    rw [a0, a1, a2, a3]; rfl
  refine ⟨hB, ?_, hl⟩
  rw [(ew4 _ _ _ _ _).2 hB]
  have a0 : putL (er0 l 0 o) 2 o = (l.drop 0).take 2 := g0.2
  have a1 : putL (er1 l 0 o) 2 o = (l.drop 2).take 2 := g1.2
  have a2 : putL (er2 l 0 o) 4 o = (l.drop 4).take 4 := g2.2
  have a3 : putL (er3 l 0 o) 4 o = (l.drop 8).take 4 := g3.2
  rw [a0, a1, a2, a3, List.drop_zero]
  have e1 : l.take 12 = l.take 8 ++ (l.drop 8).take 4 := List.take_add (i := 8) (j := 4)
  have e2 : l.take 8 = l.take 4 ++ (l.drop 4).take 4 := List.take_add (i := 4) (j := 4)
  have e3 : l.take 4 = l.take 2 ++ (l.drop 2).take 2 := List.take_add (i := 2) (j := 2)
  rw [e1, e2, e3]
theorem turnB_p {t o : Int} (h : szT t ≠ 0) (ho : o = 1 ∨ o = 2) : turnB (prT t) o = true ∧ 0 ≤ prT t := by
  have h2 : orB o = true := by rcases ho with rfl | rfl <;> rfl
  unfold turnB
  rw [h2]
  rcases szT_cases t with ⟨h', _⟩ | ⟨ha, hb, _⟩
  · exact absurd h' h
  · rcases n13 (show 0 ≤ t by omega) hb with rfl | rfl | rfl | rfl | rfl | rfl | rfl | rfl | rfl | rfl | rfl | rfl | rfl <;> first | (exfalso; omega) | decide
theorem turn2 {t o : Int} (h : szT t ≠ 0) (ho : o = 1 ∨ o = 2) (l : List Int) : turnL (turnL l (prT t) o) (prT t) o = l ∧ (turnL l (prT t) o).length = l.length := by
  obtain ⟨hb, h0⟩ := turnB_p h ho
  obtain ⟨p, hp⟩ := Int.eq_ofNat_of_zero_le h0
  rw [hp] at hb ⊢
  exact ⟨turn_turn l p o hb, turnL_len l _ o hb⟩
/-- The entry of a value: its value again. -/
theorem eof_back {tag t c : Int} {l : List Int} {o : Int} (hby : Byts l) (h : eB tag t c l o = true) : evB t c (eN t c l o) o = true ∧ evL t c (eN t c l o) o = l ∧ evC t c (eN t c l o) o = true := by
  have hm : mayV t c l = true := by
    cases hh : mayV t c l with
    | true => rfl
    | false => rw [eB_no (.inr (.inr (.inr (.inr (.inl hh)))))] at h; cases h
  have hin : inE t c = true := by
    cases hh : inE t c with
    | true => rfl
    | false => rw [eB_no (.inr (.inr (.inr (.inr (.inr hh)))))] at h; cases h
  have ho : o = 1 ∨ o = 2 := by
    rcases Int.lt_or_le o 1 with h1 | h1
    · rw [eB_no (.inr (.inr (.inl h1)))] at h; cases h
    · rcases Int.lt_or_le 2 o with h2 | h2
      · rw [eB_no (.inr (.inr (.inr (.inl h2))))] at h; cases h
      · omega
  obtain ⟨m1, m2, m3, m4, m5⟩ := (mayV_iff _ _ _).1 hm
  obtain ⟨i0, i1, _⟩ := inE_len hin
  obtain ⟨t1, t2⟩ := turn2 m1 ho l
  have hbv : byV t c l o = turnL l (prT t) o := by unfold byV; rw [hm]; rfl
  have hbl : (byV t c l o).length = l.length := by rw [hbv, t2]
  have hbz : Byts (byV t c l o ++ List.replicate (4 - (byV t c l o).length) 0) := byts_app (byV_byts hby t c o) (fun x hx => by rw [List.eq_of_mem_replicate hx]; decide)
  have hlz : (byV t c l o ++ List.replicate (4 - (byV t c l o).length) (0 : Int)).length = 4 := by simp; omega
  have g := put_get hbz (a := 0) (s := 4) (.inr rfl) ho (by omega)
  have hg1 : putB (eN t c l o) 4 o = true := g.1
  have hg2 : putL (eN t c l o) 4 o = byV t c l o ++ List.replicate (4 - (byV t c l o).length) 0 := by
    have : putL (eN t c l o) 4 o = ((byV t c l o ++ List.replicate (4 - (byV t c l o).length) 0).drop 0).take 4 := g.2
    rw [this, List.drop_zero, List.take_of_length_le (by omega)]
  have htk : (byV t c l o ++ List.replicate (4 - (byV t c l o).length) (0 : Int)).take (c * szT t).toNat = turnL l (prT t) o := by
    rw [List.take_left' (by rw [hbl]; omega), hbv]
  have hofB : ofB t c (putL (eN t c l o) 4 o) o = true := by
    rw [ofB_m m1 (by omega) (by omega) (by rw [hg2, hlz]; omega), hg2, htk, t1]
    exact hm
  have hev : evB t c (eN t c l o) o = true := by unfold evB; rw [hg1, hin, hofB]; rfl
  have hel : evL t c (eN t c l o) o = l := by
    unfold evL ofL
    rw [hev, if_pos rfl, hofB, if_pos rfl, hg2, htk, t1]
  refine ⟨hev, hel, ?_⟩
  unfold evC
  rw [hev, hel, hg2, ← hbl, List.drop_left]
  rw [any_not _ nz (fun j hj => by
    have : nth (List.replicate (4 - (byV t c l o).length) (0 : Int)) j = 0 := by
      unfold nth
      rw [List.getD_eq_getElem?_getD, List.getElem?_replicate]
      split <;> rfl
    rw [this]; rfl)]
  rfl
/-- The value in a slot: its entry again. -/
theorem val_back {x0 x1 x2 x3 o : Int} (h : evB x1 x2 x3 o = true) : eB x0 x1 x2 (evL x1 x2 x3 o) o = (decide (0 ≤ x0) && decide (x0 < 65536)) ∧ decide (eN x1 x2 (evL x1 x2 x3 o) o = x3) = evC x1 x2 x3 o ∧ Byts (evL x1 x2 x3 o) ∧ (evL x1 x2 x3 o).length ≤ 4 := by
  have h' := h
  unfold evB at h'
  simp only [Bool.and_eq_true] at h'
  obtain ⟨hp, hi, hof⟩ := h'
  obtain ⟨_, ho, p0, p1⟩ := putB_t (s := 4) hp
  have hpl : (putL x3 4 o).length = 4 := putL_len hp
  have hel : evL x1 x2 x3 o = ofL x1 x2 (putL x3 4 o) o := by unfold evL; rw [h]; rfl
  have hol := ofL_len hof
  obtain ⟨i0, i1, _⟩ := inE_len hi
  have hsz : szT x1 ≠ 0 := fun hz => by rw [hz] at i0; simp at i0
  have hofl : ofL x1 x2 (putL x3 4 o) o = turnL ((putL x3 4 o).take (x2 * szT x1).toNat) (prT x1) o := by unfold ofL; rw [hof]; rfl
  have hmv : mayV x1 x2 (evL x1 x2 x3 o) = true := by
    rw [hel, hofl]
    unfold ofB at hof
    simp only [Bool.and_eq_true] at hof
    exact hof.2.2.2.2
  have hby : Byts (evL x1 x2 x3 o) := by rw [hel]; exact ofL_byts (putL_byts _ _ _) _ _ _
  have hll : (evL x1 x2 x3 o).length = (x2 * szT x1).toNat := by rw [hel]; omega
  refine ⟨?_, ?_, hby, by omega⟩
  · rw [(inline_law _ _ _ hmv).2.2.2 x0 o, hi]
    rcases ho with rfl | rfl <;> simp
  · obtain ⟨t1, t2⟩ := turn2 hsz ho ((putL x3 4 o).take (x2 * szT x1).toNat)
    have hbv : byV x1 x2 (evL x1 x2 x3 o) o = (putL x3 4 o).take (x2 * szT x1).toNat := by
      unfold byV
      rw [hmv, if_pos rfl, hel, hofl, t1]
    have hbl : (byV x1 x2 (evL x1 x2 x3 o) o).length = (x2 * szT x1).toNat := by rw [hbv, List.length_take, hpl]; omega
    have hbz : Byts (byV x1 x2 (evL x1 x2 x3 o) o ++ List.replicate (4 - (byV x1 x2 (evL x1 x2 x3 o) o).length) 0) := byts_app (byV_byts hby _ _ _) (fun x hx => by rw [List.eq_of_mem_replicate hx]; decide)
    have hlz : (byV x1 x2 (evL x1 x2 x3 o) o ++ List.replicate (4 - (byV x1 x2 (evL x1 x2 x3 o) o).length) (0 : Int)).length = 4 := by simp; omega
    have g := put_get hbz (a := 0) (s := 4) (.inr rfl) ho (by omega)
    have hg2 : putL (eN x1 x2 (evL x1 x2 x3 o) o) 4 o = byV x1 x2 (evL x1 x2 x3 o) o ++ List.replicate (4 - (byV x1 x2 (evL x1 x2 x3 o) o).length) 0 := by
      have : putL (eN x1 x2 (evL x1 x2 x3 o) o) 4 o = ((byV x1 x2 (evL x1 x2 x3 o) o ++ List.replicate (4 - (byV x1 x2 (evL x1 x2 x3 o) o).length) 0).drop 0).take 4 := g.2
      rw [this, List.drop_zero, List.take_of_length_le (by omega)]
    have hrd : getN (putL x3 4 o) 0 4 o = x3 := by
      have := (get_put (s := 4) hp [] []).2
      simpa using this
    have hC : evC x1 x2 x3 o = !((putL x3 4 o).drop (x2 * szT x1).toNat).any nz := by unfold evC; rw [h, hll]; rfl
    rw [hC]
    by_cases hz : ((putL x3 4 o).drop (x2 * szT x1).toNat).any nz = true
    · rw [hz]
      apply decide_eq_false
      intro he
      rw [he, hbl, hbv] at hg2
      rw [hg2, List.drop_left' (by rw [List.length_take, hpl]; omega)] at hz
      rw [any_not _ nz (fun j hj => by
        have : nth (List.replicate (4 - (x2 * szT x1).toNat) (0 : Int)) j = 0 := by
          unfold nth
          rw [List.getD_eq_getElem?_getD, List.getElem?_replicate]
          split <;> rfl
        rw [this]; rfl)] at hz
      cases hz
    · have hz' : ((putL x3 4 o).drop (x2 * szT x1).toNat).any nz = false := by simpa using hz
      rw [hz']
      apply decide_eq_true
      have hrep : (putL x3 4 o).drop (x2 * szT x1).toNat = List.replicate (4 - (x2 * szT x1).toNat) 0 := by
        apply List.eq_replicate_iff.2
        refine ⟨by rw [List.length_drop, hpl], fun x hx => ?_⟩
        rw [List.any_eq_false] at hz'
        have := hz' x hx
        unfold nz at this
        simpa using this
      have hfull : byV x1 x2 (evL x1 x2 x3 o) o ++ List.replicate (4 - (byV x1 x2 (evL x1 x2 x3 o) o).length) 0 = putL x3 4 o := by
        rw [hbl, hbv, ← hrep, List.take_append_drop]
      unfold eN
      rw [hfull]
      exact hrd
end Go.Proofs.Ythjmnahmejagmaa
