/- The contract of made: a value of ratios. -/
import Derived.Test.YtmdcdmgbillehaaTzE
namespace Go.Proofs.Ytmdcdmgbillehaa
open Go.RowKit
open Go.Tin
set_option linter.unusedVariables false
set_option linter.unusedSimpArgs false


abbrev iv (zs : List Int) : List Value := zs.map (Value.int .i64)
def rtpL (k : Int) (zs : List Int) : Nat → List Int
  | 0 => []
  | i + 1 => rtpL k zs i ++ rtL k (nth zs (i * 2)) (nth zs (i * 2 + 1))
def rtpB (k : Int) (zs : List Int) : Nat → Bool
  | 0 => true
  | i + 1 => rtpB k zs i && rtQ k (nth zs (i * 2)) (nth zs (i * 2 + 1))
theorem rtL_le (k a b : Int) : (rtL k a b).length ≤ 8 := by
  unfold rtL
  rw [List.length_append]
  have := kpL_le k a
  have := kpL_le k b
  omega
theorem rtpL_le (k : Int) (zs : List Int) : ∀ i, (rtpL k zs i).length ≤ 8 * i
  | 0 => by simp [rtpL]
  | i + 1 => by
    have := rtpL_le k zs i
    have := rtL_le k (nth zs (i * 2)) (nth zs (i * 2 + 1))
    rw [rtpL, List.length_append]
    omega
theorem byts_kpL (k n : Int) : Byts (kpL k n) := by
  unfold kpL
  split
  · exact byts_putL _ _ _
  · intro x hx; simp at hx
theorem byts_rtpL (k : Int) (zs : List Int) : ∀ i, Byts (rtpL k zs i)
  | 0 => fun x hx => by simp [rtpL] at hx
  | i + 1 => byts_app (byts_rtpL k zs i) (byts_app (byts_kpL _ _) (byts_kpL _ _))
theorem rtpB_no {k : Int} {zs : List Int} (i : Nat) (h : rtQ k (nth zs (i * 2)) (nth zs (i * 2 + 1)) = false) : ∀ j, i < j → rtpB k zs j = false
  | 0, hj => by omega
  | j + 1, hj => by
    unfold rtpB
    by_cases hij : i = j
    · subst hij; rw [h]; simp
    · rw [rtpB_no i h j (by omega)]; rfl
def rmB (k : Int) (n : Nat) (zs : List Int) : Bool := rtpB k zs n && mayV k (n : Int) (rtpL k zs n)
def rmL (k : Int) (n : Nat) (zs : List Int) : List Int := if rmB k n zs then rtpL k zs n else []
theorem cells2 {w : World} {b off : Nat} {zs : List Int} (h : SlV w (some ⟨b, off, none⟩) (iv zs)) (i : Nat) (hi : i * 2 + 2 ≤ zs.length) : w.rangeAt b (off + i * 2) [.int .i64 (nth zs (i * 2)), .int .i64 (nth zs (i * 2 + 1))] := by
  have hr := h.rng (i * 2) 2 (by simp; omega)
  have e : ((iv zs).drop (i * 2)).take 2 = [.int .i64 (nth zs (i * 2)), .int .i64 (nth zs (i * 2 + 1))] := by
    rw [List.drop_eq_getElem_cons (by simp; omega), List.take_succ_cons, List.drop_eq_getElem_cons (by simp; omega), List.take_succ_cons, List.take_zero]
    simp [nth, List.getD_eq_getElem?_getD, List.getElem?_eq_getElem (show i * 2 < zs.length by omega), List.getElem?_eq_getElem (show i * 2 + 1 < zs.length by omega)]
  rw [e] at hr
  exact hr
set_option maxRecDepth 100000 in
set_option maxHeartbeats 8000000 in
theorem rmade_any (k : Int) (g : Nat) (A : Option Addr) (n cap : Nat) (zs : List Int) (w : World) (hs : SlV w A (iv zs)) (hz : zs.length = n * 2) (hn : n ≤ 1000000) (hg : w.heap[g]? = some (.cells #[.int .i64 (szT k), .int .i64 (prT k), .int .i64 (isT k)] 58 (0, 0))) :
    Calls Try.prog 40 #[.int .i64 k, .slice A n cap, .func (.func 41) #[] #[.pointer (some ⟨g, 0, none⟩)]] w fun e w' => ∃ A' c', e = .returned (.tuple #[.agg (vrow (on (rmB k n zs) k) (on (rmB k n zs) (n : Int)) A' (rmL k n zs).length c'), .bool (rmB k n zs)]) ∧ Own .u8 5 w' w.heap.size (.slice A' (rmL k n zs).length c') (rmL k n zs) ∧ Below w.heap.size w w' := by
  obtain ⟨W, hW⟩ : ∃ W, W = (w.alloc (.cells (vrow 0 0 none 0 0) 27)).alloc (.cells (vrow k (n : Int) none 0 0) 27) := ⟨_, rfl⟩
  have HB := Lib.hid (show Below w.heap.size w W by rw [hW]; exact ba (ba (brefl w) _) _)
  have HX := Lib.hid (show W.heap[w.heap.size]? = some (.cells (vrow 0 0 none 0 0) 27 (0, 0)) by rw [hW, Below.heap_alloc _ _ _ (by simp)]; exact heap_alloc_new w _)
  have HR := Lib.hid (show W.heap[w.heap.size + 1]? = some (.cells (vrow k (n : Int) none 0 0) 27 (0, 0)) by
    have := heap_alloc_new (w.alloc (.cells (vrow 0 0 none 0 0) 27)) (.cells (vrow k (n : Int) none 0 0) 27)
    rw [hW]
    simpa using this)
  have hsz : W.heap.size = w.heap.size + 2 := by rw [hW]; simp
  have HS := Lib.hid hs
  have HZS := Lib.hid hz
  have HGK := Lib.hid (show ∀ V, Below w.heap.size w V → V.heap[g]? = some (.cells #[.int .i64 (szT k), .int .i64 (prT k), .int .i64 (isT k)] 58 (0, 0)) from fun V h => (h.block _ (row_lt hg)).trans hg)
  have HED := Lib.hid (show rmB k n zs = (rtpB k zs n && mayV k (n : Int) (rtpL k zs n)) ∧ rmL k n zs = (if rmB k n zs then rtpL k zs n else []) from ⟨rfl, rfl⟩)
  have HE0 := Lib.hid (show rmB k n zs = false → rmL k n zs = [] ∧ on (rmB k n zs) k = 0 ∧ on (rmB k n zs) (n : Int) = 0 from fun h => ⟨by unfold rmL; rw [h]; rfl, by rw [h]; rfl, by rw [h]; rfl⟩)
  clear hs hz hg
  go_enter Try.func40, Try.ntmps40
  go_wp2_with fail
  rw [← hW]
  clear hW
  go_loopw [19] (fun s19 wr => ∃ (i : Nat) (A1 : Option Addr) (c1 : Nat), i ≤ n ∧ s19 = .int .i64 (i : Int) ∧ rtpB k zs i = true ∧ wr.heap[w.heap.size + 1]? = some (.cells (vrow k (n : Int) A1 (rtpL k zs i).length c1) 27 (0, 0)) ∧ Own .u8 5 wr W.heap.size (.slice A1 (rtpL k zs i).length c1) (rtpL k zs i) ∧ Below (w.heap.size + 1) W wr) (fun s19 _ => n - (intOf s19).toNat)
  case atStart => exact ⟨0, none, 0, by omega, rfl, rfl, HR.out, Own.nil_ _ _ _ _, Below.refl _ _⟩
  case round =>
    obtain ⟨i, A1, c1, hi, rfl, hok, hrow, hown, hb⟩ := hrel
    have HOK := Lib.hid hok
    have HRW := Lib.hid hrow
    have HO := Lib.hid hown
    have HB1 := Lib.hid hb
    have HBw := Lib.hid (HB.out.trans (hb.mono (Nat.le_succ _)))
    have HZ := Lib.hid ((hb.block _ (Nat.lt_succ_self _)).trans HX.out)
    have hs1 : W.heap.size ≤ wr.heap.size := hb.size
    clear hok hrow hown hb
    by_cases hil : i < n
    · have i1 : (i : Int) < (n : Int) := by omega
      have hsl := HS.out.keep HBw.out
      have h2 : i * 2 + 2 ≤ zs.length := by rw [HZS.out]; omega
      obtain ⟨q, off, rfl, hql, -⟩ := hsl.at_ (by simp; omega)
      have HCR := Lib.hid (cells2 hsl i h2)
      have HNF := Lib.hid (fun h => rtpB_no (k := k) (zs := zs) i h n hil)
      have HPR := Lib.hid (rtpL_le k zs i)
      have HST := Lib.hid (show rtpL k zs (i + 1) = rtpL k zs i ++ rtL k (nth zs (i * 2)) (nth zs (i * 2 + 1)) ∧ rtpB k zs (i + 1) = (rtpB k zs i && rtQ k (nth zs (i * 2)) (nth zs (i * 2 + 1))) from ⟨rfl, rfl⟩)
      clear hsl h2
      generalize nth zs (i * 2) = Z0 at *
      generalize nth zs (i * 2 + 1) = Z1 at *
      have HBn := Lib.hid (ba (brefl wr) (.cells #[.int .i64 Z0, .int .i64 Z1] 55))
      have HKG := Lib.hid (HGK.out _ (ba HBw.out (.cells #[.int .i64 Z0, .int .i64 Z1] 55)))
      have HRA := Lib.hid (rat_any k Z0 Z1 g (wr.alloc (.cells #[.int .i64 Z0, .int .i64 Z1] 55)) HKG.out)
      go_wp2_with ((with_reducible refine wpl_loadv rtR ?_ (.tmp 21) ?_ q (off + i * 2) ?_ _ ?_ HCR.out ?_); rfl; rfl; rfl; rfl; simp only [Act.put, List.setIfInBounds_toArray, List.set_cons_succ, List.set_cons_zero])
      refine HRA.out.mono ?_
      rintro e w3 ⟨A3, c3, rfl, ho3, hb3'⟩
      have hb3 : Below wr.heap.size wr w3 := HBn.out.trans (hb3'.mono HBn.out.size)
      have HP3 := Lib.hid (ho3.mono HBn.out.size)
      have HO3 := Lib.hid (HO.out.keep hb3)
      have HR3 := Lib.hid ((hb3.block _ (row_lt HRW.out)).trans HRW.out)
      have HZ3 := Lib.hid ((hb3.block _ (row_lt HZ.out)).trans HZ.out)
      have HB3 := Lib.hid (HB1.out.trans (hb3.mono (show w.heap.size + 1 ≤ wr.heap.size by omega)))
      have HBw3 := Lib.hid (HBw.out.trans (hb3.mono HBw.out.size))
      have hs3 : wr.heap.size ≤ w3.heap.size := hb3.size
      have HPL := Lib.hid (rtL_le k Z0 Z1)
      clear ho3 hb3 hb3' HO HRW HZ HB1 HBw HBn HKG HRA HCR
      cases hpt : rtQ k Z0 Z1 with
      | false =>
        have HE := Lib.hid (show rmB k n zs = false by rw [HED.out.1, HNF.out hpt]; rfl)
        have HEz := Lib.hid (HE0.out HE.out)
        clear hpt
        generalize rtL k Z0 Z1 = PL at *
        go_wp2_with ((with_reducible refine wpl_store_row rtV ?_ (.tmp 6) (.tmp 31) ?_ (w.heap.size) ?_ (vrow 0 0 none 0 0) ?_ (vrow_one _ _ _ _ _) 27 ?_ _ ?_ HZ3.out ?_); rfl; rfl; rfl; rfl; rfl; rfl; intro w7 hr7 hg7 hs7; (try simp only [Act.put]))
        rw [HEz.out.2.1, HEz.out.2.2, HEz.out.1, HE.out]
        exact bodyPost_ret (res_row_tmp rtV rfl _ _ w.heap.size 27 (vrow 0 0 none 0 0) rfl (.bool false) rfl rfl hr7) rfl ⟨none, 0, rfl, Own.nil_ _ _ _ _, HBw3.out.grown hg7 HBw3.out.size (fun k hk => by cases hk; exact Nat.le_refl _)⟩

      | true =>
        have HOK' := Lib.hid (show rtpB k zs (i + 1) = true by rw [HST.out.2, HOK.out, hpt]; rfl)
        have HLS := Lib.hid HST.out.1
        clear hpt HST HNF
        generalize rtL k Z0 Z1 = PL at *
        generalize rtpL k zs i = L at *
        have k2 := row_cell (v := .slice A1 L.length c1) HR3.out 2 rfl
        go_wp2_with (at_builtin; refine Tin.wpl_app bt5 _ rfl (.tmp 33) (.tmp 34) rfl W.heap.size (.slice A1 L.length c1) L rfl HO3.out A3 PL.length c3 PL rfl HP3.out.sl'.2 rfl (by have := HPL.out; have := HPR.out; omega) (by have := HPL.out; have := HPR.out; omega) (by omega) ?_; intro v4 w4 ho4 hg4 hw4; obtain ⟨A4, c4, rfl⟩ := own_form ho4; have HO4 := Lib.hid ho4; have HR4 := Lib.hid ((hg4.block (w.heap.size + 1) (row_lt HR3.out) (fun e => by have h1 := (World.ownsRow.lt HO3.out _ e.symm).1; omega)).trans HR3.out); have HB4 := Lib.hid (HB3.out.grown hg4 (by omega) (fun q hq => by have h1 := (World.ownsRow.lt HO3.out _ hq).1; omega)); have hs4 : w3.heap.size ≤ w4.heap.size := hg4.size; clear ho4 hg4 hw4; have q2 := row_cell (v := .slice A1 L.length c1) HR4.out 2 rfl; have y2 := frozen_of_row w4 _ 2 _ _ HR4.out)
        have hgs := grown_setCells (w.heap.size + 1) [.slice A4 (L.length + PL.length) c4] 2 w4 w4 (World.grownBy.refl w4 _)
        have HR5 := Lib.hid (row_set HR4.out 2 (.slice A4 (L.length + PL.length) c4))
        have HO5 := Lib.hid (HO4.out.kept hgs (by right; intro e; have h1 := (World.ownsRow.lt HO4.out _ e).1; omega))
        have HB5 := Lib.hid (HB4.out.grown hgs (by omega) (fun q hq => by have e' : w.heap.size + 1 = q := Option.some.inj hq; omega))
        clear hgs q2 y2 k2
        go_roundw
        case rel =>
          refine ⟨i + 1, A4, c4, by omega, by go_num, HOK'.out, ?_, ?_, HB5.out⟩
          · rw [HLS.out, List.length_append]; exact HR5.out
          · rw [HLS.out]; exact HO5.out
        case measure => simp [intOf]; omega
    · obtain rfl : i = n := by omega
      have HY := Lib.hid (byts_rtpL k zs i)
      have HL := Lib.hid (rtpL_le k zs i)
      have HED2 := Lib.hid (show rmB k i zs = mayV k (i : Int) (rtpL k zs i) by rw [HED.out.1, HOK.out]; rfl)
      generalize rtpL k zs i = R at *
      go_wp2_with ((with_reducible refine wpl_load_row rtV ?_ (.tmp 8) ?_ (w.heap.size + 1) ?_ 27 (vrow k (i : Int) A1 R.length c1) ?_ HRW.out ?_); rfl; rfl; rfl; rfl; simp only [Act.put, List.setIfInBounds_toArray, List.set_cons_succ, List.set_cons_zero])
      refine (vmay_any k (i : Int) A1 R c1 wr HO.out.sl'.2 (by have := HL.out; omega) HY.out).mono ?_
      rintro e w5 ⟨rfl, hb5⟩
      have HR5 := Lib.hid ((hb5.block _ (row_lt HRW.out)).trans HRW.out)
      have HZ5 := Lib.hid ((hb5.block _ (row_lt HZ.out)).trans HZ.out)
      have HB5 := Lib.hid (HBw.out.trans (hb5.mono HBw.out.size))
      have HO5 := Lib.hid (HO.out.keep hb5)
      clear hb5
      cases hmv : mayV k (i : Int) R with
      | false =>
        have HE := Lib.hid (HED2.out.trans hmv)
        have HEz := Lib.hid (HE0.out HE.out)
        clear hmv
        go_wp2_with ((with_reducible refine wpl_store_row rtV ?_ (.tmp 6) (.tmp 41) ?_ (w.heap.size) ?_ (vrow 0 0 none 0 0) ?_ (vrow_one _ _ _ _ _) 27 ?_ _ ?_ HZ5.out ?_); rfl; rfl; rfl; rfl; rfl; rfl; intro w7 hr7 hg7 hs7; (try simp only [Act.put]))
        rw [HEz.out.2.1, HEz.out.2.2, HEz.out.1, HE.out]
        exact bodyPost_ret (res_row_tmp rtV rfl _ _ w.heap.size 27 (vrow 0 0 none 0 0) rfl (.bool false) rfl rfl hr7) rfl ⟨none, 0, rfl, Own.nil_ _ _ _ _, HB5.out.grown hg7 HB5.out.size (fun k hk => by cases hk; exact Nat.le_refl _)⟩

      | true =>
        have HE := Lib.hid (HED2.out.trans hmv)
        have HEL := Lib.hid (show rmL k i zs = R by rw [HED.out.2, HE.out]; rfl)
        clear hmv
        go_wp2_with (first | ((with_reducible refine wpl_load_row rtV ?_ (.tmp 8) ?_ (w.heap.size + 1) ?_ 27 (vrow k (i : Int) A1 R.length c1) ?_ HR5.out ?_); rfl; rfl; rfl; rfl; simp only [Act.put, List.setIfInBounds_toArray, List.set_cons_succ, List.set_cons_zero]) | ((with_reducible refine wpl_store_row rtV ?_ (.tmp 6) (.tmp 42) ?_ (w.heap.size) ?_ (vrow k (i : Int) A1 R.length c1) ?_ (vrow_one _ _ _ _ _) 27 ?_ _ ?_ HZ5.out ?_); rfl; rfl; rfl; rfl; rfl; rfl; intro w7 hr7 hg7 hs7; (try simp only [Act.put])))
        rw [HEL.out, HE.out]
        exact bodyPost_ret (res_row_tmp rtV rfl _ _ w.heap.size 27 (vrow k (i : Int) A1 R.length c1) rfl (.bool true) rfl rfl hr7) rfl ⟨A1, c1, rfl, (HO5.out.mono (show w.heap.size ≤ W.heap.size by omega)).kept hg7 (by
          cases hq : (Value.slice A1 R.length c1).ownBlock with
          | none => exact .inl rfl
          | some q => exact .inr (fun e => by have h1 := (World.ownsRow.lt HO5.out q hq).1; have e' : q = w.heap.size := Option.some.inj e; omega)), HB5.out.grown hg7 HB5.out.size (fun k hk => by cases hk; exact Nat.le_refl _)⟩
end Go.Proofs.Ytmdcdmgbillehaa
