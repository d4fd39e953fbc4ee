/- The contracts of Spots, spot, tag and laid. -/
import Derived.Test.YtkepbobnjplpoaaLzF
import Derived.Test.YtkepbobnjplpoaaLb
namespace Go.Proofs.Ytkepbobnjplpoaa
open Go.RowKit
open Go.Tin
set_option linter.unusedVariables false
set_option linter.unusedSimpArgs false


theorem ne_own {v : Value} {g : Nat} (h : ∀ q, v.ownBlock = some q → q ≠ g) : v.ownBlock = none ∨ v.ownBlock ≠ some g := by
  cases hq : v.ownBlock with
  | none => exact .inl rfl
  | some q => exact .inr fun e => h q hq (Option.some.inj e)
theorem spotE : Try.prog.eqGuardType Try.prog.depth 53 = false := by kernel_rfl
theorem spot_eq (d : Nat) (a b c e f : Int) (w : World) : (Op.equalIn (d + 2) 53 (.agg #[.int .i64 a, .int .i64 b, .int .i64 c, .int .i64 e, .int .i64 f]) (.agg #[.int .i64 a, .int .i64 b, .int .i64 c, .int .i64 e, .int .i64 f])).run Try.prog w = .ok true w := by
  rw [run_equalIn_agg w (d + 1) 53 _ _ (by kernel_rfl) (by kernel_rfl)]
  have hf : (Try.prog.fieldsOf 53).toList = [{ name := "What", type := 3, offset := 0, embedded := false, tag := "", pkgPath := "", byteOffset := 0 }, { name := "Dir", type := 3, offset := 1, embedded := false, tag := "", pkgPath := "", byteOffset := 8 }, { name := "Tag", type := 3, offset := 2, embedded := false, tag := "", pkgPath := "", byteOffset := 16 }, { name := "At", type := 3, offset := 3, embedded := false, tag := "", pkgPath := "", byteOffset := 24 }, { name := "Long", type := 3, offset := 4, embedded := false, tag := "", pkgPath := "", byteOffset := 32 }] := by kernel_rfl
  rw [hf]
  simp [Op.eqFields, go_sem]
theorem spot_q (a b c e f : Int) (w : World) : (Op.equalIn 10000 53 (.agg #[.int .i64 a, .int .i64 b, .int .i64 c, .int .i64 e, .int .i64 f]) (.agg #[.int .i64 a, .int .i64 b, .int .i64 c, .int .i64 e, .int .i64 f])).run Try.prog w = .ok true w := spot_eq 9998 a b c e f w
set_option maxRecDepth 100000 in
set_option maxHeartbeats 8000000 in
/-- Two rows of the same spots. -/
theorem spots_same (A A' : Option Addr) (c c' : Nat) (l : List Sp) (w : World) (hs : SpS w A l) (ht : SpS w A' l) (hl : l.length ≤ 1000000000) :
    Calls Try.prog 12 #[.slice A l.length c, .slice A' l.length c'] w fun e w' => e = .returned (.bool true) ∧ Below w.heap.size w w' := by
  have HS := Lib.hid hs
  have HT := Lib.hid ht
  clear hs ht
  generalize hn : l.length = n at *
  have HN := Lib.hid hn
  clear hn
  have nn : ((n : Int) == (n : Int)) = true := by rw [beq_iff_eq]
  go_enter Try.func12, Try.ntmps12
  go_wp2_with fail
  go_loopw [5] (fun s5 wr => ∃ i : Nat, i ≤ n ∧ s5 = .int .i64 (i : Int) ∧ Below w.heap.size w wr) (fun s5 _ => n - (intOf s5).toNat)
  case atStart => exact ⟨0, by omega, rfl, brefl w⟩
  case round =>
    obtain ⟨i, hi, rfl, hb⟩ := hrel
    have HB := Lib.hid hb
    clear hb nn
    by_cases hin : i < n
    case neg =>
      obtain rfl : i = n := by omega
      go_wp2_with fail
      go_ret
      exact ⟨rfl, HB.out⟩
    have i1 : (i : Int) < (n : Int) := by omega
    have hil : i < l.length := by rw [HN.out]; exact hin
    obtain ⟨b, off, rfl, hb1, hc1⟩ := HS.out.at_ (by omega)
    obtain ⟨b', off', rfl, hb2, hc2⟩ := HT.out.at_ (by omega)
    have E1 := Lib.hid (fun (W : World) (h : Below w.heap.size w W) => rng_below h hb1 (hc1 i hil))
    have E2 := Lib.hid (fun (W : World) (h : Below w.heap.size w W) => rng_below h hb2 (hc2 i hil))
    clear hc1 hc2
    generalize l[i] = s at *
    obtain ⟨s1, s2, s3, s4, s5⟩ := s
    replace E1 := Lib.hid (fun (W : World) (h : Below w.heap.size w W) => show W.rangeAt b (off + i * 5) [.int .i64 s1, .int .i64 s2, .int .i64 s3, .int .i64 s4, .int .i64 s5] from E1.out W h)
    replace E2 := Lib.hid (fun (W : World) (h : Below w.heap.size w W) => show W.rangeAt b' (off' + i * 5) [.int .i64 s1, .int .i64 s2, .int .i64 s3, .int .i64 s4, .int .i64 s5] from E2.out W h)
    go_wp2_with fail
    refine Tin.reg_begin w.heap.size 9 (by rfl) (by kernel_rfl) ?_
    refine Tin.reg_quiets [0, 1, 2, 3, 4, 5, 6, 7, 8] _ 0 rfl (by simp only [Tin.pick, List.map_cons, List.map_nil, Array.getD_eq_getD_getElem?, List.getElem?_toArray, List.getElem?_cons_zero, List.getElem?_cons_succ, Option.getD_some]; rfl) (by kernel_rfl) (by kernel_rfl) ?_
    repeat (first | ((with_reducible refine wpq_loadv rtSp ?_ (.tmp 19) rfl b (off + i * 5) ?_ _ ?_ (fun W h => by obtain ⟨p, rfl⟩ := h; exact E1.out _ (HB.out.trans (ud p.h))) ?_); rfl; rfl; rfl; simp only [Act.put, List.setIfInBounds_toArray, List.set_cons_succ, List.set_cons_zero]) | ((with_reducible refine wpq_loadv rtSp ?_ (.tmp 23) rfl b' (off' + i * 5) ?_ _ ?_ (fun W h => by obtain ⟨p, rfl⟩ := h; exact E2.out _ (HB.out.trans (ud p.h))) ?_); rfl; rfl; rfl; simp only [Act.put, List.setIfInBounds_toArray, List.set_cons_succ, List.set_cons_zero]) | ((with_reducible refine wpq_neq spotE ?_ (.tmp 20) (.tmp 24) 53 rfl rfl rfl (spot_q _ _ _ _ _) ?_); rfl; simp only [Act.put, List.setIfInBounds_toArray, List.set_cons_succ, List.set_cons_zero]) | go_big_quiet_step (fail))
    refine wpQuiet_nil ?_
    refine Tin.reg_done (by kernel_rfl) ?_
    have HBd := Lib.hid (show Below w.heap.size w wr.drew from ⟨HB.out.os, HB.out.tape, HB.out.output, HB.out.size, HB.out.block⟩)
    go_wp2_with fail
    go_roundw
    case rel => exact ⟨i + 1, by omega, by go_num, HBd.out⟩
    case measure => simp [intOf]; omega
set_option maxRecDepth 100000 in
theorem spot_any (a b c e f : Int) (w : World) : Calls Try.prog 28 #[.int .i64 a, .int .i64 b, .int .i64 c, .int .i64 e, .int .i64 f] w fun x w' => x = .returned (.agg #[.int .i64 a, .int .i64 b, .int .i64 c, .int .i64 e, .int .i64 f]) ∧ Below w.heap.size w w' := by
  go_enter Try.func28, Try.ntmps28
  go_wp2_with fail
  refine bodyPost_ret (res_row rtSp rfl _ _ w.heap.size 53 #[.int .i64 a, .int .i64 b, .int .i64 c, .int .i64 e, .int .i64 f] rfl rfl (heap_alloc_new w _)) rfl ?_
  exact ⟨rfl, ba (brefl w) _⟩
set_option maxRecDepth 100000 in
set_option maxHeartbeats 4000000 in
theorem tag_any (A : Option Addr) (c : Nat) (w : World) (hs : Sl .i64 w A [1]) :
    Calls Try.prog 27 #[.int .i64 256, .int .i64 3, .slice A 1 c] w fun e w' => ∃ A' c', e = .returned (.agg #[.int .i64 256, .int .i64 3, .int .i64 1, .slice A' 2 c']) ∧ Sl .u8 w' A' [0, 1] ∧ Below w.heap.size w w' := by
  have hb := ba (brefl w) (.cells #[.int .i64 0, .int .i64 0, .int .i64 0, .slice none 0 0] 50)
  have hn := ron_any 3 A [1] c (w.alloc (.cells #[.int .i64 0, .int .i64 0, .int .i64 0, .slice none 0 0] 50)) (hs.keep hb) (by decide)
  rw [show ronB 3 [1] = true by kernel_rfl, show ronL 3 [1] = [0, 1] by kernel_rfl] at hn
  have HN := Lib.hid hn
  have R6 := Lib.hid (heap_alloc_new w (.cells #[.int .i64 0, .int .i64 0, .int .i64 0, .slice none 0 0] 50))
  have HB := Lib.hid hb
  clear hn hb hs
  go_enter Try.func27, Try.ntmps27
  go_wp2_with fail
  refine HN.out.mono ?_
  clear HN
  rintro e w2 ⟨A2, c2, rfl, ho, hb⟩
  simp only [vrow]
  rw [show on true 3 = 3 from rfl, show on true (([1] : List Int).length : Int) = 1 from rfl]
  have hz1 : (w.alloc (.cells #[.int .i64 0, .int .i64 0, .int .i64 0, .slice none 0 0] 50)).heap.size = w.heap.size + 1 := by simp
  rw [hz1] at ho hb
  have hb3 := ba (brefl w2) (.cells #[.int .i64 3, .int .i64 1, .slice A2 2 c2] 48)
  have hb4 := hb.trans (hb3.mono (by have := hb.size; rw [hz1] at this; exact this))
  have HO := Lib.hid (ho.keep hb3)
  replace R6 := Lib.hid ((hb4.block _ (Nat.lt_succ_self _)).trans R6.out)
  replace HB := Lib.hid (HB.out.trans (hb4.mono (Nat.le_succ _)))
  clear ho hb hb3 hb4 hz1
  go_wp2_with ((with_reducible refine wpl_store_row rtTg ?_ (.tmp 6) (.tmp 17) ?_ (w.heap.size) ?_ #[.int .i64 256, .int .i64 3, .int .i64 1, .slice A2 2 c2] ?_ ?_ 50 ?_ #[.int .i64 0, .int .i64 0, .int .i64 0, .slice none 0 0] ?_ R6.out ?_); rfl; rfl; rfl; rfl; (simp [Value.oneCell']); rfl; rfl; intro w3 hr3 hg3 hs3; (try simp only [Act.put, List.setIfInBounds_toArray, List.set_cons_succ, List.set_cons_zero]))
  refine bodyPost_ret (res_row rtTg rfl _ _ w.heap.size 50 #[.int .i64 256, .int .i64 3, .int .i64 1, .slice A2 2 c2] rfl rfl hr3) rfl ?_
  exact ⟨A2, c2, rfl, (HO.out.kept hg3 (ne_own (fun q hq => by have h1 := (World.ownsRow.lt HO.out q hq).1; omega))).sl'.2, HB.out.grown hg3 HB.out.size (fun k hk => by cases hk; exact Nat.le_refl _)⟩
set_option maxRecDepth 100000 in
set_option maxHeartbeats 4000000 in
/-- laid, where a tree's spots are these. -/
theorem laid_any (o E : Int) (Ad : Option Addr) (cd : Nat) (f : Fo) (A : Option Addr) (c : Nat) (l : List Sp) (w : World) (hf : FoS w (· < w.heap.size) false Ad f) (hsm : smF f) (hcnt : f.cnt ≤ 1000) (hs : SpS w A l) (hok : okF f = true) (hl : ofF f = l) (hE : longF f = E) :
    Calls Try.prog 26 #[.agg #[.int .i64 o, .slice Ad f.len cd], .int .i64 E, .slice A l.length c] w fun e w' => e = .returned (.bool true) ∧ Below w.heap.size w w' := by
  have hb0 := ba (brefl w) (.cells (trow o Ad f.len cd) 24)
  have hf1 : FoS (w.alloc (.cells (trow o Ad f.len cd) 24)) (· < (w.alloc (.cells (trow o Ad f.len cd) 24)).heap.size) false Ad f := (hf.bel hb0).mono fun b _ h => Nat.lt_of_lt_of_le h hb0.size
  have R3 := Lib.hid (heap_alloc_new w (.cells (trow o Ad f.len cd) 24))
  have HB := Lib.hid hb0
  have hbd := (layF_bd0 hsm hcnt).2.2
  have HOF := lof_any o Ad cd f _ hf1 hsm hcnt
  rw [hok, hl] at HOF
  have HOF := Lib.hid HOF
  have hll : l.length ≤ 70000 := by
    rw [← hl]; unfold ofF; rw [hok]; exact hbd
  have HLO := Lib.hid (fun (W : World) (h : FoS W (· < W.heap.size) false Ad f) => by have := llong_any o Ad cd f W h hsm hcnt; rw [hE] at this; exact this)
  have HF := Lib.hid hf1
  have HS := Lib.hid (hs.keep hb0)
  clear hf hf1 hs hbd hb0
  go_enter Try.func26, Try.ntmps26
  go_wp2_with ((with_reducible refine wpl_load_row rtTf ?_ (.tmp 3) ?_ (w.heap.size) ?_ 24 (trow o Ad f.len cd) ?_ R3.out ?_); rfl; rfl; rfl; rfl; simp only [Act.put, List.setIfInBounds_toArray, List.set_cons_succ, List.set_cons_zero])
  generalize w.alloc (.cells (trow o Ad f.len cd) 24) = w1 at *
  refine HOF.out.mono ?_
  clear HOF
  rintro e w2 ⟨A2, c2, rfl, ho, hb⟩
  have HSO := Lib.hid ho.sl'.2.1
  replace R3 := Lib.hid ((hb.block _ (row_lt R3.out)).trans R3.out)
  replace HB := Lib.hid (HB.out.trans (hb.mono HB.out.size))
  replace HS := Lib.hid (HS.out.keep hb)
  replace HF := Lib.hid (show FoS w2 (· < w2.heap.size) false Ad f from (HF.out.bel hb).mono fun b _ h => Nat.lt_of_lt_of_le h hb.size)
  clear ho hb
  go_wp2_with fail
  refine (spots_same A2 A c2 c l w2 HSO.out HS.out (by omega)).mono ?_
  clear HSO HS
  rintro e w3 ⟨rfl, hb⟩
  replace R3 := Lib.hid ((hb.block _ (row_lt R3.out)).trans R3.out)
  replace HB := Lib.hid (HB.out.trans (hb.mono HB.out.size))
  replace HF := Lib.hid (show FoS w3 (· < w3.heap.size) false Ad f from (HF.out.bel hb).mono fun b _ h => Nat.lt_of_lt_of_le h hb.size)
  clear hb
  go_wp2_with ((with_reducible refine wpl_load_row rtTf ?_ (.tmp 3) ?_ (w.heap.size) ?_ 24 (trow o Ad f.len cd) ?_ R3.out ?_); rfl; rfl; rfl; rfl; simp only [Act.put, List.setIfInBounds_toArray, List.set_cons_succ, List.set_cons_zero])
  refine (HLO.out _ HF.out).mono ?_
  clear HLO
  rintro e w4 ⟨rfl, hb⟩
  have ee : (E == E) = true := by rw [beq_iff_eq]
  go_wp2_with fail
  go_ret
  exact ⟨rfl, HB.out.trans (hb.mono HB.out.size)⟩
end Go.Proofs.Ytkepbobnjplpoaa
