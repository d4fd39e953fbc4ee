/- The iterator of a tree's directories hands out every one, in order. -/
import Derived.Test.YtkepbobnjplpoaaLzA
namespace Go.Proofs.Ytkepbobnjplpoaa
open Go.RowKit
open Go.Tin
set_option linter.unusedVariables false
set_option linter.unusedSimpArgs false

attribute [local go_sem] Oper.semAt_some

/-- The iterator's own blocks: the loop's body, the next number, the function itself. -/
structure It (l S : Nat) (no : Nat) (W : World) : Prop where
  y : W.heap[S]? = some (.cells #[.func (.yield l) #[] #[]] 76 (0, 0))
  n : W.heap[S + 1]? = some (.cells #[.int .i64 no] 3 (0, 0))
  f : W.heap[S + 2]? = some (.cells #[.func (.func 39) #[] #[.pointer (some ⟨S + 1, 0, none⟩), .pointer (some ⟨S, 0, none⟩), .pointer (some ⟨S + 2, 0, none⟩)]] 77 (0, 0))
theorem It.keep {l S no : Nat} {W W' : World} (h : It l S no W) (hk : ∀ b, S ≤ b → b < W.heap.size → W'.heap[b]? = W.heap[b]?) : It l S no W' :=
  ⟨(hk _ (by omega) (row_lt h.y)).trans h.y, (hk _ (by omega) (row_lt h.n)).trans h.n, (hk _ (by omega) (row_lt h.f)).trans h.f⟩
/-- What the iterator hands out. -/
structure Dv where
  no : Nat
  At : Option Addr
  nt : Nat
  ct : Nat
  As : Option Addr
  ns : Nat
  cs : Nat
  Ab : Option Addr
  nb : Nat
  cb : Nat
def Dv.agg (x : Dv) : Value := .agg #[.slice x.At x.nt x.ct, .slice x.As x.ns x.cs, .slice x.Ab x.nb x.cb]
def encD (x : Dv) : Array Value := #[.int .i64 x.no, x.agg]
def XD (L : List Di) (n0 : Nat) (i : Nat) (x : Dv) (W : World) : Prop :=
  ∃ h : i < L.length, x.no = i ∧ x.nt = L[i].ts.length ∧ x.ns = L[i].sub.len ∧ x.nb = L[i].bl.length ∧ DiP W (· < n0) x.At x.As x.Ab L[i]
set_option maxRecDepth 100000 in
set_option maxHeartbeats 8000000 in
theorem each_any (l S n0 : Nat) (L : List Di) (J Jx : Nat → World → Prop) (hn0 : n0 ≤ S) (hL : L.length ≤ 100000000) (hJ : ∀ i A B, J i A → Below S A B → J i B)
    (hY : ∀ i x W1 m, J i W1 → i < L.length → XD L n0 i x W1 → YieldAt Fence.wide m Try.prog l (encD x) W1 fun e W' =>
      (e = .returned (.bool true) ∧ J (i + 1) W' ∧ Kp (fun b => b < n0 ∨ S ≤ b) W1 W') ∨ (e = .returned (.bool false) ∧ Jx (i + 1) W')) :
    ∀ (fuel : Nat) (d : Di) (i : Nat) (R : List Di) (At As Ab : Option Addr) (ct cs cb : Nat) (W : World), d.sub.cnt < fuel → L.drop i = (d :: flatF d.sub) ++ R → It l S i W → J i W → DiP W (· < n0) At As Ab d →
    Calls Try.prog 39 #[.agg #[.slice At d.ts.length ct, .slice As d.sub.len cs, .slice Ab d.bl.length cb], .pointer (some ⟨S + 1, 0, none⟩), .pointer (some ⟨S, 0, none⟩), .pointer (some ⟨S + 2, 0, none⟩)] W fun e W' =>
      (e = .returned (.bool true) ∧ J (i + (1 + d.sub.cnt)) W' ∧ It l S (i + (1 + d.sub.cnt)) W' ∧ Kp (fun b => b < n0 ∨ (S ≤ b ∧ b ≠ S + 1)) W W') ∨ (e = .returned (.bool false) ∧ ∃ j, 0 < j ∧ j ≤ L.length ∧ Jx j W') := by
  intro fuel
  induction fuel with
  | zero => intro d i R At As Ab ct cs cb W h; omega
  | succ fuel ih =>
  intro d i R At As Ab ct cs cb W hfu hdr hit hji hdi
  have IH := Lib.hid ih
  clear ih
  obtain ⟨hil, hLi⟩ := drop_hd (d := d) (R := flatF d.sub ++ R) hdr
  have HDR := Lib.hid hdr
  have hflen : (flatF d.sub).length = d.sub.cnt := flatF_len _
  obtain ⟨iy, in_, if_⟩ := hit
  have ls := row_lt if_
  -- the worlds
  obtain ⟨D, hD⟩ : ∃ D, D = Obj.cells #[.slice At d.ts.length ct, .slice As d.sub.len cs, .slice Ab d.bl.length cb] 42 (0, 0) := ⟨_, rfl⟩
  obtain ⟨X, hX⟩ : ∃ X, X = (W.alloc (.cells #[.slice At d.ts.length ct, .slice As d.sub.len cs, .slice Ab d.bl.length cb] 42)).setCell ⟨S + 1, 0, none⟩ (.int .i64 ((i : Int) + 1)) := ⟨_, rfl⟩
  have hA := ba (brefl W) (.cells #[.slice At d.ts.length ct, .slice As d.sub.len cs, .slice Ab d.bl.length cb] 42)
  have a1 := (hA.block _ (row_lt in_)).trans in_
  have k1 := row_cell (v := .int .i64 (i : Int)) a1 0 rfl
  have y1 := frozen_of_row _ _ 0 _ _ a1
  have hset : ∀ b, b ≠ S + 1 → X.heap[b]? = (W.alloc (.cells #[.slice At d.ts.length ct, .slice As d.sub.len cs, .slice Ab d.bl.length cb] 42)).heap[b]? := fun b hb => by
    rw [hX]; exact heap_setCell_other _ _ _ _ hb
  have hXs : X.heap.size = W.heap.size + 1 := by rw [hX]; simp [World.setCell]
  have hWX : ∀ b, b ≠ S + 1 → b < W.heap.size → X.heap[b]? = W.heap[b]? := fun b hb hl => (hset b hb).trans (hA.block b hl)
  have hKX : Kp (fun b => b < n0 ∨ (S ≤ b ∧ b ≠ S + 1)) W X := ⟨by omega, fun b hb hl => hWX b (by omega) hl⟩
  have hBX : Below S W X := by
    rw [hX]; exact ((hA.mono (by omega)).setCell (p := ⟨S + 1, 0, none⟩) (by show S ≤ S + 1; omega) _)
  have xy : X.heap[S]? = _ := (hWX _ (by omega) (row_lt iy)).trans iy
  have xf : X.heap[S + 2]? = _ := (hWX _ (by omega) (row_lt if_)).trans if_
  have xn : X.heap[S + 1]? = some (.cells #[.int .i64 ((i + 1 : Nat) : Int)] 3 (0, 0)) := by
    rw [hX, heap_setCell_same _ _ _ _ _ _ a1, Int.natCast_add]; rfl
  have xd : X.heap[W.heap.size]? = some (.cells #[.slice At d.ts.length ct, .slice As d.sub.len cs, .slice Ab d.bl.length cb] 42 (0, 0)) := (hset _ (by omega)).trans (heap_alloc_new W _)
  have hjX := hJ _ _ _ hji hBX
  have hdX := hdi.keep (hKX.mono fun _ _ h => .inl h)
  obtain ⟨fn, tmps, asg, bd, hy, hRR⟩ := hY i ⟨i, At, d.ts.length, ct, As, d.sub.len, cs, Ab, d.bl.length, cb⟩ X 2 hjX hil ⟨hil, rfl, by rw [hLi], by rw [hLi], by rw [hLi], by rw [hLi]; exact hdX⟩
  have c2 := row_cell (v := .func (.yield l) #[] #[]) xy 0 rfl
  have c1 := row_cell (v := .int .i64 ((i + 1 : Nat) : Int)) xn 0 rfl
  simp only [encD, Dv.agg] at hy
  have XY := Lib.hid xy
  have XF := Lib.hid xf
  have XN := Lib.hid xn
  have XDI := Lib.hid xd
  have HDX := Lib.hid hdX
  have HKX := Lib.hid hKX
  have HWX := Lib.hid (show W.heap.size < X.heap.size by omega)
  have HLL := Lib.hid hLi
  clear hset hXs hWX hKX hBX xy xf xn xd hjX hdX hA hD D hLi hdr iy in_ if_ hji hdi hflen
  have HRR := Lib.hid hRR
  clear hRR
  have HX := Lib.hid hX
  subst hX
  clear HX
  refine (callsIn_wide (n := 3)).1 ?_
  refine callsIn_of_wp Try.func39 rfl trivial ?_ rfl
  simp only [Try.ntmps39, List.size_toArray, List.length_cons, List.length_nil, Nat.reduceAdd, Nat.reduceSub, Array.replicate_succ, Array.replicate_zero, List.push_toArray, List.append_toArray, List.nil_append, List.cons_append]
  gi_wp2
  generalize (W.alloc (.cells #[.slice At d.ts.length ct, .slice As d.sub.len cs, .slice Ab d.bl.length cb] 42)).setCell ⟨S + 1, 0, none⟩ (.int .i64 ((i : Int) + 1)) = X at *
  clear hy c1 c2 k1 y1 a1
  refine HRR.out.mono ?_
  clear HRR
  rintro e V (⟨rfl, hjV, hkV⟩ | ⟨rfl, hjV⟩)
  case inr =>
    gi_wp2
    refine bodyPost_ret (results_tmp rfl _ _ _) rfl ?_
    exact .inr ⟨rfl, i + 1, by omega, by omega, hjV⟩
  have HKV := Lib.hid hkV
  have vd := (hkV.block _ (.inr (by omega)) HWX.out).trans XDI.out
  have q1 := row_cell (v := .slice As d.sub.len cs) vd 1 rfl
  have VI := Lib.hid (show It l S (i + 1) V from ⟨(hkV.block _ (.inr (by omega)) (row_lt XY.out)).trans XY.out, (hkV.block _ (.inr (by omega)) (row_lt XN.out)).trans XN.out, (hkV.block _ (.inr (by omega)) (row_lt XF.out)).trans XF.out⟩)
  have VDI := Lib.hid (HDX.out.keep (hkV.mono fun _ _ h => .inl h))
  have VK := Lib.hid (HKX.out.trans (hkV.mono fun k _ h => h.imp id (fun h => h.1)))
  clear hkV vd HKV HDX HKX XY XF XN XDI
  obtain ⟨NS, hNS⟩ : ∃ NS, d.sub.len = NS := ⟨_, rfl⟩
  rw [hNS] at q1
  have HNS := Lib.hid hNS
  have hsz : NS ≤ 100000000 := by
    have h1 := congrArg List.length HDR.out
    rw [List.length_drop, List.length_append, List.length_cons, flatF_len] at h1
    have h2 := d.sub.len_cnt
    omega
  clear hNS
  gi_wp2
  have hd1 : L.drop (i + 1) = flatF d.sub ++ R := by rw [← List.drop_drop, HDR.out]; rfl
  clear HDR
  have Hd1 := Lib.hid hd1
  clear hd1 q1
  gi_loopw [19] (fun s19 wr => ∃ (k q : Nat), k ≤ NS ∧ s19 = .int .i64 (k : Int) ∧ L.drop q = flatF (d.sub.drop k) ++ R ∧ q + (d.sub.drop k).cnt = i + 1 + d.sub.cnt ∧ It l S q wr ∧ J q wr ∧ Kp (fun b => b < n0 ∨ (S ≤ b ∧ b ≠ S + 1)) V wr) (fun s19 _ => NS - (intOf s19).toNat)
  case atStart => exact ⟨0, i + 1, by omega, rfl, Hd1.out, rfl, VI.out, hjV, Kp.refl _ _⟩
  case round =>
    obtain ⟨k, q, hk, rfl, hdr, hq, hit, hjq, hkp⟩ := hrel
    have HDR := Lib.hid hdr
    have HIT := Lib.hid hit
    have HKP := Lib.hid hkp
    clear hdr hit hkp Hd1 hjV
    by_cases hkn : k < NS
    case neg =>
      obtain rfl : k = NS := by omega
      rw [Fo.drop_all (f := d.sub) (i := k) (by rw [HNS.out]; exact Nat.le_refl _), show Fo.nil.cnt = 0 from rfl] at hq
      have he : i + (1 + d.sub.cnt) = q := by omega
      have HE := Lib.hid he
      clear he hq
      gi_wp2
      refine bodyPost_ret (results_tmp rfl _ _ _) rfl ?_
      rw [HE.out]
      exact .inl ⟨rfl, hjq, HIT.out, VK.out.trans HKP.out⟩
    have k1 : (k : Int) < (NS : Int) := by omega
    have k2 : (k : Int) < 100000000 := by omega
    have hks : k < d.sub.len := by rw [HNS.out]; exact hkn
    have hd1 := Fo.drop_at k d.sub hks
    obtain ⟨b, off, rfl, hpb, hbs, hc⟩ := (VDI.out.su.keep (HKP.out.mono fun _ _ h => .inl h)).at_ (by omega)
    obtain ⟨At', ct', As', cs', Ab', cb', hr0, hdi⟩ := hc k hks
    have hec := Fo.elem_cnt k d.sub hks
    rw [hd1, flatF_one] at HDR
    rw [hd1, one_cnt] at hq
    generalize d.sub.elem k = el at *
    obtain ⟨etag, ed⟩ := el
    dsimp only at hr0 hdi HDR hq hec
    have HRG := Lib.hid (show wr.rangeAt b (off + k * 4) [.int .i64 etag, .slice At' ed.ts.length ct', .slice As' ed.sub.len cs', .slice Ab' ed.bl.length cb'] from hr0)
    have HDI := Lib.hid hdi
    obtain ⟨x1, hx1⟩ : ∃ x, ed.ts.length = x := ⟨_, rfl⟩
    obtain ⟨x2, hx2⟩ : ∃ x, ed.sub.len = x := ⟨_, rfl⟩
    obtain ⟨x3, hx3⟩ : ∃ x, ed.bl.length = x := ⟨_, rfl⟩
    rw [hx1, hx2, hx3] at HRG
    have hb := ba (brefl wr) (.cells #[.int .i64 etag, .slice At' x1 ct', .slice As' x2 cs', .slice Ab' x3 cb'] 79)
    have hnew := heap_alloc_new wr (.cells #[.int .i64 etag, .slice At' x1 ct', .slice As' x2 cs', .slice Ab' x3 cb'] 79)
    have hit2 := HIT.out.keep (W' := wr.alloc (.cells #[.int .i64 etag, .slice At' x1 ct', .slice As' x2 cs', .slice Ab' x3 cb'] 79)) (fun b _ hb' => hb.block b hb')
    have c3 := row_cell (v := .func (.func 39) #[] #[.pointer (some ⟨S + 1, 0, none⟩), .pointer (some ⟨S, 0, none⟩), .pointer (some ⟨S + 2, 0, none⟩)]) hit2.f 0 rfl
    have hrt := rng_tail (row_rng hnew)
    have hcall := IH.out ed q (flatF (d.sub.drop (k + 1)) ++ R) At' As' Ab' ct' cs' cb' (wr.alloc (.cells #[.int .i64 etag, .slice At' x1 ct', .slice As' x2 cs', .slice Ab' x3 cb'] 79)) (by omega) (by rw [HDR.out, List.cons_append, List.append_assoc, List.cons_append]) hit2 (hJ _ _ _ hjq (hb.mono (Nat.le_trans (by omega) (row_lt HIT.out.f)))) (hdi.keep (Kp.all hb))
    rw [hx1, hx2, hx3] at hcall
    have HCA := Lib.hid hcall
    have hdq := drop_more (A := ed :: flatF ed.sub) (R := flatF (d.sub.drop (k + 1)) ++ R) (i := q) (by rw [HDR.out, List.cons_append, List.append_assoc, List.cons_append])
    rw [List.length_cons, flatF_len, Nat.add_comm ed.sub.cnt 1] at hdq
    have HDQ := Lib.hid hdq
    have HRT := Lib.hid (show (wr.alloc (.cells #[.int .i64 etag, .slice At' x1 ct', .slice As' x2 cs', .slice Ab' x3 cb'] 79)).rangeAt wr.heap.size 1 [.slice At' x1 ct', .slice As' x2 cs', .slice Ab' x3 cb'] from hrt)
    have hkb : Kp (fun b => b < n0 ∨ (S ≤ b ∧ b ≠ S + 1)) wr (wr.alloc (.cells #[.int .i64 etag, .slice At' x1 ct', .slice As' x2 cs', .slice Ab' x3 cb'] 79)) := Kp.mono (Kp.all hb) (fun _ h _ => h)
    have HKB := Lib.hid (HKP.out.trans hkb)
    clear hkb hdq hcall hrt hit2 hnew hb hx1 hx2 hx3 hr0 hdi hec hc hd1 HDR
    gi_wp2_with ((with_reducible refine wpli_loadv rtSb (fun _ => trivial) ?_ (.tmp 21) ?_ b (off + k * 4) ?_ [.int .i64 etag, .slice At' x1 ct', .slice As' x2 cs', .slice Ab' x3 cb'] ?_ HRG.out ?_); rfl; rfl; rfl; rfl; simp only [Act.put, List.setIfInBounds_toArray, List.set_cons_succ, List.set_cons_zero])
    refine ⟨trivial, (callsIn_wide.2 HCA.out).mono ?_⟩
    clear HCA HRT HRG c3
    rintro e U (⟨rfl, hjU, hiU, hkU⟩ | ⟨rfl, hjU⟩)
    case inr =>
      gi_wp2
      refine bodyPost_ret (results_tmp rfl _ _ _) rfl ?_
      exact .inr ⟨rfl, hjU⟩
    have hI := Lib.hid hiU
    clear hiU
    gi_wp2
    go_roundw
    case rel => exact ⟨k + 1, q + (1 + ed.sub.cnt), by omega, rfl, HDQ.out, by omega, hI.out, hjU, HKB.out.trans hkU⟩
    case measure => simp only [intOf]; omega
set_option maxRecDepth 100000 in
set_option maxHeartbeats 8000000 in
/-- The iterator's function, run with a loop's rounds. -/
theorem dirs1_any (n0 bt : Nat) (o : Int) (Ad : Option Addr) (cd : Nat) (f : Fo) (w : World) (hbt : w.heap[bt]? = some (.cells (trow o Ad f.len cd) 24 (0, 0))) (hn0 : n0 ≤ w.heap.size) (hf : FoS w (· < n0) false Ad f) (hc : f.cnt ≤ 1000000) :
    SeqD Try.prog 38 #[.pointer (some ⟨bt, 0, none⟩)] encD f.cnt n0 (XD (flatF f) n0) w := by
  intro l J Jx W hW hJ hY h0
  have hlen := flatF_len f
  have IH := Lib.hid (each_any l W.heap.size n0 (flatF f) J Jx (Nat.le_trans hn0 hW.size) (by omega) hJ (fun i x W1 m hj hi hx => hY i x W1 m hj (by omega) hx))
  have hfl := f.len_cnt
  have HF := Lib.hid (hf.keep (Kp.mono (Kp.all hW) (fun _ _ h => h)))
  have hb1 := (hW.block _ (row_lt hbt)).trans hbt
  have RT := Lib.hid hb1
  have HY := Lib.hid hY
  clear hY hbt hf hb1
  have hSW : n0 ≤ W.heap.size := Nat.le_trans hn0 hW.size
  have hbl := row_lt RT.out
  have HW := Lib.hid hW
  have HJ := Lib.hid hJ
  clear hW hJ
  obtain ⟨Z, hZ⟩ : ∃ Z, Z = (W.alloc (.cells #[.func (.yield l) #[] #[]] 76)).alloc (.cells #[.int .i64 0] 3) := ⟨_, rfl⟩
  have hZs : Z.heap.size = W.heap.size + 1 + 1 := by rw [hZ]; simp
  have z0 : Z.heap[W.heap.size]? = some (.cells #[.func (.yield l) #[] #[]] 76 (0, 0)) := by
    rw [hZ, heap_alloc_old _ _ (by simp)]; exact heap_alloc_new W _
  have z1 : Z.heap[W.heap.size + 1]? = some (.cells #[.int .i64 ((0 : Nat) : Int)] 3 (0, 0)) := by
    have := heap_alloc_new (W.alloc (.cells #[.func (.yield l) #[] #[]] 76)) (.cells #[.int .i64 0] 3)
    rw [World.size_alloc] at this
    rw [hZ]; exact this
  have hbZ : Below W.heap.size W Z := by rw [hZ]; exact ba (ba (brefl W) _) _
  obtain ⟨FV, hFV⟩ : ∃ FV, FV = Value.func (.func 39) #[] #[.pointer (some ⟨W.heap.size + 1, 0, none⟩), .pointer (some ⟨W.heap.size, 0, none⟩), .pointer (some ⟨W.heap.size + 1 + 1, 0, none⟩)] := ⟨_, rfl⟩
  obtain ⟨Y, hY⟩ : ∃ Y, Y = Z.alloc (.cells #[.nilFunc] 77) := ⟨_, rfl⟩
  have y2 : Y.heap[W.heap.size + 1 + 1]? = some (.cells #[.nilFunc] 77 (0, 0)) := by
    rw [hY, ← hZs]; exact heap_alloc_new Z _
  have c7 := row_cell (v := .nilFunc) y2 0 rfl
  have f7 := frozen_of_row _ _ 0 _ _ y2
  obtain ⟨X, hX⟩ : ∃ X, X = Z.alloc (.cells #[FV] 77) := ⟨_, rfl⟩
  have hbX : Below W.heap.size W X := by rw [hX]; exact ba hbZ _
  have hIX : It l W.heap.size 0 X := ⟨by rw [hX, heap_alloc_old _ _ (by omega)]; exact z0, by rw [hX, heap_alloc_old _ _ (by omega)]; exact z1, by
    have := heap_alloc_new Z (.cells #[FV] 77)
    rw [hZs, hFV] at this
    rw [hX, hFV]
    exact this⟩
  have hst : Sem.run Try.prog (store ⟨W.heap.size + 1 + 1, 0, none⟩ FV) Y = .ok () X := by
    rw [run_store _ _ _ _ _ (by rw [hFV]; rfl), c7]
    dsimp only
    rw [f7, hX, hY]
    show Result.ok () ((Z.alloc (.cells #[.nilFunc] 77)).setCell ⟨W.heap.size + 1 + 1, 0, none⟩ FV) = _
    rw [World.setCell_alloc_at _ _ _ _ _ hZs.symm]
    rfl
  have hjX := HJ.out _ _ _ h0 hbX
  have hrX := (hbX.block _ hbl).trans RT.out
  have c8 := row_cell (v := .slice Ad f.len cd) hrX 1 rfl
  have HIX := Lib.hid hIX
  have HFX := Lib.hid (HF.out.keep (Kp.mono (Kp.all hbX) (fun _ _ h => h)))
  clear hIX hrX hbX y2 z0 z1 hZs hbZ HF RT
  subst hX hY hFV hZ
  refine (callsIn_wide (n := 3)).1 ?_
  refine callsIn_of_wp Try.func38 rfl trivial ?_ rfl
  simp only [Try.ntmps38, List.size_toArray, List.length_cons, List.length_nil, Nat.reduceAdd, Nat.reduceSub, Array.replicate_succ, Array.replicate_zero, List.push_toArray, List.append_toArray, List.nil_append, List.cons_append]
  generalize hNS : f.len = NS at *
  have HNS := Lib.hid hNS
  have hns : NS ≤ 1000000 := by omega
  clear hNS
  gi_wp2
  generalize ((W.alloc (.cells #[.func (.yield l) #[] #[]] 76)).alloc (.cells #[.int .i64 0] 3)).alloc (.cells #[.func (.func 39) #[] #[.pointer (some ⟨W.heap.size + 1, 0, none⟩), .pointer (some ⟨W.heap.size, 0, none⟩), .pointer (some ⟨W.heap.size + 1 + 1, 0, none⟩)]] 77) = X at *
  clear c7 f7 c8 hst
  gi_loopw [11] (fun s11 wr => ∃ (k q : Nat), k ≤ NS ∧ s11 = .int .i64 (k : Int) ∧ (flatF f).drop q = flatF (f.drop k) ∧ q + (f.drop k).cnt = f.cnt ∧ It l W.heap.size q wr ∧ J q wr ∧ Kp (fun b => b < n0 ∨ (W.heap.size ≤ b ∧ b ≠ W.heap.size + 1)) X wr) (fun s11 _ => NS - (intOf s11).toNat)
  case atStart => exact ⟨0, 0, by omega, rfl, rfl, by rw [Nat.zero_add]; rfl, HIX.out, hjX, Kp.refl _ _⟩
  case round =>
    obtain ⟨k, q, hk, rfl, hdr, hq, hit, hjq, hkp⟩ := hrel
    have HDR := Lib.hid hdr
    have HIT := Lib.hid hit
    have HKP := Lib.hid hkp
    clear hdr hit hkp hjX
    by_cases hkn : k < NS
    case neg =>
      obtain rfl : k = NS := by omega
      rw [Fo.drop_all (f := f) (i := k) (by rw [HNS.out]; exact Nat.le_refl _), show Fo.nil.cnt = 0 from rfl] at hq
      have he : f.cnt = q := by omega
      have HE := Lib.hid he
      clear he hq
      gi_wp2
      go_end0
      exact ⟨⟨_, rfl⟩, .inl (by rw [HE.out]; exact hjq)⟩
    have k1 : (k : Int) < (NS : Int) := by omega
    have k2 : (k : Int) < 100000000 := by omega
    have hks : k < f.len := by rw [HNS.out]; exact hkn
    have hd1 := Fo.drop_at k f hks
    obtain ⟨b, off, rfl, hpb, hbs, hc⟩ := (HFX.out.keep (HKP.out.mono fun _ _ h => .inl h)).at_ (by omega)
    obtain ⟨At', ct', As', cs', Ab', cb', hr0, hdi⟩ := hc k hks
    have hec := Fo.elem_cnt k f hks
    rw [hd1, flatF_one] at HDR
    rw [hd1, one_cnt] at hq
    generalize f.elem k = el at *
    obtain ⟨etag, ed⟩ := el
    dsimp only at hr0 hdi HDR hq hec
    have HRG := Lib.hid (show wr.rangeAt b (off + k * 3) [.slice At' ed.ts.length ct', .slice As' ed.sub.len cs', .slice Ab' ed.bl.length cb'] from hr0)
    have HDI := Lib.hid hdi
    obtain ⟨x1, hx1⟩ : ∃ x, ed.ts.length = x := ⟨_, rfl⟩
    obtain ⟨x2, hx2⟩ : ∃ x, ed.sub.len = x := ⟨_, rfl⟩
    obtain ⟨x3, hx3⟩ : ∃ x, ed.bl.length = x := ⟨_, rfl⟩
    rw [hx1, hx2, hx3] at HRG
    have hb := ba (brefl wr) (.cells #[.slice At' x1 ct', .slice As' x2 cs', .slice Ab' x3 cb'] 42)
    have hit2 := HIT.out.keep (W' := wr.alloc (.cells #[.slice At' x1 ct', .slice As' x2 cs', .slice Ab' x3 cb'] 42)) (fun b _ hb' => hb.block b hb')
    have c3 : (wr.alloc (.cells #[.slice At' x1 ct', .slice As' x2 cs', .slice Ab' x3 cb'] 42)).cell? ⟨W.heap.size + 1 + 1, 0, none⟩ = some (.func (.func 39) #[] #[.pointer (some ⟨W.heap.size + 1, 0, none⟩), .pointer (some ⟨W.heap.size, 0, none⟩), .pointer (some ⟨W.heap.size + 1 + 1, 0, none⟩)]) := row_cell hit2.f 0 rfl
    have hdl := congrArg List.length HDR.out
    rw [List.length_drop, List.length_cons, List.length_append, flatF_len, flatF_len, flatF_len] at hdl
    have hcall := IH.out (ed.sub.cnt + 1) ed q (flatF (f.drop (k + 1))) At' As' Ab' ct' cs' cb' (wr.alloc (.cells #[.slice At' x1 ct', .slice As' x2 cs', .slice Ab' x3 cb'] 42)) (by omega) (by rw [HDR.out, List.cons_append]) hit2 (HJ.out _ _ _ hjq (hb.mono (Nat.le_trans (by omega) (row_lt HIT.out.f)))) (hdi.keep (Kp.all hb))
    rw [hx1, hx2, hx3] at hcall
    have HCA := Lib.hid hcall
    have hdq := drop_more (A := ed :: flatF ed.sub) (R := flatF (f.drop (k + 1))) (i := q) (by rw [HDR.out, List.cons_append])
    rw [List.length_cons, flatF_len, Nat.add_comm ed.sub.cnt 1] at hdq
    have HDQ := Lib.hid hdq
    have hkb : Kp (fun b => b < n0 ∨ (W.heap.size ≤ b ∧ b ≠ W.heap.size + 1)) wr (wr.alloc (.cells #[.slice At' x1 ct', .slice As' x2 cs', .slice Ab' x3 cb'] 42)) := Kp.mono (Kp.all hb) (fun _ h _ => h)
    have HKB := Lib.hid (HKP.out.trans hkb)
    clear hkb hdq hcall hit2 hb hx1 hx2 hx3 hr0 hdi hec hc hd1 HDR hdl
    gi_wp2_with ((with_reducible refine wpli_loadv rtDi (fun _ => trivial) ?_ (.tmp 13) ?_ b (off + k * 3) ?_ [.slice At' x1 ct', .slice As' x2 cs', .slice Ab' x3 cb'] ?_ HRG.out ?_); rfl; rfl; rfl; rfl; simp only [Act.put, List.setIfInBounds_toArray, List.set_cons_succ, List.set_cons_zero])
    refine ⟨trivial, (callsIn_wide.2 HCA.out).mono ?_⟩
    clear HCA HRG c3
    rintro e U (⟨rfl, hjU, hiU, hkU⟩ | ⟨rfl, hjU⟩)
    case inr =>
      gi_wp2
      refine bodyPost_ret (results_none rfl _ _ _) rfl ?_
      exact ⟨⟨_, rfl⟩, .inr (by rw [← hlen]; exact hjU)⟩
    have hI := Lib.hid hiU
    clear hiU
    gi_wp2
    go_roundw
    case rel => exact ⟨k + 1, q + (1 + ed.sub.cnt), by omega, rfl, HDQ.out, by omega, hI.out, hjU, HKB.out.trans hkU⟩
    case measure => simp only [intOf]; omega
end Go.Proofs.Ytkepbobnjplpoaa
