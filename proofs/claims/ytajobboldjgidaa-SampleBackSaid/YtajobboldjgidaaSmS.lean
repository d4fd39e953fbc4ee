/- Bytes turned; a picture's planes: what is told of a place; a plane brought down. -/
import Derived.Test.YtajobboldjgidaaSmO
import Derived.Test.YtajobboldjgidaaRaB
namespace Go.Proofs.Ytajobboldjgidaa
open Go.RowKit
open Go.Tin
set_option linter.unusedVariables false
set_option linter.unusedSimpArgs false


/-- Three bytes, turned. -/
def tri (p : Bool) (a b c : Int) : List Int := if p then [paiR a b c, paiG a b c, paiB a b c] else [lumY a b c, lumB a b c, lumR a b c]
/-- The first k threes of bytes, turned. -/
def threes (p : Bool) (l : List Int) : Nat → List Int
  | 0 => []
  | k + 1 => threes p l k ++ tri p (l.getD (3 * k) 0) (l.getD (3 * k + 1) 0) (l.getD (3 * k + 2) 0)
def allOf (p : Bool) (l : List Int) : List Int := if l.length % 3 = 0 then threes p l (l.length / 3) else []
theorem tri_len (p : Bool) (a b c : Int) : (tri p a b c).length = 3 := by cases p <;> rfl
theorem threes_snoc (p : Bool) (l : List Int) (k : Nat) : threes p l (k + 1) = threes p l k ++ tri p (l.getD (3 * k) 0) (l.getD (3 * k + 1) 0) (l.getD (3 * k + 2) 0) := rfl
theorem threes_len (p : Bool) (l : List Int) (k : Nat) : (threes p l k).length = 3 * k := by
  induction k with
  | zero => rfl
  | succ k ih => rw [threes, List.length_append, ih, tri_len]; omega
theorem tri_bd (p : Bool) (a b c : Int) : ∀ n ∈ tri p a b c, 0 ≤ n ∧ n ≤ 255 := by
  intro n hn
  cases p <;> simp [tri] at hn <;> rcases hn with rfl | rfl | rfl <;> exact clamp_bd _

def AllPost (w : World) (l : List Int) (e : Ending) (w' : World) : Prop := ∃ v, e = .returned v ∧ Own .u8 5 w' w.heap.size v l ∧ Below w.heap.size w w'

theorem all_luma (A : Option Addr) (c : Nat) (l : List Int) (w : World) (hr : Sl .u8 w A l) (hc : l.length ≤ c) (hl : l.length ≤ 1000000) (hb : ∀ i, 0 ≤ l.getD i 0 ∧ l.getD i 0 ≤ 255) (h3 : l.length % 3 = 0) :
    Calls Try.prog 47 #[.slice A l.length c, .bool false] w (AllPost w (threes false l (l.length / 3))) := by
  have hn3 : ((l.length : Int) % 3 != 0) = false := by simp; omega
  have H3 := Lib.hid h3
  clear h3
  go_enter Try.func47, Try.ntmps47
  go_wp2_with (at_make; go_loud (refine Tin.wpl_make0 bt5 _ rfl _ _ rfl w.heap.size .i64 .i64 _ l.length rfl rfl rfl (by omega) (by unfold maxLen; omega) (Nat.le_refl _) ?_); intro v w1 hown hg)
  have hb1 : Below w.heap.size w w1 := (Below.refl _ _).grown hg (Nat.le_refl _) (fun k h => by cases h)
  clear hg
  go_loopw [0, 6, 7, 8, 9] (fun s out _ _ _ wr => ∃ (k : Nat) (A' : Option Addr) (c' : Nat), 3 * k ≤ l.length ∧ s = .slice A' (l.length - 3 * k) c' ∧ l.length - 3 * k ≤ c' ∧ Sl .u8 w A' (l.drop (3 * k)) ∧ Own .u8 5 wr w.heap.size out (threes false l k) ∧ Below w.heap.size w wr) (fun s _ _ _ _ _ => match s with | .slice _ m _ => m | _ => 0)
  case atStart => exact ⟨0, A, c, by omega, rfl, hc, by simpa using hr, hown, hb1⟩
  case round =>
    obtain ⟨k, A', c', hk, rfl, hc', hsl, hown, hbel⟩ := hrel
    by_cases hlt : 3 * k < l.length
    · have hm3 : 3 * k + 3 ≤ l.length := by have := H3.out; omega
      obtain ⟨b, off, rfl, hblt, hcell⟩ := (hsl.keep hbel).at_ (by rw [List.length_drop]; omega)
      have c0 : wr.cell? ⟨b, off, none⟩ = some (.int .u8 (l.getD (3 * k) 0)) := by
        have h := hcell 0 (by rw [List.length_drop]; omega)
        simpa [List.getD_eq_getElem?_getD] using h
      have c1 : wr.cell? ⟨b, off + 1, none⟩ = some (.int .u8 (l.getD (3 * k + 1) 0)) := by
        have h := hcell 1 (by rw [List.length_drop]; omega)
        simpa [List.getD_eq_getElem?_getD] using h
      have c2 : wr.cell? ⟨b, off + 2, none⟩ = some (.int .u8 (l.getD (3 * k + 2) 0)) := by
        have h := hcell 2 (by rw [List.length_drop]; omega)
        simpa [List.getD_eq_getElem?_getD] using h
      have b0 := hb (3 * k)
      have b1 := hb (3 * k + 1)
      have b2 := hb (3 * k + 2)
      have k0 := cell_regrown c0
      have k1 := cell_regrown c1
      have k2 := cell_regrown c2
      have hT : threes false l (k + 1) = threes false l k ++ [lumY (l.getD (3 * k) 0) (l.getD (3 * k + 1) 0) (l.getD (3 * k + 2) 0), lumB (l.getD (3 * k) 0) (l.getD (3 * k + 1) 0) (l.getD (3 * k + 2) 0), lumR (l.getD (3 * k) 0) (l.getD (3 * k + 1) 0) (l.getD (3 * k + 2) 0)] := rfl
      have HT := Lib.hid hT
      have hC : Sl .u8 w (some ⟨b, off + 3, none⟩) (l.drop (3 * (k + 1))) := by
        have h := hsl.cut 3
        rw [List.drop_drop] at h
        simpa [add_none, Nat.mul_add] using h
      have HC := Lib.hid hC
      clear hC
      clear hT c0 c1 c2 hcell hb
      generalize l.getD (3 * k) 0 = x0 at *
      generalize l.getD (3 * k + 1) 0 = x1 at *
      generalize l.getD (3 * k + 2) 0 = x2 at *
      have bd := lum_bd x0 x1 x2
      go_wp2_with fail
      refine wp_region_quiet_below (by kernel_rfl) (by kernel_rfl) ?_
      repeat (go_big_quiet_step ((go_at_call 62; exact Calls.regrown_of (luma_any _ _ _ _))))
      refine wpQuiet_nil ?_
      intro W hw'
      have hb2 : Below wr.heap.size wr W := by
        obtain ⟨p, rfl⟩ := hw'
        exact below_regrown wr p.d p.os
      clear hw' k0 k1 k2
      have hown1 : Own .u8 5 W w.heap.size u6 (threes false l k) := hown.keep hb2
      have hbel1 : Below w.heap.size w W := hbel.trans (hb2.mono hbel.size)
      by_cases hc3 : c' = 3
      · subst hc3
        go_wp2_with (at_builtin; go_loud (refine Tin.wpl_app bt5 _ rfl _ _ rfl w.heap.size u6 (threes false l k) rfl (hown1.alloc _) (some ⟨W.heap.size, 0, none⟩) 3 3 [lumY x0 x1 x2, lumB x0 x1 x2, lumR x0 x1 x2] rfl (Sl.new_ _ _ _ _ rfl) rfl (by rw [threes_len]; simp; omega) (by rw [threes_len]; simp; omega) (by simp; have := hbel1.size; omega) ?_); intro v2 w2 hown2 hg2 _)
        go_roundw
        case rel => exact ⟨k + 1, some ⟨b, off, none⟩, 0, by omega, by rw [show l.length - 3 * (k + 1) = 0 from by omega], by omega, .inl (List.drop_eq_nil_of_le (by omega)), by rw [HT.out]; exact hown2, Own.grown (hown1.alloc _) (hbel1.alloc hbel1.size _) (by simp; have := hbel1.size; omega) hg2⟩
        case measure => show 0 < l.length - 3 * k; omega
      · go_wp2_with (at_builtin; go_loud (refine Tin.wpl_app bt5 _ rfl _ _ rfl w.heap.size u6 (threes false l k) rfl (hown1.alloc _) (some ⟨W.heap.size, 0, none⟩) 3 3 [lumY x0 x1 x2, lumB x0 x1 x2, lumR x0 x1 x2] rfl (Sl.new_ _ _ _ _ rfl) rfl (by rw [threes_len]; simp; omega) (by rw [threes_len]; simp; omega) (by simp; have := hbel1.size; omega) ?_); intro v2 w2 hown2 hg2 _)
        go_roundw
        case rel => exact ⟨k + 1, some ⟨b, off + 3, none⟩, c' - 3, by omega, by rw [show l.length - 3 * (k + 1) = l.length - 3 * k - 3 from by omega], by omega, HC.out, by rw [HT.out]; exact hown2, Own.grown (hown1.alloc _) (hbel1.alloc hbel1.size _) (by simp; have := hbel1.size; omega) hg2⟩
        case measure => show l.length - 3 * k - 3 < l.length - 3 * k; omega
    · have hE : 3 * k = l.length := by omega
      have hk' : l.length / 3 = k := by omega
      have HE := Lib.hid hk'
      clear hE hk' hb
      go_wp2_with fail
      go_ret
      exact ⟨_, rfl, by rw [HE.out]; exact hown, hbel⟩

/-- Numbers of bytes. -/
def Byts (l : List Int) : Prop := ∀ j, 0 ≤ nth l j ∧ nth l j < 256
theorem byts_of {l : List Int} (h : ∀ z ∈ l, (Lit.int .u8 z).wf = true) : Byts l := by
  intro j
  unfold nth
  rw [List.getD_eq_getElem?_getD]
  by_cases hj : j < l.length
  · have := Go.bounds_u8 (h l[j] (List.getElem_mem hj))
    simp [hj]; omega
  · simp [List.getElem?_eq_none (by omega : l.length ≤ j)]
theorem mayB_t {W H : Int} {n : Nat} (h : mayB W H n = true) : (1 ≤ W ∧ W ≤ 4096) ∧ (1 ≤ H ∧ H ≤ 4096) ∧ (n : Int) = 3 * W * H := by
  unfold mayB at h
  rw [Bool.and_eq_true, Bool.and_eq_true] at h
  exact ⟨okS_t h.1.1, okS_t h.1.2, by simpa using h.2⟩
/-- The number of a place's colour. -/
def lumC (l : List Int) (k c : Nat) : Int := nth (tri false (l.getD (3 * k) 0) (l.getD (3 * k + 1) 0) (l.getD (3 * k + 2) 0)) c
theorem nth_app_ge {l m : List Int} {i : Nat} (h : l.length ≤ i) : nth (l ++ m) i = nth m (i - l.length) := by
  unfold nth
  rw [List.getD_eq_getElem?_getD, List.getElem?_append_right h, List.getD_eq_getElem?_getD]
theorem threes_nth {l : List Int} {k c : Nat} (hc : c < 3) : ∀ n, k < n → nth (threes false l n) (3 * k + c) = lumC l k c
  | 0, h => by omega
  | n + 1, h => by
    rw [threes]
    by_cases hk : k < n
    · rw [nth_app_lt (by rw [threes_len]; omega)]
      exact threes_nth hc n hk
    · obtain rfl : k = n := by omega
      rw [nth_app_ge (by rw [threes_len]; omega), threes_len, show 3 * k + c - 3 * k = c by omega]
      rfl
theorem lumC_bd (l : List Int) (k c : Nat) : 0 ≤ lumC l k c ∧ lumC l k c ≤ 255 := by
  unfold lumC
  generalize l.getD (3 * k) 0 = a
  generalize l.getD (3 * k + 1) 0 = b
  generalize l.getD (3 * k + 2) 0 = d
  by_cases hp : c < (tri false a b d).length
  · exact tri_bd false a b d _ (by unfold nth; rw [List.getD_eq_getElem?_getD, List.getElem?_eq_getElem hp]; exact List.getElem_mem hp)
  · unfold nth; rw [List.getD_eq_getElem?_getD, List.getElem?_eq_none (by omega)]; decide
/-- What a plane of a picture has at a place. -/
def pcV (l : List Int) (wd c x y : Nat) : Int := lumC l (y * wd + x) c
set_option maxRecDepth 100000 in
set_option maxHeartbeats 2000000 in
theorem planes1_any (l : List Int) (wd ht c x y : Nat) (A B : Option Addr) (ca cb : Nat) (H : Int) (g9 g2 g11 nb : Nat) (w : World) (hl : l.length = 3 * (wd * ht)) (h9 : w.cell? ⟨g9, 0, none⟩ = some (.slice A (3 * (wd * ht)) ca)) (h2 : w.cell? ⟨g2, 0, none⟩ = some (.int .i64 (wd : Int))) (h11 : w.cell? ⟨g11, 0, none⟩ = some (.int .i64 (c : Int)))
    (hs : Sl .u8 w A (threes false l (wd * ht))) (hw : wd ≤ 4096) (hh : ht ≤ 4096) (hx : x < wd) (hy : y < ht) (hc : c < 3) :
    Calls Try.prog 48 #[.int .i64 (x : Int), .int .i64 (y : Int), .pointer (some ⟨g9, 0, none⟩), .pointer (some ⟨g2, 0, none⟩), .pointer (some ⟨g11, 0, none⟩)] w fun e w' => e = .returned (.int .i64 (pcV l wd c x y)) ∧ Below w.heap.size w w' := by
  have m1 : y * wd ≤ 4096 * 4096 := Nat.mul_le_mul (by omega) hw
  have e1 : (y : Int) * (wd : Int) = ((y * wd : Nat) : Int) := (Int.natCast_mul y wd).symm
  have m2 : 0 ≤ (y : Int) * (wd : Int) := by rw [e1]; omega
  have m3 : (y : Int) * (wd : Int) ≤ 16777216 := by rw [e1]; omega
  have hk : y * wd + x < wd * ht := by
    have h1 : (y + 1) * wd ≤ ht * wd := Nat.mul_le_mul_right wd (by omega)
    rw [Nat.succ_mul, Nat.mul_comm ht wd] at h1
    omega
  obtain ⟨P, hP⟩ : ∃ P, 3 * (y * wd + x) + c = P := ⟨_, rfl⟩
  have eP : 3 * ((y : Int) * (wd : Int) + (x : Int)) + (c : Int) = (P : Int) := by rw [e1]; omega
  have hPl : P < 3 * (wd * ht) := by omega
  have HE := Lib.hid (show pcV l wd c x y = nth (threes false l (wd * ht)) P by rw [← hP]; exact (threes_nth hc _ hk).symm)
  obtain ⟨b, off, rfl, hlt, hcell⟩ := hs.at_ (by rw [threes_len]; omega)
  have q0 : w.cell? ⟨b, off + P, none⟩ = some (.int .u8 (nth (threes false l (wd * ht)) P)) := hcell P (by rw [threes_len]; exact hPl)
  obtain ⟨b0, b1⟩ := lumC_bd l (y * wd + x) c
  rw [show lumC l (y * wd + x) c = nth (threes false l (wd * ht)) P by rw [← HE.out]; rfl] at b0 b1
  generalize nth (threes false l (wd * ht)) P = z at *
  obtain ⟨N, hN⟩ : ∃ N, 3 * (wd * ht) = N := ⟨_, rfl⟩
  rw [hN] at h9 hPl
  have iP : (P : Int) < (N : Int) := by omega
  clear hcell hs hl hP e1 m1 hk hN
  go_enter Try.func48, Try.ntmps48
  go_wp2_with fail
  go_ret
  exact ⟨ret_int (by rw [HE.out]), brefl w⟩
/-- A sum. -/
def lsum (f : Nat → Int) : Nat → Int
  | 0 => 0
  | n + 1 => lsum f n + f n
theorem lsum_bd {f : Nat → Int} (h : ∀ i, 0 ≤ f i ∧ f i ≤ 255) : ∀ n, 0 ≤ lsum f n ∧ lsum f n ≤ 255 * n
  | 0 => ⟨Int.le_refl _, by simp [lsum]⟩
  | n + 1 => by
    obtain ⟨h1, h2⟩ := lsum_bd h n
    obtain ⟨h3, h4⟩ := h n
    unfold lsum
    constructor
    · omega
    · push_cast; omega
theorem lsum_bd2 {f : Nat → Int} (m : Nat) (h : ∀ i, 0 ≤ f i ∧ f i ≤ 255 * m) : ∀ n, 0 ≤ lsum f n ∧ lsum f n ≤ 255 * m * n
  | 0 => ⟨Int.le_refl _, by simp [lsum]⟩
  | n + 1 => by
    obtain ⟨h1, h2⟩ := lsum_bd2 m h n
    obtain ⟨h3, h4⟩ := h n
    unfold lsum
    constructor
    · omega
    · rw [Int.natCast_add, Int.mul_add]; simp; omega
theorem rtPl : RT Try.prog 71 3 := RT.of Try.underlying71 rfl (by kernel_rfl)
/-- The sum of a box. -/
def boxS (W H : Int) (v : List Int) (h s x y : Nat) : Int := lsum (fun i => lsum (fun k => nearV W H v ((h : Int) * (x : Int) + (k : Int)) ((s : Int) * (y : Int) + (i : Int))) h) s
def dnV (W H : Int) (v : List Int) (h s : Nat) (x y : Nat) : Int := (2 * boxS W H v h s x y + (h : Int) * (s : Int)) / (2 * (h : Int) * (s : Int))
set_option maxRecDepth 100000 in
set_option maxHeartbeats 4000000 in
theorem brought1_any (W H : Int) (v : List Int) (h s x y : Nat) (A : Option Addr) (c : Nat) (g5 g4 g3 : Nat) (w : World) (h5 : w.cell? ⟨g5, 0, none⟩ = some (.int .i64 (s : Int))) (h4 : w.cell? ⟨g4, 0, none⟩ = some (.int .i64 (h : Int))) (h3 : w.heap[g3]? = some (.cells (plrow W H A v.length c) 71 (0, 0)))
    (hs : Sl .i64 w A v) (hm : mayP W H v = true) (hh : 1 ≤ h ∧ h ≤ 2) (hv : 1 ≤ s ∧ s ≤ 2) (hx : x ≤ 4096) (hy : y ≤ 4096) :
    Calls Try.prog 63 #[.int .i64 (x : Int), .int .i64 (y : Int), .pointer (some ⟨g5, 0, none⟩), .pointer (some ⟨g4, 0, none⟩), .pointer (some ⟨g3, 0, none⟩)] w fun e w' => e = .returned (.int .i64 (dnV W H v h s x y)) ∧ Below w.heap.size w w' := by
  have HNB := Lib.hid (fun (a b : Int) => near_bd (W := W) (H := H) (v := v) (mayP_all hm) a b)
  have HMM := Lib.hid hm
  have HS := Lib.hid hs
  have H5 := Lib.hid h5
  have H4 := Lib.hid h4
  have H3 := Lib.hid h3
  obtain ⟨a0, a1⟩ := hh
  obtain ⟨s0, s1⟩ := hv
  have eh : (h : Int) = 1 ∨ (h : Int) = 2 := by omega
  have es : (s : Int) = 1 ∨ (s : Int) = 2 := by omega
  have hx2 : 0 ≤ (h : Int) * (x : Int) ∧ (h : Int) * (x : Int) ≤ 8192 := by rcases eh with e | e <;> rw [e] <;> omega
  have hy2 : 0 ≤ (s : Int) * (y : Int) ∧ (s : Int) * (y : Int) ≤ 8192 := by rcases es with e | e <;> rw [e] <;> omega
  have hhs : 1 ≤ (h : Int) * (s : Int) ∧ (h : Int) * (s : Int) ≤ 4 := by rcases eh with e | e <;> rcases es with e' | e' <;> rw [e, e'] <;> decide
  have h2hs : 2 * (h : Int) * (s : Int) = 2 * ((h : Int) * (s : Int)) := Int.mul_assoc _ _ _
  have h2a : 2 ≤ 2 * (h : Int) * (s : Int) := by omega
  have h2b : 2 * (h : Int) * (s : Int) ≤ 8 := by omega
  obtain ⟨x2a, x2b⟩ := hx2
  obtain ⟨y2a, y2b⟩ := hy2
  obtain ⟨hsa, hsb⟩ := hhs
  clear hm hs h5 h4 h3 eh es
  clear h2hs
  obtain ⟨fi, hfi⟩ : ∃ fi : Nat → Nat → Int, fi = fun (i k : Nat) => nearV W H v ((h : Int) * (x : Int) + (k : Int)) ((s : Int) * (y : Int) + (i : Int)) := ⟨_, rfl⟩
  have HFI := Lib.hid (fun (i k : Nat) => show fi i k = nearV W H v ((h : Int) * (x : Int) + (k : Int)) ((s : Int) * (y : Int) + (i : Int)) from by rw [hfi])
  have HBX := Lib.hid (show boxS W H v h s x y = lsum (fun i => lsum (fi i) h) s by rw [hfi]; rfl)
  have HFB := Lib.hid (fun i k => show 0 ≤ fi i k ∧ fi i k ≤ 255 by rw [hfi]; exact HNB.out _ _)
  have HSB := Lib.hid (fun i => lsum_bd (HFB.out i))
  have HDN := Lib.hid (show dnV W H v h s x y = (2 * boxS W H v h s x y + (h : Int) * (s : Int)) / (2 * (h : Int) * (s : Int)) from rfl)
  clear hfi
  have k5 := H5.out
  go_enter Try.func63, Try.ntmps63
  go_wp2_with fail
  clear k5
  go_loopw [12, 8] (fun s12 s8 wr => ∃ (i : Nat), i ≤ s ∧ s12 = .int .i64 (i : Int) ∧ s8 = .int .i64 (lsum (fun i => lsum (fi i) h) i) ∧ Below w.heap.size w wr) (fun s12 _ _ => s - (intOf s12).toNat)
  case atStart => exact ⟨0, by omega, rfl, rfl, Below.refl _ _⟩
  case round =>
    obtain ⟨i, hi, rfl, rfl, hb⟩ := hrel
    have HB := Lib.hid hb
    clear hb
    have HS0 := Lib.hid (lsum_bd2 2 (fun i => by have h1 := HSB.out i h; exact ⟨h1.1, by omega⟩) i (f := fun i => lsum (fi i) h))
    have k5 := (HB.out.cell (p := ⟨g5, 0, none⟩) (World.block_lt_of_cell? w _ H5.out)).trans H5.out
    have k4 := (HB.out.cell (p := ⟨g4, 0, none⟩) (World.block_lt_of_cell? w _ H4.out)).trans H4.out
    have hs0 := HS0.out
    by_cases his : i < s
    case neg =>
      obtain rfl : i = s := by omega
      rw [← HBX.out] at hs0 ⊢
      have HV := Lib.hid HDN.out
      generalize boxS W H v h i x y = S at *
      have hs2 : S ≤ 1020 := by omega
      have d0 : 0 ≤ (2 * S + (h : Int) * (i : Int)) / (2 * (h : Int) * (i : Int)) := Int.ediv_nonneg (by omega) (by omega)
      have d1 : (2 * S + (h : Int) * (i : Int)) / (2 * (h : Int) * (i : Int)) ≤ 2 * S + (h : Int) * (i : Int) := Int.ediv_le_self _ (by omega)
      go_wp2_with fail
      go_ret
      exact ⟨ret_int (by rw [HV.out]), HB.out⟩
    have i1 : (i : Int) < (s : Int) := by omega
    have HNX := Lib.hid (show lsum (fun i => lsum (fi i) h) (i + 1) = lsum (fun i => lsum (fi i) h) i + lsum (fi i) h from rfl)
    generalize lsum (fun i => lsum (fi i) h) i = S0 at *
    have hS0 : 0 ≤ S0 ∧ S0 ≤ 510 := by omega
    clear hs0 HS0
    go_wp2_with fail
    clear k5 k4
    go_loopw [16, 8] (fun s16 s8 wr => ∃ (k : Nat), k ≤ h ∧ s16 = .int .i64 (k : Int) ∧ s8 = .int .i64 (S0 + lsum (fi i) k) ∧ Below w.heap.size w wr) (fun s16 _ _ => h - (intOf s16).toNat)
    case atStart => exact ⟨0, by omega, rfl, by simp [lsum], HB.out⟩
    case round =>
      clear HB
      obtain ⟨k, hk, rfl, rfl, hb⟩ := hrel
      have HB := Lib.hid hb
      clear hb
      have hs1 := HSB.out i k
      by_cases hkh : k < h
      case neg =>
        obtain rfl : k = h := by omega
        go_wp2_with fail
        exact ⟨⟨i + 1, by omega, rfl, by rw [HNX.out], HB.out⟩, by simp only [intOf]; omega⟩
      have i2 : (k : Int) < (h : Int) := by omega
      have k5 := (HB.out.cell (p := ⟨g5, 0, none⟩) (World.block_lt_of_cell? w _ H5.out)).trans H5.out
      have k4 := (HB.out.cell (p := ⟨g4, 0, none⟩) (World.block_lt_of_cell? w _ H4.out)).trans H4.out
      have R3 := Lib.hid ((HB.out.block _ (row_lt H3.out)).trans H3.out)
      have HL := Lib.hid (show lsum (fi i) (k + 1) = lsum (fi i) k + fi i k from rfl)
      have hf0 := HFB.out i k
      go_wp2_with ((with_reducible refine wpl_load_row rtPl ?_ (.tmp 4) ?_ g3 ?_ 71 (plrow W H A v.length c) ?_ R3.out ?_); rfl; rfl; rfl; rfl; simp only [Act.put, List.setIfInBounds_toArray, List.set_cons_succ, List.set_cons_zero])
      refine (near_any W H _ _ A c v _ (HS.out.keep HB.out) (mayP_W HMM.out) (mayP_H HMM.out) (mayP_n HMM.out) (by omega) (by omega)).mono ?_
      rintro e w5 ⟨rfl, hb5⟩
      rw [← HFI.out i k]
      have HB5 := Lib.hid (HB.out.trans (hb5.mono HB.out.size))
      clear hb5
      generalize fi i k = z at *
      generalize lsum (fi i) k = S1 at *
      go_wp2_with fail
      exact ⟨⟨k + 1, by omega, rfl, by rw [HL.out, Int.add_assoc], HB5.out⟩, by simp only [intOf]; omega⟩
end Go.Proofs.Ytajobboldjgidaa
