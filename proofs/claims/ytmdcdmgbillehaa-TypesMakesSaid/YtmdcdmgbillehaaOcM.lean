/- The plain law of numbers in bytes: what a number's bytes are, what bytes say, signed numbers, turned rows. No program in sight. -/
import Derived.Test.YtmdcdmgbillehaaByt
import Derived.Laws.BitsAllLaws
namespace Go.Tin
open Go.RowKit
set_option linter.unusedSimpArgs false
set_option linter.unusedVariables false

/-- One more than the greatest number of a size. -/
def topI (s : Int) : Int := if s = 1 then 256 else if s = 2 then 65536 else if s = 4 then 4294967296 else 0
def szB (s : Int) : Bool := decide (s = 1) || (decide (s = 2) || decide (s = 4))
def orB (o : Int) : Bool := decide (o = 1) || decide (o = 2)
/-- May a size and an order be? -/
def mayO (s o : Int) : Bool := szB s && orB o
theorem szB_t {s : Int} (h : szB s = true) : s = 1 ∨ s = 2 ∨ s = 4 := by unfold szB at h; simpa using h
theorem szB_f {s : Int} (h : szB s = false) : s ≠ 1 ∧ s ≠ 2 ∧ s ≠ 4 := by unfold szB at h; simpa using h
theorem orB_t {o : Int} (h : orB o = true) : o = 1 ∨ o = 2 := by unfold orB at h; simpa using h
theorem orB_f {o : Int} (h : orB o = false) : o ≠ 1 ∧ o ≠ 2 := by unfold orB at h; simpa using h
theorem topI_pos {s : Int} (h : szB s = true) : 256 ≤ topI s ∧ topI s ≤ 4294967296 := by
  rcases szB_t h with rfl | rfl | rfl <;> decide
theorem topI_no {s : Int} (h : szB s = false) : topI s = 0 := by
  obtain ⟨h1, h2, h4⟩ := szB_f h
  unfold topI
  rw [if_neg h1, if_neg h2, if_neg h4]

/-- The number of bytes, the greatest one first. -/
def be (l : List Int) : Int := l.foldl (fun n x => 256 * n + x) 0
theorem be_snoc (l : List Int) (x : Int) : be (l ++ [x]) = 256 * be l + x := by simp [be]
/-- Bytes in an order. -/
def ordL (o : Int) (l : List Int) : List Int := if o = 1 then l.reverse else l
/-- Is there a number of that size? -/
def getB (n : Nat) (at_ s o : Int) : Bool := mayO s o && (decide (0 ≤ at_) && decide (at_ ≤ (n : Int) - s))
def getN (l : List Int) (at_ s o : Int) : Int := if getB l.length at_ s o = true then be (ordL o ((l.drop at_.toNat).take s.toNat)) else 0
/-- A number's bytes, the greatest one first. -/
def bytesOf : Nat → Int → List Int
  | 0, _ => []
  | k + 1, n => bytesOf k (n / 256) ++ [n % 256]
theorem bytesOf_len : ∀ (k : Nat) (n : Int), (bytesOf k n).length = k
  | 0, _ => rfl
  | k + 1, n => by rw [bytesOf, List.length_append, bytesOf_len k]; rfl
def putB (n s o : Int) : Bool := mayO s o && (decide (0 ≤ n) && decide (n < topI s))
def putL (n s o : Int) : List Int := if putB n s o = true then ordL o (bytesOf s.toNat n) else []
def sgB (n s : Int) : Bool := decide (0 ≤ n) && decide (n < topI s)
def sgN (n s : Int) : Int := if sgB n s = true then (if topI s ≤ 2 * n then n - topI s else n) else 0
def plB (n s : Int) : Bool := decide (-(topI s / 2) ≤ n) && decide (n < topI s / 2)
def plN (n s : Int) : Int := if plB n s = true then (if n < 0 then n + topI s else n) else 0
def addB (a b : Int) : Bool := decide (0 ≤ a) && decide (0 ≤ b) && decide (a + b ≤ 4294967295)
def addN (a b : Int) : Int := if addB a b = true then a + b else 0
def roomB (a l e : Int) : Bool := decide (0 ≤ a) && (decide (0 ≤ l) && (decide (a ≤ e) && decide (l ≤ e - a)))
def evenN (n : Int) : Int := n + n % 2

/-- May bytes be turned so? -/
def turnB (s o : Int) : Bool := (szB s || decide (s = 8)) && orB o
/-- Which byte stands at a place behind the turn. -/
def turnI (n s : Nat) (o : Int) (i : Nat) : Nat := if o = 1 ∧ i < n - n % s then i - i % s + (s - 1 - i % s) else i
def turnL (l : List Int) (s o : Int) : List Int := if turnB s o = true then (List.range l.length).map (fun i => nth l (turnI l.length s.toNat o i)) else []

theorem i64_or_byte (n x : Int) (h0 : 0 ≤ n) (h1 : n < 4294967296) (x0 : 0 ≤ x) (x1 : x < 256) : bits .or .i64 (n * 256) x = n * 256 + x := by
  obtain ⟨a, rfl⟩ := Int.eq_ofNat_of_zero_le h0
  obtain ⟨b, rfl⟩ := Int.eq_ofNat_of_zero_le x0
  have ha : a < 4294967296 := by omega
  have hb : b < 256 := by omega
  have e1 : ((a : Int) * 256) = ((a * 256 : Nat) : Int) := by omega
  rw [e1]
  have h1 : (BitVec.ofInt 64 ((a * 256 : Nat) : Int)).toNat = a * 256 := by
    rw [BitVec.ofInt_natCast, BitVec.toNat_ofNat]; exact Nat.mod_eq_of_lt (by omega)
  have h2 : (BitVec.ofInt 64 (b : Int)).toNat = b := by
    rw [BitVec.ofInt_natCast, BitVec.toNat_ofNat]; exact Nat.mod_eq_of_lt (by omega)
  show IntKind.i64.wrap ((BitVec.ofInt 64 ((a * 256 : Nat) : Int) ||| BitVec.ofInt 64 (b : Int)).toNat : Int) = _
  rw [BitVec.toNat_or, h1, h2, nat_join 8 (a * 256) b (by omega) (by omega), wrap_i64]
  have : ((a * 256 + b : Nat) : Int) % 18446744073709551616 = ((a * 256 + b : Nat) : Int) := by omega
  rw [this, if_neg (by omega)]
  omega

theorem be_aux : ∀ (l : List Int) (m : Nat) (n : Int), 0 ≤ n → n < 256 ^ m → (∀ x ∈ l, 0 ≤ x ∧ x < 256) → 0 ≤ l.foldl (fun n x => 256 * n + x) n ∧ l.foldl (fun n x => 256 * n + x) n < 256 ^ (m + l.length)
  | [], _, _, h0, h1, _ => ⟨h0, h1⟩
  | x :: l, m, n, h0, h1, h => by
    obtain ⟨x0, x1⟩ := h x (by simp)
    have e : (256 : Int) ^ (m + 1) = 256 ^ m * 256 := Int.pow_succ ..
    have := be_aux l (m + 1) (256 * n + x) (by omega) (by omega) (fun y hy => h y (by simp [hy]))
    rw [List.foldl_cons, List.length_cons, show m + (l.length + 1) = m + 1 + l.length by omega]
    exact this
theorem be_bd (l : List Int) (h : ∀ x ∈ l, 0 ≤ x ∧ x < 256) : 0 ≤ be l ∧ be l < 256 ^ l.length := by
  have := be_aux l 0 0 (by omega) (by decide) h
  simpa [be] using this
end Go.Tin
