/- The contracts of the sizes of values of entries. -/
import Derived.Test.YtkepbobnjplpoaaTy
namespace Go.Proofs.Ytkepbobnjplpoaa
open Go.RowKit
open Go.Tin
set_option linter.unusedVariables false
set_option linter.unusedSimpArgs false


/-- How many bytes values are; 0: they can't be. -/
def lgE (k c : Int) : Int := if c < 1 ∨ 65536 < c then 0 else c * szT k
def inE (k c : Int) : Bool := decide (0 < lgE k c) && decide (lgE k c ≤ 4)
def ouE (k c : Int) : Int := if 4 < lgE k c then lgE k c else 0
theorem szT_bd (k : Int) : 0 ≤ szT k ∧ szT k ≤ 8 := by
  rcases szT_cases k with ⟨h, _⟩ | ⟨_, _, h | h | h | h⟩ <;> rw [h] <;> omega
theorem lgE_bd (k c : Int) : 0 ≤ lgE k c ∧ lgE k c ≤ 1000000 := by
  unfold lgE
  split
  · omega
  · rcases szT_cases k with ⟨h, _⟩ | ⟨_, _, h | h | h | h⟩ <;> rw [h] <;> omega
theorem long_any (k c : Int) (w : World) : Calls Try.prog 44 #[.int .i64 k, .int .i64 c] w fun e w' => e = .returned (.int .i64 (lgE k c)) ∧ Below w.heap.size w w' := by
  by_cases h1 : c < 1
  · have d1 : decide (c < 1) = true := by simpa using h1
    have HK := Lib.hid (show lgE k c = 0 by unfold lgE; rw [if_pos (.inl h1)])
    clear h1
    go_enter Try.func44, Try.ntmps44
    go_wp2_with fail
    go_ret
    exact ⟨by rw [HK.out]; rfl, brefl w⟩
  by_cases h2 : 65536 < c
  · have d1 : decide (c < 1) = false := by simpa using h1
    have d2 : decide (65536 < c) = true := by simpa using h2
    have HK := Lib.hid (show lgE k c = 0 by unfold lgE; rw [if_pos (.inr h2)])
    clear h1 h2
    go_enter Try.func44, Try.ntmps44
    go_wp2_with fail
    go_ret
    exact ⟨by rw [HK.out]; rfl, brefl w⟩
  have d1 : decide (c < 1) = false := by simpa using h1
  have d2 : decide (65536 < c) = false := by simpa using h2
  have HK := Lib.hid (show lgE k c = c * szT k by unfold lgE; rw [if_neg (by omega)])
  obtain ⟨p0, p1⟩ := lgE_bd k c
  rw [HK.out] at p0 p1
  clear h1 h2
  go_enter Try.func44, Try.ntmps44
  go_wp2_with fail
  refine (size_any k _).mono ?_
  rintro e w1 ⟨rfl, hb⟩
  go_wp2_with fail
  go_ret
  exact ⟨by rw [HK.out]; rfl, hb⟩
theorem out_any (k c : Int) (w : World) : Calls Try.prog 22 #[.int .i64 k, .int .i64 c] w fun e w' => e = .returned (.int .i64 (ouE k c)) ∧ Below w.heap.size w w' := by
  go_enter Try.func22, Try.ntmps22
  go_wp2_with fail
  refine (long_any k c _).mono ?_
  rintro e w1 ⟨rfl, hb⟩
  have HI := Lib.hid (show ouE k c = (if 4 < lgE k c then lgE k c else 0) from rfl)
  generalize lgE k c = n at *
  by_cases h : 4 < n
  · have d : decide (4 < n) = true := by simpa using h
    have HI' := Lib.hid (HI.out.trans (if_pos h))
    clear h
    go_wp2_with fail
    go_ret
    exact ⟨by rw [HI'.out]; rfl, hb⟩
  · have d : decide (4 < n) = false := by simpa using h
    have HI' := Lib.hid (HI.out.trans (if_neg h))
    clear h
    go_wp2_with fail
    go_ret
    exact ⟨by rw [HI'.out]; rfl, hb⟩
theorem rlong_any (k c : Int) (w : World) : Calls Try.prog 69 #[.int .i64 k, .int .i64 c] w fun e w' => e = .returned (.int .i64 (lgE k c)) ∧ w = w' := by
  by_cases h1 : c < 1
  · have d1 : decide (c < 1) = true := by simpa using h1
    have HK := Lib.hid (show lgE k c = 0 by unfold lgE; rw [if_pos (.inl h1)])
    clear h1
    go_enter Try.func69, Try.ntmps69
    go_wp2_with fail
    go_ret
    exact ⟨by rw [HK.out]; rfl, rfl⟩
  by_cases h2 : 65536 < c
  · have d1 : decide (c < 1) = false := by simpa using h1
    have d2 : decide (65536 < c) = true := by simpa using h2
    have HK := Lib.hid (show lgE k c = 0 by unfold lgE; rw [if_pos (.inr h2)])
    clear h1 h2
    go_enter Try.func69, Try.ntmps69
    go_wp2_with fail
    go_ret
    exact ⟨by rw [HK.out]; rfl, rfl⟩
  have d1 : decide (c < 1) = false := by simpa using h1
  have d2 : decide (65536 < c) = false := by simpa using h2
  have HK := Lib.hid (show lgE k c = c * szT k by unfold lgE; rw [if_neg (by omega)])
  obtain ⟨p0, p1⟩ := lgE_bd k c
  rw [HK.out] at p0 p1
  clear h1 h2
  go_enter Try.func69, Try.ntmps69
  go_wp2_with fail
  refine (rsize_any k _).mono ?_
  rintro e w1 ⟨rfl, rfl⟩
  go_wp2_with fail
  go_ret
  exact ⟨by rw [HK.out]; rfl, rfl⟩
theorem rout_any (k c : Int) (w : World) : Calls Try.prog 57 #[.int .i64 k, .int .i64 c] w fun e w' => e = .returned (.int .i64 (ouE k c)) ∧ w = w' := by
  go_enter Try.func57, Try.ntmps57
  go_wp2_with fail
  refine (rlong_any k c _).mono ?_
  rintro e w1 ⟨rfl, rfl⟩
  have HI := Lib.hid (show ouE k c = (if 4 < lgE k c then lgE k c else 0) from rfl)
  have HL := Lib.hid (fun W => rlong_any k c W)
  generalize lgE k c = n at *
  by_cases h : 4 < n
  · have d : decide (4 < n) = true := by simpa using h
    have HI' := Lib.hid (HI.out.trans (if_pos h))
    clear h
    go_wp2_with fail
    refine (HL.out _).mono ?_
    rintro e w1 ⟨rfl, rfl⟩
    go_wp2_with fail
    go_ret
    exact ⟨by rw [HI'.out]; rfl, rfl⟩
  · have d : decide (4 < n) = false := by simpa using h
    have HI' := Lib.hid (HI.out.trans (if_neg h))
    clear h
    go_wp2_with fail
    go_ret
    exact ⟨by rw [HI'.out]; rfl, rfl⟩
end Go.Proofs.Ytkepbobnjplpoaa
