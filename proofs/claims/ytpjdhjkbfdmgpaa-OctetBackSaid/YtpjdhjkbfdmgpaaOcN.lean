/- The walk of awake: the chapter's examples. -/
import Derived.Test.YtpjdhjkbfdmgpaaOcG
import Derived.Test.YtpjdhjkbfdmgpaaOcH
import Derived.Test.YtpjdhjkbfdmgpaaOcI
import Derived.Test.YtpjdhjkbfdmgpaaOcJ
import Derived.Test.YtpjdhjkbfdmgpaaOcK
import Derived.Test.YtpjdhjkbfdmgpaaOcL
namespace Go.Proofs.Ytpjdhjkbfdmgpaa
open Go.RowKit
open Go.Tin
set_option linter.unusedVariables false
set_option linter.unusedSimpArgs false


theorem sl_new (w : World) (l : List Int) (cs : Array Value) (h : cs.toList = l.map (Value.int .u8)) : Sl .u8 (w.alloc (.cells cs 5)) (some ⟨w.heap.size, 0, none⟩) l := Sl.new_ w _ _ _ h
theorem byts_of_all {l : List Int} (h : l.all (fun x => decide (0 ≤ x) && decide (x < 256)) = true) : Byts l := by
  intro x hx
  have := List.all_eq_true.1 h x hx
  simpa using this

set_option maxRecDepth 100000 in
set_option maxHeartbeats 4000000 in
theorem awake_any (w : World) : Calls Try.prog 7 #[] w fun e w' => e = .returned (.bool true) ∧ Below w.heap.size w w' := by
  go_enter Try.func7, Try.ntmps7
  go_wp2_with fail
  refine (get_any (some ⟨w.heap.size, 0, none⟩) [1, 2, 3, 4] 4 1 2 1 _ (sl_new w _ _ rfl) (by decide) (byts_of_all rfl)).mono ?_
  rw [show getN [1, 2, 3, 4] 1 2 1 = 770 by decide, show getB ([1, 2, 3, 4] : List Int).length 1 2 1 = true by decide]
  rintro e w1 ⟨rfl, hb1⟩
  have hB := bt (ba (brefl w) (.cells #[.int .u8 1, .int .u8 2, .int .u8 3, .int .u8 4] 5)) hb1
  clear hb1
  go_wp2_with fail
  refine (get_any (some ⟨w1.heap.size, 0, none⟩) [1, 2, 3, 4] 4 1 2 2 _ (sl_new w1 _ _ rfl) (by decide) (byts_of_all rfl)).mono ?_
  rw [show getN [1, 2, 3, 4] 1 2 2 = 515 by decide, show getB ([1, 2, 3, 4] : List Int).length 1 2 2 = true by decide]
  rintro e w2 ⟨rfl, hb2⟩
  replace hB := bt (ba hB (.cells #[.int .u8 1, .int .u8 2, .int .u8 3, .int .u8 4] 5)) hb2
  clear hb2
  go_wp2_with fail
  refine (put_any 258 4 1 w2).mono ?_
  rw [show putL 258 4 1 = [2, 1, 0, 0] by decide, show putB 258 4 1 = true by decide]
  rintro e w3 ⟨A, c, rfl, ho, hb⟩
  replace hB := bt hB hb
  have HA := Lib.hid ho.sl'.2
  clear ho hb
  have hC := brefl w3
  go_wp2_with fail
  refine (put_any 256 1 2 w3).mono ?_
  rw [show putL 256 1 2 = [] by decide, show putB 256 1 2 = false by decide]
  rintro e w4 ⟨A4, c4, rfl, _, hb⟩
  replace hC := bt hC hb
  clear hb
  go_wp2_with fail
  refine (signed_any 65535 2 w4).mono ?_
  rw [show sgN 65535 2 = -1 by decide, show sgB 65535 2 = true by decide]
  rintro e w5 ⟨rfl, hb⟩
  replace hC := bt hC hb
  clear hb
  go_wp2_with fail
  refine (plain_any (-2) 1 w5).mono ?_
  rw [show plN (-2) 1 = 254 by decide, show plB (-2) 1 = true by decide]
  rintro e w6 ⟨rfl, hb⟩
  replace hC := bt hC hb
  clear hb
  go_wp2_with fail
  refine (add_any 4294967295 1 w6 (by decide) (by decide) (by decide) (by decide)).mono ?_
  rw [show addN 4294967295 1 = 0 by decide, show addB 4294967295 1 = false by decide]
  rintro e w7 ⟨rfl, rfl⟩
  go_wp2_with fail
  refine (is_any 770 770 true true w6).mono ?_
  rw [show isB 770 true 770 true = true by decide]
  rintro e w7 ⟨rfl, rfl⟩
  go_wp2_with fail
  refine (is_any 515 515 true true w6).mono ?_
  rw [show isB 515 true 515 true = true by decide]
  rintro e w7 ⟨rfl, rfl⟩
  go_wp2_with fail
  refine (same_any A (some ⟨w6.heap.size, 0, none⟩) [2, 1, 0, 0] [2, 1, 0, 0] c 4 _ (HA.out.keep (ba hC _)) (sl_new w6 _ _ rfl) (by decide) (by decide)).mono ?_
  rw [show decide (([2, 1, 0, 0] : List Int) = [2, 1, 0, 0]) = true by decide]
  rintro e w8 ⟨rfl, hb⟩
  replace hC := bt (ba hC (.cells #[.int .u8 2, .int .u8 1, .int .u8 0, .int .u8 0] 5)) hb
  clear hb HA
  replace hB := bt hB hC
  clear hC
  go_wp2_with fail
  refine (is_any (-1) (-1) true true w8).mono ?_
  rw [show isB (-1) true (-1) true = true by decide]
  rintro e w7 ⟨rfl, rfl⟩
  go_wp2_with fail
  refine (is_any 254 254 true true w8).mono ?_
  rw [show isB 254 true 254 true = true by decide]
  rintro e w7 ⟨rfl, rfl⟩
  go_wp2_with fail
  refine (turn_any (some ⟨w8.heap.size, 0, none⟩) [1, 2, 3, 4, 5] 5 2 1 _ (sl_new w8 _ _ rfl) (by decide)).mono ?_
  rw [show turnL [1, 2, 3, 4, 5] 2 1 = [2, 1, 4, 3, 5] by decide]
  rintro e w9 ⟨A9, c9, rfl, ho, hb⟩
  have HA := Lib.hid ho.sl'.2
  replace hB := bt (ba hB (.cells #[.int .u8 1, .int .u8 2, .int .u8 3, .int .u8 4, .int .u8 5] 5)) hb
  clear ho hb
  go_wp2_with fail
  refine (same_any A9 (some ⟨w9.heap.size, 0, none⟩) [2, 1, 4, 3, 5] [2, 1, 4, 3, 5] c9 5 _ (HA.out.keep (ba (brefl w9) _)) (sl_new w9 _ _ rfl) (by decide) (by decide)).mono ?_
  rw [show decide (([2, 1, 4, 3, 5] : List Int) = [2, 1, 4, 3, 5]) = true by decide]
  rintro e w10 ⟨rfl, hb⟩
  replace hB := bt (ba hB (.cells #[.int .u8 2, .int .u8 1, .int .u8 4, .int .u8 3, .int .u8 5] 5)) hb
  clear hb HA
  go_wp2_with fail
  refine (room_any 2 3 5 w10 (by decide)).mono ?_
  rw [show roomB 2 3 5 = true by decide]
  rintro e w7 ⟨rfl, rfl⟩
  go_wp2_with fail
  refine (room_any 2 4 5 w10 (by decide)).mono ?_
  rw [show roomB 2 4 5 = false by decide]
  rintro e w7 ⟨rfl, rfl⟩
  go_wp2_with fail
  refine (even_any 7 w10 (by decide) (by decide)).mono ?_
  rw [show evenN 7 = 8 by decide]
  rintro e w7 ⟨rfl, rfl⟩
  go_wp2_with fail
  go_ret
  exact ⟨rfl, hB⟩
end Go.Proofs.Ytpjdhjkbfdmgpaa
