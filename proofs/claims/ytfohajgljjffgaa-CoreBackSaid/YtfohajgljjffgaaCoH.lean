/- The chapter's examples. -/
import Derived.Test.YtfohajgljjffgaaCoG
namespace Go.Proofs.Ytfohajgljjffgaa
open Go.RowKit
open Go.Tin
set_option linter.unusedVariables false
set_option linter.unusedSimpArgs false


theorem pts_row (w : World) (cs : Array Value) (d : List Int) (n : Nat) (z : Nat × Nat) (h : cs.toList = d.map (Value.int .u8)) (hn : n = d.length) (hb : Byts d) (hl : d.length ≤ 1000000) : Sl .u8 (w.alloc (.cells cs 5 z)) (some ⟨w.heap.size, 0, none⟩) d := (PtS.new_ w cs d n z h hn hb hl).sl.2.1
set_option maxRecDepth 100000 in
set_option maxHeartbeats 4000000 in
theorem awake_any (w : World) : Calls Try.prog 7 #[] w fun e w' => e = .returned (.bool true) ∧ Below w.heap.size w w' := by
  have kc := fun (w : World) (C : Array Value) (n c : Nat) => Lib.run_convert_bytes_const (P := Try.prog) w 22 5 C n c Try.underlying22 Try.underlying5
  obtain ⟨w2, hw2⟩ : ∃ w2, w2 = ((w.alloc (.cells #[.int .u8 255, .int .u8 216, .int .u8 255, .int .u8 218, .int .u8 0, .int .u8 2, .int .u8 255, .int .u8 217] 5 (8, 9))).alloc (.cells #[.int .u8 65] 5 (1, 2))) := ⟨_, rfl⟩
  have hb1 := ba (brefl w) (.cells #[.int .u8 255, .int .u8 216, .int .u8 255, .int .u8 218, .int .u8 0, .int .u8 2, .int .u8 255, .int .u8 217] 5 (8, 9))
  have hb2 := ba (brefl (w.alloc (.cells #[.int .u8 255, .int .u8 216, .int .u8 255, .int .u8 218, .int .u8 0, .int .u8 2, .int .u8 255, .int .u8 217] 5 (8, 9)))) (.cells #[.int .u8 65] 5 (1, 2))
  have hz1 : (w.alloc (.cells #[.int .u8 255, .int .u8 216, .int .u8 255, .int .u8 218, .int .u8 0, .int .u8 2, .int .u8 255, .int .u8 217] 5 (8, 9))).heap.size = w.heap.size + 1 := by simp
  have hsl := (pts_row w #[.int .u8 255, .int .u8 216, .int .u8 255, .int .u8 218, .int .u8 0, .int .u8 2, .int .u8 255, .int .u8 217] [255, 216, 255, 218, 0, 2, 255, 217] 8 (8, 9) rfl rfl (by unfold Byts; decide) (by decide)).keep hb2
  have hpa := PtS.new_ (w.alloc (.cells #[.int .u8 255, .int .u8 216, .int .u8 255, .int .u8 218, .int .u8 0, .int .u8 2, .int .u8 255, .int .u8 217] 5 (8, 9))) #[.int .u8 65] [65] 1 (1, 2) rfl rfl (by unfold Byts; decide) (by decide)
  rw [hz1] at hpa hb2
  have kc2 := kc (w.alloc (.cells #[.int .u8 255, .int .u8 216, .int .u8 255, .int .u8 218, .int .u8 0, .int .u8 2, .int .u8 255, .int .u8 217] 5 (8, 9))) #[.int .u8 65] 1 1
  rw [hz1] at kc2
  have hz2 : ((w.alloc (.cells #[.int .u8 255, .int .u8 216, .int .u8 255, .int .u8 218, .int .u8 0, .int .u8 2, .int .u8 255, .int .u8 217] 5 (8, 9))).alloc (.cells #[.int .u8 65] 5 (1, 2))).heap.size = w.heap.size + 2 := by simp
  have hsg := segs_row ((w.alloc (.cells #[.int .u8 255, .int .u8 216, .int .u8 255, .int .u8 218, .int .u8 0, .int .u8 2, .int .u8 255, .int .u8 217] 5 (8, 9))).alloc (.cells #[.int .u8 65] 5 (1, 2))) #[.int .i64 225, .slice (some ⟨w.heap.size + 1, 0, none⟩) 1 1, .slice none 0 0] [⟨225, [65], []⟩] (.cons hpa (PtS.nil_ _) .nil)
  have hb3 := ba (brefl ((w.alloc (.cells #[.int .u8 255, .int .u8 216, .int .u8 255, .int .u8 218, .int .u8 0, .int .u8 2, .int .u8 255, .int .u8 217] 5 (8, 9))).alloc (.cells #[.int .u8 65] 5 (1, 2)))) (.cells #[.int .i64 225, .slice (some ⟨w.heap.size + 1, 0, none⟩) 1 1, .slice none 0 0] 36)
  rw [hz2] at hsg
  have HSL := Lib.hid (hsl.keep hb3)
  have HSG := Lib.hid hsg
  have HB3 := Lib.hid ((hb1.trans (hb2.mono (Nat.le_succ _))).trans (hb3.mono (by rw [hz2]; omega)))
  clear hsl hpa hsg hb1 hb2 hb3 hz1 hz2 hw2 w2
  go_enter Try.func7, Try.ntmps7
  go_wp2_with fail
  refine (cput_any (some ⟨w.heap.size, 0, none⟩) [255, 216, 255, 218, 0, 2, 255, 217] 8 _ 1 [⟨225, [65], []⟩] _ HSL.out (by decide) (by decide) (by unfold Byts; decide) HSG.out (by decide) (by decide) (fun _ => of_decide_eq_true (by kernel_rfl))).mono ?_
  rintro e v1 ⟨A1, c1, rfl, ho1, hy1, hb1⟩
  rw [show pB [255, 216, 255, 218, 0, 2, 255, 217] [⟨225, [65], []⟩] = [255, 216, 255, 225, 0, 3, 65, 255, 218, 0, 2, 255, 217] from by kernel_rfl] at ho1 ⊢
  rw [show pE [255, 216, 255, 218, 0, 2, 255, 217] [⟨225, [65], []⟩] = 0 from by kernel_rfl]
  have HO1 := Lib.hid ho1
  have HB1 := Lib.hid (HB3.out.trans (hb1.mono HB3.out.size))
  clear ho1 hy1 hb1 HSL HSG HB3
  have hba := ba (brefl v1) (.cells #[.int .u8 255, .int .u8 216, .int .u8 255, .int .u8 217] 5 (4, 5))
  have HSL := Lib.hid (pts_row v1 #[.int .u8 255, .int .u8 216, .int .u8 255, .int .u8 217] [255, 216, 255, 217] 4 (4, 5) rfl rfl (by unfold Byts; decide) (by decide))
  have HBA := Lib.hid hba
  clear hba
  go_wp2_with fail
  refine (strip_any (some ⟨v1.heap.size, 0, none⟩) [255, 216, 255, 217] 4 _ HSL.out (by decide) (by decide) (by unfold Byts; decide)).mono ?_
  rintro e v2 ⟨A2, c2, rfl, _, _, hb⟩
  rw [show imgE [255, 216, 255, 217] = 2 from by kernel_rfl]
  have hbb := HBA.out.trans (hb.mono HBA.out.size)
  replace HO1 := Lib.hid (HO1.out.keep hbb)
  replace HB1 := Lib.hid (HB1.out.trans (hbb.mono HB1.out.size))
  clear hb hbb HBA HSL
  have hba := ba (brefl v2) (.cells #[.int .u8 255, .int .u8 216, .int .u8 255, .int .u8 218, .int .u8 0, .int .u8 2, .int .u8 255, .int .u8 217, .int .u8 0] 5 (9, 10))
  have HSL := Lib.hid (pts_row v2 #[.int .u8 255, .int .u8 216, .int .u8 255, .int .u8 218, .int .u8 0, .int .u8 2, .int .u8 255, .int .u8 217, .int .u8 0] [255, 216, 255, 218, 0, 2, 255, 217, 0] 9 (9, 10) rfl rfl (by unfold Byts; decide) (by decide))
  have HBA := Lib.hid hba
  clear hba
  go_wp2_with fail
  refine (capps_any (some ⟨v2.heap.size, 0, none⟩) [255, 216, 255, 218, 0, 2, 255, 217, 0] 9 _ HSL.out (by decide) (by decide) (by unfold Byts; decide)).mono ?_
  rintro e v3 ⟨A3, c3, _, rfl, _, _, hb⟩
  rw [show imgE [255, 216, 255, 218, 0, 2, 255, 217, 0] = 2 from by kernel_rfl]
  have hbb := HBA.out.trans (hb.mono HBA.out.size)
  replace HO1 := Lib.hid (HO1.out.keep hbb)
  replace HB1 := Lib.hid (HB1.out.trans (hbb.mono HB1.out.size))
  clear hb hbb HBA HSL
  have hba := ba (brefl v3) (.cells #[.int .u8 255, .int .u8 216, .int .u8 255, .int .u8 218, .int .u8 0, .int .u8 2, .int .u8 255, .int .u8 217] 5 (8, 9))
  have HSL := Lib.hid (pts_row v3 #[.int .u8 255, .int .u8 216, .int .u8 255, .int .u8 218, .int .u8 0, .int .u8 2, .int .u8 255, .int .u8 217] [255, 216, 255, 218, 0, 2, 255, 217] 8 (8, 9) rfl rfl (by unfold Byts; decide) (by decide))
  have HBA := Lib.hid hba
  clear hba
  go_wp2_with fail
  refine (is_any (some ⟨v3.heap.size, 0, none⟩) [255, 216, 255, 218, 0, 2, 255, 217] 8 _ HSL.out (by decide) (by decide) (by unfold Byts; decide)).mono ?_
  rintro e v4 ⟨rfl, hb⟩
  rw [show isB [255, 216, 255, 218, 0, 2, 255, 217] = true from by kernel_rfl]
  have hbb := HBA.out.trans (hb.mono HBA.out.size)
  replace HO1 := Lib.hid (HO1.out.keep hbb)
  replace HB1 := Lib.hid (HB1.out.trans (hbb.mono HB1.out.size))
  clear hb hbb HBA HSL
  have k1 := Lib.hid (str_run Try.underlying22 Try.underlying5 Try.underlying9 HO1.out.sl'.2 13 c1 rfl)
  have k2 := Lib.hid (show strOf [255, 216, 255, 225, 0, 3, 65, 255, 218, 0, 2, 255, 217] = { data := #[255, 216, 255, 225, 0, 3, 65, 255, 218, 0, 2, 255, 217] } from by kernel_rfl)
  rw [k2.out] at k1
  go_wp2_with fail
  rw [k1.out]
  simp only [Result.andThen]
  rw [Oper.upon_value]
  go_wp2_with fail
  go_ret
  exact ⟨ret_bool (by first | rfl | simp), HB1.out⟩
end Go.Proofs.Ytfohajgljjffgaa
