/- The contracts of IndexByte and of May. -/
import Derived.Test.YtmdcdmgbillehaaTyA
import Derived.Lib.BytesEntry
namespace Go.Proofs.Ytmdcdmgbillehaa
open Go.RowKit
open Go.Tin
set_option linter.unusedVariables false
set_option linter.unusedSimpArgs false


theorem ix0_lib : ∀ {l : List Int}, Byts l → Lib.indexByte (Lib.bytesOf l) 0 = ix0 l
  | [], _ => rfl
  | x :: l, h => by
    have ih := ix0_lib (l := l) (h.sub fun y hy => List.mem_cons_of_mem _ hy)
    have hx := h x (List.mem_cons_self)
    have e : ((UInt8.ofNat x.toNat == (0 : UInt8)) = true) ↔ x = 0 := by
      rw [beq_iff_eq, ← UInt8.toNat_inj]
      have : (UInt8.ofNat x.toNat).toNat = x.toNat % 256 := by simp
      rw [this]
      show x.toNat % 256 = 0 ↔ x = 0
      omega
    show (if (UInt8.ofNat x.toNat == (0 : UInt8)) = true then (0 : Int) else if (Lib.indexByte (Lib.bytesOf l) 0 == -1) = true then -1 else Lib.indexByte (Lib.bytesOf l) 0 + 1) = _
    unfold ix0
    rw [ih]
    by_cases hx0 : x = 0
    · rw [if_pos (e.2 hx0), if_pos hx0]
    · rw [if_neg (fun hh => hx0 (e.1 hh)), if_neg hx0]
      simp only [beq_iff_eq]
theorem ixb_any (A : Option Addr) (l : List Int) (c : Nat) (w : World) (hs : Sl .u8 w A l) (hby : Byts l) :
    Calls Try.prog 56 #[.slice A l.length c, .int .u8 0] w fun e w' => e = .returned (.int .i64 (ix0 l)) ∧ w = w' := by
  have HR := Lib.hid (show (Extern.BytealgIndexByte.indexByte #[.slice A l.length c, .int .u8 0]).run Try.prog w = .ok (.int .i64 (ix0 l)) w by
    rw [← ix0_lib hby]
    by_cases h0 : 0 < l.length
    · obtain ⟨b, off, rfl, -, hc⟩ := hs.at_ h0
      exact Lib.run_indexByteSlice w b off l.length c l rfl (fun i hi => (hc i hi)) 0
    · have hl : l = [] := List.length_eq_zero_iff.1 (by omega)
      subst hl
      cases A with
      | none => exact Lib.run_indexByteNil w 0 c 0
      | some a =>
        obtain ⟨b, off, sp⟩ := a
        exact Lib.run_indexByteString (P := Try.prog) .empty 0 w)
  clear hs hby
  go_enter Try.func56, Try.ntmps56
  go_wp2_with fail
  rw [run_callFunc_extern Try.func74 (by kernel_rfl) (by kernel_rfl) (by kernel_rfl) (e := Extern.BytealgIndexByte.indexByte) (by kernel_rfl), HR.out]
  simp only [Result.andThen]
  rw [Oper.upon_value]
  go_wp2_with fail
  go_ret
  exact ⟨rfl, rfl⟩
end Go.Proofs.Ytmdcdmgbillehaa
