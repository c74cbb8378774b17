/- Contracts of the reference's Hex, of the digit's value, and of both Unhex. Conditions: a bound on the string. -/
import Derived.Test.YtaleihkgfalinaaHexC
import Derived.Deep.QuietTactic
import Derived.BigQuiet
namespace Go.Proofs.Ytaleihkgfalinaa
open Go.RowKit Plain
set_option linter.unusedVariables false
set_option linter.unusedSimpArgs false
theorem cP_l1Hex (x : Int) (w : World) (h0 : 0 ≤ x) (h1 : x < 16) : Calls Try.prog 13 #[.int .u8 x] w fun e w' => e = .returned (.int .u8 (hexD x.toNat : Nat)) ∧ w = w' := by
  by_cases h : x < 10
  · have HE : Hid (((hexD x.toNat : Nat) : Int) = x + 48) := Lib.hid (by unfold hexD; rw [if_pos (by omega)]; omega)
    go_enter Try.func13, Try.ntmps13
    go_wp2
    go_ret
    exact ⟨ret_int HE.out.symm, rfl⟩
  · have HE : Hid (((hexD x.toNat : Nat) : Int) = x - 10 + 97) := Lib.hid (by unfold hexD; rw [if_neg (by omega)]; omega)
    go_enter Try.func13, Try.ntmps13
    go_wp2
    go_ret
    exact ⟨ret_int HE.out.symm, rfl⟩
theorem cP_l1Half (x : Int) (w : World) (h0 : 0 ≤ x) (h1 : x < 256) : Calls Try.prog 14 #[.int .u8 x] w fun e w' => e = .returned (.int .i64 (half x.toNat)) ∧ w = w' := by
  rcases (show x < 48 ∨ (48 ≤ x ∧ x ≤ 57) ∨ (57 < x ∧ x < 97) ∨ (97 ≤ x ∧ x ≤ 102) ∨ 102 < x by omega) with h | ⟨h, h'⟩ | ⟨h, h'⟩ | ⟨h, h'⟩ | h
  · have HE : Hid (half x.toNat = -1) := Lib.hid (by unfold half; rw [if_neg (by omega), if_neg (by omega)])
    go_enter Try.func14, Try.ntmps14
    go_wp2
    go_ret
    exact ⟨ret_int HE.out.symm, rfl⟩
  · have HE : Hid (half x.toNat = x - 48) := Lib.hid (by unfold half; rw [if_pos (by omega)]; omega)
    go_enter Try.func14, Try.ntmps14
    go_wp2
    go_ret
    exact ⟨ret_int HE.out.symm, rfl⟩
  · have HE : Hid (half x.toNat = -1) := Lib.hid (by unfold half; rw [if_neg (by omega), if_neg (by omega)])
    go_enter Try.func14, Try.ntmps14
    go_wp2
    go_ret
    exact ⟨ret_int HE.out.symm, rfl⟩
  · have HE : Hid (half x.toNat = x - 97 + 10) := Lib.hid (by unfold half; rw [if_neg (by omega), if_pos (by omega)]; omega)
    go_enter Try.func14, Try.ntmps14
    go_wp2
    go_ret
    exact ⟨ret_int HE.out.symm, rfl⟩
  · have HE : Hid (half x.toNat = -1) := Lib.hid (by unfold half; rw [if_neg (by omega), if_neg (by omega)])
    go_enter Try.func14, Try.ntmps14
    go_wp2
    go_ret
    exact ⟨ret_int HE.out.symm, rfl⟩
theorem ix_half (x : Int) (h0 : 0 ≤ x) (h1 : x < 256) : Lib.indexByte (⟨#[48, 49, 50, 51, 52, 53, 54, 55, 56, 57, 97, 98, 99, 100, 101, 102]⟩ : ByteArray).data.toList x.toNat.toUInt8 = half x.toNat := by
  have h : ∀ y : Fin 256, Lib.indexByte [48, 49, 50, 51, 52, 53, 54, 55, 56, 57, 97, 98, 99, 100, 101, 102] (y.val).toUInt8 = half y.val := by decide +kernel
  exact h ⟨x.toNat, by omega⟩
set_option maxRecDepth 100000 in
theorem c_lite (s : ByteArray) (c : Int) (w : World) : Calls Try.prog 21 #[.string s, .int .u8 c] w fun e w' => e = .returned (.int .i64 (Lib.indexByte s.data.toList c.toNat.toUInt8)) ∧ w' = w := by
  go_enter Try.func21, Try.ntmps21
  go_wp2
  rw [run_callFunc_extern Try.func23 (by kernel_rfl) (by kernel_rfl) (by kernel_rfl) (e := Extern.BytealgIndexByte.indexByte) (by kernel_rfl), Lib.run_indexByteString]
  simp only [Result.andThen]
  rw [Oper.upon_value]
  go_wp2
  go_ret
  exact ⟨rfl, rfl⟩
theorem c_IndexByte (x : Int) (w : World) (h0 : 0 ≤ x) (h1 : x < 256) : Calls Try.prog 15 #[.string ⟨#[48, 49, 50, 51, 52, 53, 54, 55, 56, 57, 97, 98, 99, 100, 101, 102]⟩, .int .u8 x] w fun e w' => e = .returned (.int .i64 (half x.toNat)) ∧ w = w' := by
  have HE := Lib.hid (ix_half x h0 h1)
  go_enter Try.func15, Try.ntmps15
  go_wp2_with (go_at_call 21; refine (c_lite _ _ _).mono ?_; rintro e w' ⟨rfl, rfl⟩)
  go_ret
  exact ⟨ret_int HE.out, rfl⟩
end Go.Proofs.Ytaleihkgfalinaa
