/- Contracts of FixByte, and the walks of three exact laws. Conditions: integers fit their kinds. -/
import Derived.Test.YtigmncilanejlaaGetFixC
namespace Go.Proofs.Ytigmncilanejlaa
open Go.RowKit Plain
set_option linter.unusedVariables false
set_option linter.unusedSimpArgs false
def fbOver (h x : Int) : Bool := !(inB h 0 7) || !(inB x 0 255)
def fbBits (b h x : Int) : Int := if fbOver h x = true then b else (b + x * 2 ^ (8 * h).toNat) % 18446744073709551616
def fbHave (h x : Int) : Int := if fbOver h x = true then h else h + 1
theorem fb_yes {b h x : Int} (k : fbOver h x = true) : b = fbBits b h x ∧ h = fbHave h x := by simp [fbBits, fbHave, k]
theorem fb_no {b h x : Int} (k : fbOver h x = false) : (b + x * 2 ^ (8 * h).toNat) % 18446744073709551616 = fbBits b h x ∧ h + 1 = fbHave h x := by simp [fbBits, fbHave, k]
theorem fb_wrap (b y : Int) : IntKind.u64.wrap (b + IntKind.u64.wrap y) = (b + y) % 18446744073709551616 := by simp only [IntKind.wrap_u64]; omega
theorem ret_fb {b h x B H : Int} (e1 : B = fbBits b h x) (e2 : H = fbHave h x) :
    Ending.returned (.agg #[.int .u64 B, .int .i64 H]) = .returned (.agg #[.int .u64 (fbBits b h x), .int .i64 (fbHave h x)]) := by rw [e1, e2]
theorem isByte_d (n : Int) (w : World) : Calls Try.prog 39 #[.int .i64 n] w fun e w' => e = .returned (.bool (inB n 0 255)) ∧ w = w' := by
  go_enter Try.func39, Try.ntmps39
  go_wp2_with (go_at_call 31; refine (cI_within _ _ _ _).mono ?_; rintro e w' ⟨rfl, rfl⟩)
  go_ret
  exact ⟨rfl, rfl⟩
set_option maxRecDepth 20000 in
set_option maxHeartbeats 1000000 in
theorem cI_FixByte (b h x : Int) (w : World) (h0 : 0 ≤ b) (h1 : b ≤ 18446744073709551615) : Calls Try.prog 21 #[.agg #[.int .u64 b, .int .i64 h], .int .i64 x] w fun e w' => e = .returned (.agg #[.int .u64 (fbBits b h x), .int .i64 (fbHave h x)]) ∧ Below w.heap.size w w' := by
  rcases hin : inB h 0 7 with _ | _
  · have HO := Lib.hid (fb_yes (b := b) (h := h) (x := x) (by simp [fbOver, hin]))
    go_enter Try.func21, Try.ntmps21
    go_wp2_with (first | (go_at_call 31; refine (cI_within _ _ _ _).mono ?_; rintro e w' ⟨rfl, rfl⟩) | (go_at_call 39; refine (isByte_d _ _).mono ?_; rintro e w' ⟨rfl, rfl⟩))
    exact bodyPost_ret (v := .agg #[.int .u64 b, .int .i64 h]) (by simp [results, Try.results21, go_sem]) rfl ⟨ret_fb HO.out.1 HO.out.2, by repeat (first | exact Below.refl _ _ | refine Below.alloc ?_ (by simp; omega) _ | refine Below.alloc ?_ (by simp) _)⟩
  · rcases hix : inB x 0 255 with _ | _
    · have HO := Lib.hid (fb_yes (b := b) (h := h) (x := x) (by simp [fbOver, hix]))
      go_enter Try.func21, Try.ntmps21
      go_wp2_with (first | (go_at_call 31; refine (cI_within _ _ _ _).mono ?_; rintro e w' ⟨rfl, rfl⟩) | (go_at_call 39; refine (isByte_d _ _).mono ?_; rintro e w' ⟨rfl, rfl⟩))
      exact bodyPost_ret (v := .agg #[.int .u64 b, .int .i64 h]) (by simp [results, Try.results21, go_sem]) rfl ⟨ret_fb HO.out.1 HO.out.2, by repeat (first | exact Below.refl _ _ | refine Below.alloc ?_ (by simp; omega) _ | refine Below.alloc ?_ (by simp) _)⟩
    · obtain ⟨hk1, hk2⟩ := inB_yes hin
      obtain ⟨hx1, hx2⟩ := inB_yes hix
      have HO := Lib.hid (fb_no (b := b) (h := h) (x := x) (by simp [fbOver, hin, hix]))
      go_enter Try.func21, Try.ntmps21
      go_wp2_with (first | (go_at_call 31; refine (cI_within _ _ _ _).mono ?_; rintro e w' ⟨rfl, rfl⟩) | (go_at_call 39; refine (isByte_d _ _).mono ?_; rintro e w' ⟨rfl, rfl⟩))
      exact bodyPost_ret (v := .agg #[.int .u64 (IntKind.u64.wrap (b + IntKind.u64.wrap (x * 2 ^ (8 * h).toNat))), .int .i64 (h + 1)]) (by simp [results, Try.results21, go_sem]) rfl ⟨ret_fb ((fb_wrap _ _).trans HO.out.1) HO.out.2, by repeat (first | exact Below.refl _ _ | refine Below.alloc ?_ (by simp; omega) _ | refine Below.alloc ?_ (by simp) _)⟩
end Go.Proofs.Ytigmncilanejlaa
