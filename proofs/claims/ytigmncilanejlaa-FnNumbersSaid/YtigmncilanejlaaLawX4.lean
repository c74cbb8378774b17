/- The walk of FnNumbers. Conditions: the code's bytes can be read. -/
import Derived.Test.YtigmncilanejlaaLawX2
namespace Go.Proofs.Ytigmncilanejlaa
open Go.RowKit
set_option linter.unusedVariables false
set_option linter.unusedSimpArgs false
set_option maxHeartbeats 1000000 in
theorem walkFnNumbers (a : Option Addr) (len cap : Nat) (z : List Int) (w : World) (hr : IsRow .u8 w a len cap z) : Calls Try.prog 3 #[.slice a len cap] w fun e w' => e = .returned (.bool true) ∧ Below w.heap.size w w' := by
  have hcode := Lib.hid (code_of_row hr)
  clear hr
  rcases hbig : decide (1048576 < len) with _ | _
  · have hl : len ≤ 1048576 := by simp at hbig; omega
    go_enter Try.func3, Try.ntmps3
    go_wp2_with (go_at_call 7; refine (c_big _ _ _ _).mono ?_; rintro e w' ⟨rfl, rfl⟩; rw [hbig])
    refine (d_DrawNumberOk _ hl hcode.out).mono ?_
    rintro e w1 ⟨n, n0, n1, rfl, hb1⟩
    have hI := fun w => cI_NumberOk n w
    have hP := fun w => cP_NumberOk n w
    rcases hok : numberOk n with _ | _
    all_goals rw [hok] at hI hP
    · go_wp2_with fail
      refine (hI _).mono ?_
      rintro e w4 ⟨rfl, rfl⟩
      go_wp2_with fail
      refine (hP _).mono ?_
      rintro e w4 ⟨rfl, rfl⟩
      go_wp2_with fail
      go_loop [5] (fun c => c = .int .i64 0) (fun _ => 0)
      case atStart => rfl
      case round =>
        subst hrel
        go_wp2
        go_ret
        exact ⟨rfl, hb1⟩
    · have hn : 1 ≤ n ∧ n ≤ 536870911 := by simp [numberOk] at hok; omega
      clear hok
      go_wp2_with fail
      refine (hI _).mono ?_
      rintro e w4 ⟨rfl, rfl⟩
      go_wp2_with fail
      refine (hP _).mono ?_
      rintro e w4 ⟨rfl, rfl⟩
      go_wp2_with fail
      have hTag := fun (k : Int) (h3 : 0 ≤ k) (h4 : k ≤ 7) w => cI_TagOf n k w n0 n1 (by omega) (by omega)
      have hT := fun (k : Int) (h3 : 0 ≤ k) (h4 : k ≤ 7) w => cI_TagIn (8 * n + k) w (by omega) (by omega)
      have hlaw := fun (k : Int) (h3 : 0 ≤ k) (h4 : k ≤ 7) => tagOf_in hn.1 hn.2 h3 h4
      go_loop [5] (fun c => ∃ k : Nat, k ≤ 8 ∧ c = .int .i64 k) (fun c => 8 - (intOf c).toNat)
      case atStart => exact ⟨0, by omega, rfl⟩
      case round =>
        obtain ⟨k, hk, rfl⟩ := hrel
        by_cases hlt : k < 8
        · obtain ⟨e1, e2, e3, e4⟩ := hlaw k (by omega) (by omega)
          have hG := hTag k (by omega) (by omega)
          have hI2 := hT k (by omega) (by omega)
          rw [e1] at hG
          rw [e2, e3, e4] at hI2
          have hW := fun w => cI_WireOk k w
          have hX := fun w => cP_WireOk k w
          generalize 8 * n + (k : Int) = t at hG hI2
          clear hTag hT hlaw e1 e2 e3 e4
          go_wp2_with (first | (go_at_call 12; refine (hG _).mono ?_; rintro e w' ⟨rfl, rfl⟩) | (go_at_call 11; refine (hI2 _).mono ?_; rintro e w' ⟨rfl, rfl⟩) | (go_at_call 13; refine (hW _).mono ?_; rintro e w' ⟨rfl, rfl⟩) | (go_at_call 14; refine (hX _).mono ?_; rintro e w' ⟨rfl, rfl⟩))
          go_round
          case rel => exact ⟨k + 1, by omega, by go_num⟩
          case measure => simp [intOf]; omega
        · obtain rfl : k = 8 := by omega
          go_wp2
          go_ret
          exact ⟨rfl, hb1⟩
  · go_enter Try.func3, Try.ntmps3
    go_wp2_with (go_at_call 7; refine (c_big _ _ _ _).mono ?_; rintro e w' ⟨rfl, rfl⟩; rw [hbig])
    go_ret
    exact ⟨rfl, Below.refl _ _⟩
end Go.Proofs.Ytigmncilanejlaa
