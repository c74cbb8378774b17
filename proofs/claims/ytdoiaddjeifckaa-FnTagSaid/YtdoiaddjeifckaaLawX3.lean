/- The walk of FnTag. Conditions: the code's bytes can be read. -/
import Derived.Test.YtdoiaddjeifckaaLawX2
namespace Go.Proofs.Ytdoiaddjeifckaa
open Go.RowKit
set_option linter.unusedVariables false
set_option linter.unusedSimpArgs false
set_option maxHeartbeats 1000000 in
theorem walkFnTag (a : Option Addr) (len cap : Nat) (z : List Int) (w : World) (hr : IsRow .u8 w a len cap z) : Calls Try.prog 12 #[.slice a len cap] w fun e w' => e = .returned (.bool true) ∧ Below w.heap.size w w' := by
  have hcode := Lib.hid (code_of_row hr)
  clear hr
  rcases hbig : decide (1048576 < len) with _ | _
  · have hl : len ≤ 1048576 := by simp at hbig; omega
    go_enter Try.func12, Try.ntmps12
    go_wp2_with (go_at_call 29; refine (c_big _ _ _ _).mono ?_; rintro e w' ⟨rfl, rfl⟩; rw [hbig])
    refine (d_DrawTagOf _ hl hcode.out).mono ?_
    rintro e w1 ⟨n, k, n0, n1, k0, k1, rfl, hb1⟩
    have hcode1 : Hid (CodeAt w1 w1.heap.size a len z) := Lib.hid (hcode.out.later hb1)
    have hI := fun w => cI_TagOf n k w n0 n1 (by omega) (by omega)
    have hP := fun w => cP_TagOf n k w n0 n1 (by omega) (by omega)
    obtain ⟨u, hu⟩ : ∃ u, tagOf n k = u := ⟨_, rfl⟩
    have hub := tagOf_bd n k
    have hT := fun w => cI_TagIn (tagOf n k) w hub.1 hub.2
    have hcase : (u = 0 ∧ tagOf n k = 0) ∨ (u ≠ 0 ∧ tagOk u = true ∧ tagNum u = n ∧ tagWire u = k) := by
      by_cases hin : 1 ≤ n ∧ n ≤ 536870911 ∧ 0 ≤ k ∧ k ≤ 7
      · obtain ⟨e1, e2, e3, e4⟩ := tagOf_in hin.1 hin.2.1 hin.2.2.1 hin.2.2.2
        rw [e1] at hu; subst hu
        exact .inr ⟨by omega, e2, e3, e4⟩
      · have : tagOf n k = 0 := by unfold tagOf; rw [if_neg hin]
        exact .inl ⟨by omega, this⟩
    rw [hu] at hI hP hT hub
    generalize tagOk u = ok at hT hcase
    generalize tagNum u = p at hT hcase
    generalize tagWire u = q at hT hcase
    clear hu
    go_wp2_with fail
    refine (hI _).mono ?_
    rintro e w4 ⟨rfl, rfl⟩
    go_wp2_with fail
    refine (hP _).mono ?_
    rintro e w4 ⟨rfl, rfl⟩
    go_wp2_with fail
    refine (hT _).mono ?_
    rintro e w4 ⟨rfl, rfl⟩
    have fin : ∀ t : Int, 0 ≤ t → t ≤ 18446744073709551615 → (8 ≤ t ∧ t ≤ 4294967295 ∧ ∃ A B : Int, (∀ w, Calls Try.prog 33 #[.int .u64 t] w fun e w' => e = .returned (.tuple #[.int .i64 A, .int .i64 B, .bool true]) ∧ w = w') ∧ ∀ w, Calls Try.prog 34 #[.int .i64 A, .int .i64 B] w fun e w' => e = .returned (.int .u64 t) ∧ w = w') ∨
        ((t < 8 ∨ 4294967295 < t) ∧ ∀ w, Calls Try.prog 33 #[.int .u64 t] w fun e w' => e = .returned (.tuple #[.int .i64 0, .int .i64 0, .bool false]) ∧ w = w') := by
      intro t t0 t1
      by_cases ht : 8 ≤ t ∧ t ≤ 4294967295
      · obtain ⟨e1, e2, e3⟩ := tag_yes ht.1 ht.2
        refine .inl ⟨ht.1, ht.2, t / 8, t % 8, fun w => ?_, fun w => ?_⟩
        · have := cI_TagIn t w t0 t1
          rw [e1, e2, e3] at this
          exact this
        · have := cI_TagOf (t / 8) (t % 8) w (by omega) (by omega) (by omega) (by omega)
          rw [show tagOf (t / 8) (t % 8) = t by unfold tagOf; rw [if_pos (by omega)]; omega] at this
          exact this
      · obtain ⟨e1, e2, e3⟩ := tag_no (u := t) (by omega)
        refine .inr ⟨by omega, fun w => ?_⟩
        have := cI_TagIn t w t0 t1
        rw [e1, e2, e3] at this
        exact this
    rcases hcase with ⟨rfl, _⟩ | ⟨hu0, rfl, rfl, rfl⟩
    all_goals go_wp2_with fail
    all_goals refine (d_DrawTagIn _ hl hcode1.out).mono ?_
    all_goals rintro e w3 ⟨t, t0, t1, rfl, hb3⟩
    all_goals have hB3 := hb1.trans (hb3.mono hb1.size)
    all_goals rcases fin t t0 t1 with ⟨t8, t9, A, B, hA, hB⟩ | ⟨ht, hA⟩
    all_goals go_wp2_with fail
    all_goals refine (hA _).mono ?_
    all_goals rintro e w4 ⟨rfl, rfl⟩
    all_goals go_wp2_with (go_at_call 34; refine (hB _).mono ?_; rintro e w5 ⟨rfl, rfl⟩)
    all_goals go_ret
    all_goals exact ⟨ret_bool (by first | rfl | (simp; done) | (simp; omega)), hB3⟩
  · go_enter Try.func12, Try.ntmps12
    go_wp2_with (go_at_call 29; refine (c_big _ _ _ _).mono ?_; rintro e w' ⟨rfl, rfl⟩; rw [hbig])
    go_ret
    exact ⟨rfl, Below.refl _ _⟩
end Go.Proofs.Ytdoiaddjeifckaa
