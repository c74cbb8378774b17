/- Contracts of functions that only compute: what each returns; memory is untouched. Conditions: an integer fits its kind. -/
import Derived.Test.YtigmncilanejlaaBase
import Derived.Test.YtigmncilanejlaaBits
namespace Go.Proofs.Ytigmncilanejlaa
open Go.RowKit
set_option linter.unusedVariables false

set_option linter.unusedSimpArgs false
def inB (n a b : Int) : Bool := decide (a ≤ n) && decide (n ≤ b)
theorem inB_yes {n a b : Int} (h : inB n a b = true) : a ≤ n ∧ n ≤ b := by simpa [inB] using h
theorem inB_no {n a b : Int} (h : inB n a b = false) : n < a ∨ b < n := by simp [inB] at h; omega
theorem inB_mk {n a b : Int} (h1 : a ≤ n) (h2 : n ≤ b) : inB n a b = true := by simp [inB, h1, h2]
theorem inB_mk_no {n a b : Int} (h : n < a ∨ b < n) : inB n a b = false := by simp [inB]; omega
theorem cI_within (n a b : Int) (w : World) : Calls Try.prog 31 #[.int .i64 n, .int .i64 a, .int .i64 b] w fun e w' => e = .returned (.bool (inB n a b)) ∧ w = w' := by
  by_cases h : a ≤ n
  all_goals
    go_enter Try.func31, Try.ntmps31
    go_wp2
    go_ret
    exact ⟨ret_bool (by simp [inB]; omega), rfl⟩
theorem cP_in (n a b : Int) (w : World) : Calls Try.prog 32 #[.int .i64 n, .int .i64 a, .int .i64 b] w fun e w' => e = .returned (.bool (inB n a b)) ∧ w = w' := by
  by_cases h : a ≤ n
  all_goals
    go_enter Try.func32, Try.ntmps32
    go_wp2
    go_ret
    exact ⟨ret_bool (by simp [inB]; omega), rfl⟩
/- tags -/
def tagOk (u : Int) : Bool := decide (8 ≤ u) && decide (u ≤ 4294967295)
def tagNum (u : Int) : Int := if 8 ≤ u ∧ u ≤ 4294967295 then u / 8 else 0
def tagWire (u : Int) : Int := if 8 ≤ u ∧ u ≤ 4294967295 then u % 8 else 0
theorem tag_yes {u : Int} (h1 : 8 ≤ u) (h2 : u ≤ 4294967295) : tagOk u = true ∧ tagNum u = u / 8 ∧ tagWire u = u % 8 := by
  simp [tagOk, tagNum, tagWire, h1, h2]
theorem tag_no {u : Int} (h : u < 8 ∨ 4294967295 < u) : tagOk u = false ∧ tagNum u = 0 ∧ tagWire u = 0 := by
  refine ⟨by simp [tagOk]; omega, ?_, ?_⟩ <;> (first | unfold tagNum | unfold tagWire) <;> rw [if_neg (by omega)]
theorem ret_tag {u a b : Int} {c : Bool} (h : tagOk u = c ∧ tagNum u = a ∧ tagWire u = b) : Ending.returned (.tuple #[.int .i64 a, .int .i64 b, .bool c]) = .returned (.tuple #[.int .i64 (tagNum u), .int .i64 (tagWire u), .bool (tagOk u)]) := by
  rw [h.1, h.2.1, h.2.2]
theorem ret_tag7 {u a b b' : Int} {c : Bool} (h : tagOk u = c ∧ tagNum u = a ∧ tagWire u = b) (hb : b' = b) : Ending.returned (.tuple #[.int .i64 a, .int .i64 b', .bool c]) = .returned (.tuple #[.int .i64 (tagNum u), .int .i64 (tagWire u), .bool (tagOk u)]) := by
  rw [h.1, h.2.1, h.2.2, hb]
theorem cI_TagIn (u : Int) (w : World) (h1 : 0 ≤ u) (h2 : u ≤ 18446744073709551615) : Calls Try.prog 11 #[.int .u64 u] w fun e w' => e = .returned (.tuple #[.int .i64 (tagNum u), .int .i64 (tagWire u), .bool (tagOk u)]) ∧ w = w' := by
  by_cases h : u < 8
  · go_enter Try.func11, Try.ntmps11
    go_wp2
    go_ret3
    exact ⟨ret_tag (tag_no (.inl h)), rfl⟩
  · by_cases h' : 4294967295 < u
    · have h'' : 536870911 < u / 8 := by omega
      go_enter Try.func11, Try.ntmps11
      go_wp2
      go_ret3
      exact ⟨ret_tag (tag_no (.inr h')), rfl⟩
    · have h'' : ¬ 536870911 < u / 8 := by omega
      go_enter Try.func11, Try.ntmps11
      go_wp2
      go_ret3
      exact ⟨ret_tag7 (tag_yes (by omega) (by omega)) (by rw [and7 u h1 h2]; first | rfl | (apply IntWalk.wrap64_in; omega)), rfl⟩
def tagOf (n k : Int) : Int := if 1 ≤ n ∧ n ≤ 536870911 ∧ 0 ≤ k ∧ k ≤ 7 then 8 * n + k else 0
set_option maxHeartbeats 400000 in
theorem cI_TagOf (n k : Int) (w : World) (h1 : -9223372036854775808 ≤ n) (h2 : n ≤ 9223372036854775807) (h3 : -9223372036854775808 ≤ k) (h4 : k ≤ 9223372036854775807) : Calls Try.prog 12 #[.int .i64 n, .int .i64 k] w fun e w' => e = .returned (.int .u64 (tagOf n k)) ∧ w = w' := by
  rcases ha : inB n 1 536870911 with _ | _
  · go_enter Try.func12, Try.ntmps12
    go_wp2_with (go_at_call 31; refine (cI_within _ _ _ _).mono ?_; rintro e w' ⟨rfl, rfl⟩)
    go_ret
    exact ⟨ret_int (by have := inB_no ha; unfold tagOf; rw [if_neg (by omega)]), rfl⟩
  rcases hb : inB k 0 7 with _ | _
  · go_enter Try.func12, Try.ntmps12
    go_wp2_with (go_at_call 31; refine (cI_within _ _ _ _).mono ?_; rintro e w' ⟨rfl, rfl⟩)
    go_ret
    exact ⟨ret_int (by have := inB_no hb; unfold tagOf; rw [if_neg (by omega)]), rfl⟩
  · have hc := inB_yes ha
    have hd := inB_yes hb
    obtain ⟨hc1, hc2⟩ := hc
    obtain ⟨hd1, hd2⟩ := hd
    go_enter Try.func12, Try.ntmps12
    go_wp2_with (go_at_call 31; refine (cI_within _ _ _ _).mono ?_; rintro e w' ⟨rfl, rfl⟩)
    go_ret
    exact ⟨ret_int (by unfold tagOf; rw [if_pos ⟨hc1, hc2, hd1, hd2⟩]), rfl⟩
/- kinds -/
def wireOf (k : Int) : Int := if k = 4 then 5 else if k = 5 then 1 else if 1 ≤ k ∧ k ≤ 3 then 0 else if 6 ≤ k ∧ k ≤ 8 then 2 else -1
def numeric (k : Int) : Bool := decide (1 ≤ k) && decide (k ≤ 5)
def fits (k u : Int) : Bool := decide (k = 1 ∨ k = 2 ∨ k = 5 ∨ (k = 3 ∧ u ≤ 1) ∨ (k = 4 ∧ u ≤ 4294967295))
def wireOk (k : Int) : Bool := decide (k = 0 ∨ k = 1 ∨ k = 2 ∨ k = 5)
def widthOf (k : Int) : Int := if k = 1 then 8 else if k = 5 then 4 else 0
def numberOk (n : Int) : Bool := decide (1 ≤ n ∧ n ≤ 536870911 ∧ ¬ (19000 ≤ n ∧ n ≤ 19999))
theorem ixWire0 (w : World) : (Instr.index 54 (.agg #[.int .i64 0, .int .i64 0, .int .i64 0, .int .i64 5, .int .i64 1, .int .i64 2, .int .i64 2, .int .i64 2]) (.int .i64 0)).run Try.prog w = .ok (.int .i64 0) w := by kernel_rfl
theorem ixWire1 (w : World) : (Instr.index 54 (.agg #[.int .i64 0, .int .i64 0, .int .i64 0, .int .i64 5, .int .i64 1, .int .i64 2, .int .i64 2, .int .i64 2]) (.int .i64 1)).run Try.prog w = .ok (.int .i64 0) w := by kernel_rfl
theorem ixWire2 (w : World) : (Instr.index 54 (.agg #[.int .i64 0, .int .i64 0, .int .i64 0, .int .i64 5, .int .i64 1, .int .i64 2, .int .i64 2, .int .i64 2]) (.int .i64 2)).run Try.prog w = .ok (.int .i64 0) w := by kernel_rfl
theorem ixWire3 (w : World) : (Instr.index 54 (.agg #[.int .i64 0, .int .i64 0, .int .i64 0, .int .i64 5, .int .i64 1, .int .i64 2, .int .i64 2, .int .i64 2]) (.int .i64 3)).run Try.prog w = .ok (.int .i64 5) w := by kernel_rfl
theorem ixWire4 (w : World) : (Instr.index 54 (.agg #[.int .i64 0, .int .i64 0, .int .i64 0, .int .i64 5, .int .i64 1, .int .i64 2, .int .i64 2, .int .i64 2]) (.int .i64 4)).run Try.prog w = .ok (.int .i64 1) w := by kernel_rfl
theorem ixWire5 (w : World) : (Instr.index 54 (.agg #[.int .i64 0, .int .i64 0, .int .i64 0, .int .i64 5, .int .i64 1, .int .i64 2, .int .i64 2, .int .i64 2]) (.int .i64 5)).run Try.prog w = .ok (.int .i64 2) w := by kernel_rfl
theorem ixWire6 (w : World) : (Instr.index 54 (.agg #[.int .i64 0, .int .i64 0, .int .i64 0, .int .i64 5, .int .i64 1, .int .i64 2, .int .i64 2, .int .i64 2]) (.int .i64 6)).run Try.prog w = .ok (.int .i64 2) w := by kernel_rfl
theorem ixWire7 (w : World) : (Instr.index 54 (.agg #[.int .i64 0, .int .i64 0, .int .i64 0, .int .i64 5, .int .i64 1, .int .i64 2, .int .i64 2, .int .i64 2]) (.int .i64 7)).run Try.prog w = .ok (.int .i64 2) w := by kernel_rfl
theorem cI_isKind (k : Int) (w : World) : Calls Try.prog 40 #[.int .i64 k] w fun e w' => e = .returned (.bool (inB k 1 8)) ∧ w = w' := by
  go_enter Try.func40, Try.ntmps40
  go_wp2_with (go_at_call 31; refine (cI_within _ _ _ _).mono ?_; rintro e w' ⟨rfl, rfl⟩)
  go_ret
  exact ⟨rfl, rfl⟩
theorem cP_Kind (k : Int) (w : World) : Calls Try.prog 41 #[.int .i64 k] w fun e w' => e = .returned (.bool (inB k 1 8)) ∧ w = w' := by
  go_enter Try.func41, Try.ntmps41
  go_wp2_with (go_at_call 32; refine (cP_in _ _ _ _).mono ?_; rintro e w' ⟨rfl, rfl⟩)
  go_ret
  exact ⟨rfl, rfl⟩
theorem cP_Numeric (k : Int) (w : World) : Calls Try.prog 42 #[.int .i64 k] w fun e w' => e = .returned (.bool (inB k 1 5)) ∧ w = w' := by
  go_enter Try.func42, Try.ntmps42
  go_wp2_with (go_at_call 32; refine (cP_in _ _ _ _).mono ?_; rintro e w' ⟨rfl, rfl⟩)
  go_ret
  exact ⟨rfl, rfl⟩
theorem cI_Numeric (k : Int) (w : World) : Calls Try.prog 27 #[.int .i64 k] w fun e w' => e = .returned (.bool (inB k 1 5)) ∧ w = w' := by
  go_enter Try.func27, Try.ntmps27
  go_wp2_with (go_at_call 31; refine (cI_within _ _ _ _).mono ?_; rintro e w' ⟨rfl, rfl⟩)
  go_ret
  exact ⟨rfl, rfl⟩
theorem kind_cases (k : Int) : (inB k 1 8 = false ∧ inB k 1 5 = false ∧ (k == 4) = false ∧ (k == 5) = false ∧ (k == 3) = false ∧ (k == 1) = false ∧ (k == 2) = false ∧ (k < 1 ∨ 8 < k)) ∨ k = 1 ∨ k = 2 ∨ k = 3 ∨ k = 4 ∨ k = 5 ∨ k = 6 ∨ k = 7 ∨ k = 8 := by
  by_cases h : k < 1 ∨ 8 < k
  · left; refine ⟨inB_mk_no h, inB_mk_no (by omega), ?_, ?_, ?_, ?_, ?_, h⟩ <;> (rw [beq_eq_false_iff_ne]; omega)
  · right; omega
theorem b8 : inB 1 1 8 = true ∧ inB 2 1 8 = true ∧ inB 3 1 8 = true ∧ inB 4 1 8 = true ∧ inB 5 1 8 = true ∧ inB 6 1 8 = true ∧ inB 7 1 8 = true ∧ inB 8 1 8 = true := by decide
theorem b5 : inB 1 1 5 = true ∧ inB 2 1 5 = true ∧ inB 3 1 5 = true ∧ inB 4 1 5 = true ∧ inB 5 1 5 = true ∧ inB 6 1 5 = false ∧ inB 7 1 5 = false ∧ inB 8 1 5 = false := by decide
set_option maxHeartbeats 1000000 in
theorem cP_WireOf (k : Int) (w : World) : Calls Try.prog 24 #[.int .i64 k] w fun e w' => e = .returned (.int .i64 (wireOf k)) ∧ w = w' := by
  obtain ⟨q1, q2, q3, q4, q5, q6, q7, q8⟩ := b8
  obtain ⟨r1, r2, r3, r4, r5, r6, r7, r8⟩ := b5
  rcases kind_cases k with ⟨g8, g5, g4, gg5, g3, g1, g2, hk⟩ | rfl | rfl | rfl | rfl | rfl | rfl | rfl | rfl
  all_goals
    go_enter Try.func24, Try.ntmps24
    go_wp2_with (first | (go_at_call 32; refine (cP_in _ _ _ _).mono ?_; rintro e w' ⟨rfl, rfl⟩) | (go_at_call 41; refine (cP_Kind _ _).mono ?_; rintro e w' ⟨rfl, rfl⟩) | (go_at_call 42; refine (cP_Numeric _ _).mono ?_; rintro e w' ⟨rfl, rfl⟩))
    all_goals (go_ret; exact ⟨ret_int (by unfold wireOf; first | decide | (rw [if_neg (by omega), if_neg (by omega), if_neg (by omega), if_neg (by omega)])), rfl⟩)
set_option maxHeartbeats 1000000 in
theorem cI_WireOf (k : Int) (w : World) : Calls Try.prog 23 #[.int .i64 k] w fun e w' => e = .returned (.int .i64 (wireOf k)) ∧ w = w' := by
  obtain ⟨q1, q2, q3, q4, q5, q6, q7, q8⟩ := b8
  obtain ⟨r1, r2, r3, r4, r5, r6, r7, r8⟩ := b5
  have i0 := ixWire0
  have i1 := ixWire1
  have i2 := ixWire2
  have i3 := ixWire3
  have i4 := ixWire4
  have i5 := ixWire5
  have i6 := ixWire6
  have i7 := ixWire7
  rcases kind_cases k with ⟨g8, g5, g4, gg5, g3, g1, g2, hk⟩ | rfl | rfl | rfl | rfl | rfl | rfl | rfl | rfl
  all_goals
    go_enter Try.func23, Try.ntmps23
    go_wp2_with (first | (go_at_call 31; refine (cI_within _ _ _ _).mono ?_; rintro e w' ⟨rfl, rfl⟩) | (go_at_call 40; refine (cI_isKind _ _).mono ?_; rintro e w' ⟨rfl, rfl⟩) | (go_at_call 27; refine (cI_Numeric _ _).mono ?_; rintro e w' ⟨rfl, rfl⟩))
    all_goals (go_ret; exact ⟨ret_int (by unfold wireOf; first | decide | (rw [if_neg (by omega), if_neg (by omega), if_neg (by omega), if_neg (by omega)])), rfl⟩)
theorem numberOk_of {n : Int} {a b : Bool} (ha : inB n 1 536870911 = a) (hb : inB n 19000 19999 = b) : (a && !b) = numberOk n := by
  subst ha hb; simp only [inB, numberOk]; rw [Bool.eq_iff_iff]; simp; omega
set_option maxHeartbeats 1000000 in
theorem cP_NumberOk (n : Int) (w : World) : Calls Try.prog 10 #[.int .i64 n] w fun e w' => e = .returned (.bool (numberOk n)) ∧ w = w' := by
  rcases ha : inB n 1 536870911 with _ | _
  all_goals rcases hb : inB n 19000 19999 with _ | _
  all_goals
    go_enter Try.func10, Try.ntmps10
    go_wp2_with (first | (go_at_call 32; refine (cP_in _ _ _ _).mono ?_; rintro e w' ⟨rfl, rfl⟩) | (go_at_call 41; refine (cP_Kind _ _).mono ?_; rintro e w' ⟨rfl, rfl⟩) | (go_at_call 42; refine (cP_Numeric _ _).mono ?_; rintro e w' ⟨rfl, rfl⟩))
    all_goals (go_ret; exact ⟨ret_bool (by rw [← numberOk_of ha hb]; rfl), rfl⟩)
set_option maxHeartbeats 1000000 in
theorem cI_NumberOk (n : Int) (w : World) : Calls Try.prog 9 #[.int .i64 n] w fun e w' => e = .returned (.bool (numberOk n)) ∧ w = w' := by
  rcases ha : inB n 1 536870911 with _ | _
  all_goals rcases hb : inB n 19000 19999 with _ | _
  all_goals
    go_enter Try.func9, Try.ntmps9
    go_wp2_with (first | (go_at_call 31; refine (cI_within _ _ _ _).mono ?_; rintro e w' ⟨rfl, rfl⟩) | (go_at_call 40; refine (cI_isKind _ _).mono ?_; rintro e w' ⟨rfl, rfl⟩) | (go_at_call 27; refine (cI_Numeric _ _).mono ?_; rintro e w' ⟨rfl, rfl⟩))
    all_goals (go_ret; exact ⟨ret_bool (by rw [← numberOk_of ha hb]; rfl), rfl⟩)
set_option maxHeartbeats 1000000 in
theorem cP_BitsFit (k u : Int) (w : World) (h1 : 0 ≤ u) (h2 : u ≤ 18446744073709551615) : Calls Try.prog 26 #[.int .i64 k, .int .u64 u] w fun e w' => e = .returned (.bool (fits k u)) ∧ w = w' := by
  obtain ⟨q1, q2, q3, q4, q5, q6, q7, q8⟩ := b8
  obtain ⟨r1, r2, r3, r4, r5, r6, r7, r8⟩ := b5
  rcases kind_cases k with ⟨g8, g5, g4, gg5, g3, g1, g2, hk⟩ | rfl | rfl | rfl | rfl | rfl | rfl | rfl | rfl
  all_goals
    go_enter Try.func26, Try.ntmps26
    go_wp2_with (first | (go_at_call 32; refine (cP_in _ _ _ _).mono ?_; rintro e w' ⟨rfl, rfl⟩) | (go_at_call 41; refine (cP_Kind _ _).mono ?_; rintro e w' ⟨rfl, rfl⟩) | (go_at_call 42; refine (cP_Numeric _ _).mono ?_; rintro e w' ⟨rfl, rfl⟩))
    all_goals (go_ret; exact ⟨ret_bool (by unfold fits; rw [Bool.eq_iff_iff]; first | (simp; done) | (simp; omega)), rfl⟩)
set_option maxHeartbeats 1000000 in
theorem cI_BitsFit (k u : Int) (w : World) (h1 : 0 ≤ u) (h2 : u ≤ 18446744073709551615) : Calls Try.prog 25 #[.int .i64 k, .int .u64 u] w fun e w' => e = .returned (.bool (fits k u)) ∧ w = w' := by
  obtain ⟨q1, q2, q3, q4, q5, q6, q7, q8⟩ := b8
  obtain ⟨r1, r2, r3, r4, r5, r6, r7, r8⟩ := b5
  rcases kind_cases k with ⟨g8, g5, g4, gg5, g3, g1, g2, hk⟩ | rfl | rfl | rfl | rfl | rfl | rfl | rfl | rfl
  all_goals
    go_enter Try.func25, Try.ntmps25
    go_wp2_with (first | (go_at_call 31; refine (cI_within _ _ _ _).mono ?_; rintro e w' ⟨rfl, rfl⟩) | (go_at_call 40; refine (cI_isKind _ _).mono ?_; rintro e w' ⟨rfl, rfl⟩) | (go_at_call 27; refine (cI_Numeric _ _).mono ?_; rintro e w' ⟨rfl, rfl⟩))
    all_goals (go_ret; exact ⟨ret_bool (by unfold fits; rw [Bool.eq_iff_iff]; first | (simp; done) | (simp; omega)), rfl⟩)
set_option maxHeartbeats 1000000 in
theorem cP_WireOk (k : Int) (w : World) : Calls Try.prog 14 #[.int .i64 k] w fun e w' => e = .returned (.bool (wireOk k)) ∧ w = w' := by
  go_enter Try.func14, Try.ntmps14
  go_wp2
  all_goals (go_ret; exact ⟨ret_bool (by unfold wireOk; rw [Bool.eq_iff_iff]; simp; omega), rfl⟩)
set_option maxHeartbeats 1000000 in
theorem cI_WireOk (k : Int) (w : World) : Calls Try.prog 13 #[.int .i64 k] w fun e w' => e = .returned (.bool (wireOk k)) ∧ w = w' := by
  go_enter Try.func13, Try.ntmps13
  go_wp2
  all_goals (go_ret; exact ⟨ret_bool (by unfold wireOk; rw [Bool.eq_iff_iff]; simp; omega), rfl⟩)
set_option maxHeartbeats 1000000 in
theorem cI_WidthOf (k : Int) (w : World) : Calls Try.prog 28 #[.int .i64 k] w fun e w' => e = .returned (.int .i64 (widthOf k)) ∧ w = w' := by
  go_enter Try.func28, Try.ntmps28
  go_wp2
  all_goals (go_ret; exact ⟨ret_int (by unfold widthOf; simp only [beq_iff_eq, beq_eq_false_iff_ne] at *; simp [*]), rfl⟩)
end Go.Proofs.Ytigmncilanejlaa
