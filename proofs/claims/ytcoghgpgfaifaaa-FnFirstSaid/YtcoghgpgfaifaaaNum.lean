/- Contracts of functions that only compute: what each returns; memory is untouched. Conditions: an integer fits its kind. -/
import Derived.Test.YtcoghgpgfaifaaaBase
import Derived.Test.YtcoghgpgfaifaaaBits
namespace Go.Proofs.Ytcoghgpgfaifaaa
open Go.RowKit
set_option linter.unusedVariables false

set_option linter.unusedSimpArgs false
def inB (n a b : Int) : Bool := decide (a ≤ n) && decide (n ≤ b)
theorem inB_yes {n a b : Int} (h : inB n a b = true) : a ≤ n ∧ n ≤ b := by simpa [inB] using h
theorem inB_no {n a b : Int} (h : inB n a b = false) : n < a ∨ b < n := by simp [inB] at h; omega
theorem inB_mk {n a b : Int} (h1 : a ≤ n) (h2 : n ≤ b) : inB n a b = true := by simp [inB, h1, h2]
theorem inB_mk_no {n a b : Int} (h : n < a ∨ b < n) : inB n a b = false := by simp [inB]; omega
theorem cI_within (n a b : Int) (w : World) : Calls Try.prog 33 #[.int .i64 n, .int .i64 a, .int .i64 b] w fun e w' => e = .returned (.bool (inB n a b)) ∧ w = w' := by
  by_cases h : a ≤ n
  all_goals
    go_enter Try.func33, Try.ntmps33
    go_wp2
    go_ret
    exact ⟨ret_bool (by simp [inB]; omega), rfl⟩
theorem cP_in (n a b : Int) (w : World) : Calls Try.prog 31 #[.int .i64 n, .int .i64 a, .int .i64 b] w fun e w' => e = .returned (.bool (inB n a b)) ∧ w = w' := by
  by_cases h : a ≤ n
  all_goals
    go_enter Try.func31, Try.ntmps31
    go_wp2
    go_ret
    exact ⟨ret_bool (by simp [inB]; omega), rfl⟩
/- tags -/
def tagOk (u : Int) : Bool := decide (8 ≤ u) && decide (u ≤ 4294967295)
def tagNum (u : Int) : Int := if 8 ≤ u ∧ u ≤ 4294967295 then u / 8 else 0
def tagWire (u : Int) : Int := if 8 ≤ u ∧ u ≤ 4294967295 then u % 8 else 0
theorem tag_yes {u : Int} (h1 : 8 ≤ u) (h2 : u ≤ 4294967295) : tagOk u = true ∧ tagNum u = u / 8 ∧ tagWire u = u % 8 := by
  simp [tagOk, tagNum, tagWire, h1, h2]
theorem tag_no {u : Int} (h : u < 8 ∨ 4294967295 < u) : tagOk u = false ∧ tagNum u = 0 ∧ tagWire u = 0 := by
  refine ⟨by simp [tagOk]; omega, ?_, ?_⟩ <;> (first | unfold tagNum | unfold tagWire) <;> rw [if_neg (by omega)]
theorem ret_tag {u a b : Int} {c : Bool} (h : tagOk u = c ∧ tagNum u = a ∧ tagWire u = b) : Ending.returned (.tuple #[.int .i64 a, .int .i64 b, .bool c]) = .returned (.tuple #[.int .i64 (tagNum u), .int .i64 (tagWire u), .bool (tagOk u)]) := by
  rw [h.1, h.2.1, h.2.2]
theorem ret_tag7 {u a b b' : Int} {c : Bool} (h : tagOk u = c ∧ tagNum u = a ∧ tagWire u = b) (hb : b' = b) : Ending.returned (.tuple #[.int .i64 a, .int .i64 b', .bool c]) = .returned (.tuple #[.int .i64 (tagNum u), .int .i64 (tagWire u), .bool (tagOk u)]) := by
  rw [h.1, h.2.1, h.2.2, hb]
def tagOf (n k : Int) : Int := if 1 ≤ n ∧ n ≤ 536870911 ∧ 0 ≤ k ∧ k ≤ 7 then 8 * n + k else 0
/- kinds -/
def wireOf (k : Int) : Int := if k = 4 then 5 else if k = 5 then 1 else if 1 ≤ k ∧ k ≤ 3 then 0 else if 6 ≤ k ∧ k ≤ 8 then 2 else -1
def numeric (k : Int) : Bool := decide (1 ≤ k) && decide (k ≤ 5)
def fits (k u : Int) : Bool := decide (k = 1 ∨ k = 2 ∨ k = 5 ∨ (k = 3 ∧ u ≤ 1) ∨ (k = 4 ∧ u ≤ 4294967295))
def wireOk (k : Int) : Bool := decide (k = 0 ∨ k = 1 ∨ k = 2 ∨ k = 5)
def widthOf (k : Int) : Int := if k = 1 then 8 else if k = 5 then 4 else 0
def numberOk (n : Int) : Bool := decide (1 ≤ n ∧ n ≤ 536870911 ∧ ¬ (19000 ≤ n ∧ n ≤ 19999))
theorem cI_isKind (k : Int) (w : World) : Calls Try.prog 43 #[.int .i64 k] w fun e w' => e = .returned (.bool (inB k 1 8)) ∧ w = w' := by
  go_enter Try.func43, Try.ntmps43
  go_wp2_with (go_at_call 33; refine (cI_within _ _ _ _).mono ?_; rintro e w' ⟨rfl, rfl⟩)
  go_ret
  exact ⟨rfl, rfl⟩
theorem cP_Kind (k : Int) (w : World) : Calls Try.prog 38 #[.int .i64 k] w fun e w' => e = .returned (.bool (inB k 1 8)) ∧ w = w' := by
  go_enter Try.func38, Try.ntmps38
  go_wp2_with (go_at_call 31; refine (cP_in _ _ _ _).mono ?_; rintro e w' ⟨rfl, rfl⟩)
  go_ret
  exact ⟨rfl, rfl⟩
theorem cP_Numeric (k : Int) (w : World) : Calls Try.prog 39 #[.int .i64 k] w fun e w' => e = .returned (.bool (inB k 1 5)) ∧ w = w' := by
  go_enter Try.func39, Try.ntmps39
  go_wp2_with (go_at_call 31; refine (cP_in _ _ _ _).mono ?_; rintro e w' ⟨rfl, rfl⟩)
  go_ret
  exact ⟨rfl, rfl⟩
theorem cI_Numeric (k : Int) (w : World) : Calls Try.prog 44 #[.int .i64 k] w fun e w' => e = .returned (.bool (inB k 1 5)) ∧ w = w' := by
  go_enter Try.func44, Try.ntmps44
  go_wp2_with (go_at_call 33; refine (cI_within _ _ _ _).mono ?_; rintro e w' ⟨rfl, rfl⟩)
  go_ret
  exact ⟨rfl, rfl⟩
theorem kind_cases (k : Int) : (inB k 1 8 = false ∧ inB k 1 5 = false ∧ (k == 4) = false ∧ (k == 5) = false ∧ (k == 3) = false ∧ (k == 1) = false ∧ (k == 2) = false ∧ (k < 1 ∨ 8 < k)) ∨ k = 1 ∨ k = 2 ∨ k = 3 ∨ k = 4 ∨ k = 5 ∨ k = 6 ∨ k = 7 ∨ k = 8 := by
  by_cases h : k < 1 ∨ 8 < k
  · left; refine ⟨inB_mk_no h, inB_mk_no (by omega), ?_, ?_, ?_, ?_, ?_, h⟩ <;> (rw [beq_eq_false_iff_ne]; omega)
  · right; omega
theorem b8 : inB 1 1 8 = true ∧ inB 2 1 8 = true ∧ inB 3 1 8 = true ∧ inB 4 1 8 = true ∧ inB 5 1 8 = true ∧ inB 6 1 8 = true ∧ inB 7 1 8 = true ∧ inB 8 1 8 = true := by decide
theorem b5 : inB 1 1 5 = true ∧ inB 2 1 5 = true ∧ inB 3 1 5 = true ∧ inB 4 1 5 = true ∧ inB 5 1 5 = true ∧ inB 6 1 5 = false ∧ inB 7 1 5 = false ∧ inB 8 1 5 = false := by decide
theorem numberOk_of {n : Int} {a b : Bool} (ha : inB n 1 536870911 = a) (hb : inB n 19000 19999 = b) : (a && !b) = numberOk n := by
  subst ha hb; simp only [inB, numberOk]; rw [Bool.eq_iff_iff]; simp; omega
set_option maxHeartbeats 1000000 in
theorem cP_NumberOk (n : Int) (w : World) : Calls Try.prog 36 #[.int .i64 n] w fun e w' => e = .returned (.bool (numberOk n)) ∧ w = w' := by
  rcases ha : inB n 1 536870911 with _ | _
  all_goals rcases hb : inB n 19000 19999 with _ | _
  all_goals
    go_enter Try.func36, Try.ntmps36
    go_wp2_with (first | (go_at_call 31; refine (cP_in _ _ _ _).mono ?_; rintro e w' ⟨rfl, rfl⟩) | (go_at_call 38; refine (cP_Kind _ _).mono ?_; rintro e w' ⟨rfl, rfl⟩) | (go_at_call 39; refine (cP_Numeric _ _).mono ?_; rintro e w' ⟨rfl, rfl⟩))
    all_goals (go_ret; exact ⟨ret_bool (by rw [← numberOk_of ha hb]; rfl), rfl⟩)
set_option maxHeartbeats 1000000 in
theorem cI_NumberOk (n : Int) (w : World) : Calls Try.prog 40 #[.int .i64 n] w fun e w' => e = .returned (.bool (numberOk n)) ∧ w = w' := by
  rcases ha : inB n 1 536870911 with _ | _
  all_goals rcases hb : inB n 19000 19999 with _ | _
  all_goals
    go_enter Try.func40, Try.ntmps40
    go_wp2_with (first | (go_at_call 33; refine (cI_within _ _ _ _).mono ?_; rintro e w' ⟨rfl, rfl⟩) | (go_at_call 43; refine (cI_isKind _ _).mono ?_; rintro e w' ⟨rfl, rfl⟩) | (go_at_call 44; refine (cI_Numeric _ _).mono ?_; rintro e w' ⟨rfl, rfl⟩))
    all_goals (go_ret; exact ⟨ret_bool (by rw [← numberOk_of ha hb]; rfl), rfl⟩)
end Go.Proofs.Ytcoghgpgfaifaaa
