/- Walks of laws over functions that only compute: each returns true. Conditions: an integer fits its kind. -/
import Derived.Test.YtgpepekodaochaaNum
namespace Go.Proofs.Ytgpepekodaochaa
open Go.RowKit
set_option linter.unusedVariables false

theorem walkFnExactConstants (w : World) : Calls Try.prog 3 #[] w fun e w' => e = .returned (.bool true) ∧ Below w.heap.size w w' := by
  go_enter Try.func3, Try.ntmps3
  go_wp2
  go_ret
  exact ⟨rfl, Below.refl _ _⟩
set_option maxHeartbeats 400000 in
theorem walkFnExactWireOk (a : Int) (w : World) (ha : (Lit.int .i64 a).wf = true) : Calls Try.prog 4 #[.int .i64 a] w fun e w' => e = .returned (.bool true) ∧ Below w.heap.size w w' := by
  obtain ⟨ha1, ha2⟩ := i64_bd ha
  clear ha
  go_enter Try.func4, Try.ntmps4
  go_wp2_with (first | (go_at_call 15; refine (cP_WireOk _ _).mono ?_; rintro e w' ⟨rfl, rfl⟩) | (go_at_call 16; refine (cI_WireOk _ _).mono ?_; rintro e w' ⟨rfl, rfl⟩))
  all_goals (go_ret; exact ⟨rfl, Below.refl _ _⟩)
set_option maxHeartbeats 400000 in
theorem walkFnExactNumberOk (a : Int) (w : World) (ha : (Lit.int .i64 a).wf = true) : Calls Try.prog 5 #[.int .i64 a] w fun e w' => e = .returned (.bool true) ∧ Below w.heap.size w w' := by
  obtain ⟨ha1, ha2⟩ := i64_bd ha
  clear ha
  go_enter Try.func5, Try.ntmps5
  go_wp2_with (first | (go_at_call 17; refine (cP_NumberOk _ _).mono ?_; rintro e w' ⟨rfl, rfl⟩) | (go_at_call 18; refine (cI_NumberOk _ _).mono ?_; rintro e w' ⟨rfl, rfl⟩))
  all_goals (go_ret; exact ⟨rfl, Below.refl _ _⟩)
set_option maxHeartbeats 400000 in
theorem walkFnExactNumeric (a : Int) (w : World) (ha : (Lit.int .i64 a).wf = true) : Calls Try.prog 6 #[.int .i64 a] w fun e w' => e = .returned (.bool true) ∧ Below w.heap.size w w' := by
  obtain ⟨ha1, ha2⟩ := i64_bd ha
  clear ha
  go_enter Try.func6, Try.ntmps6
  go_wp2_with (first | (go_at_call 19; refine (cP_Numeric _ _).mono ?_; rintro e w' ⟨rfl, rfl⟩) | (go_at_call 20; refine (cI_Numeric _ _).mono ?_; rintro e w' ⟨rfl, rfl⟩))
  all_goals (go_ret; exact ⟨rfl, Below.refl _ _⟩)
set_option maxHeartbeats 400000 in
theorem walkFnExactZig (a : Int) (w : World) (ha : (Lit.int .i64 a).wf = true) : Calls Try.prog 7 #[.int .i64 a] w fun e w' => e = .returned (.bool true) ∧ Below w.heap.size w w' := by
  obtain ⟨ha1, ha2⟩ := i64_bd ha
  clear ha
  go_enter Try.func7, Try.ntmps7
  go_wp2_with (first | (go_at_call 21; refine (cP_Zig _ _ (by omega) (by omega)).mono ?_; rintro e w' ⟨rfl, rfl⟩) | (go_at_call 22; refine (cI_Zig _ _ (by omega) (by omega)).mono ?_; rintro e w' ⟨rfl, rfl⟩))
  all_goals (go_ret; exact ⟨rfl, Below.refl _ _⟩)
set_option maxHeartbeats 400000 in
theorem walkFnExactUnzig (a : Int) (w : World) (ha : (Lit.int .u64 a).wf = true) : Calls Try.prog 8 #[.int .u64 a] w fun e w' => e = .returned (.bool true) ∧ Below w.heap.size w w' := by
  obtain ⟨ha1, ha2⟩ := u64_bd ha
  clear ha
  go_enter Try.func8, Try.ntmps8
  go_wp2_with (first | (go_at_call 23; refine (cP_Unzig _ _ (by omega) (by omega)).mono ?_; rintro e w' ⟨rfl, rfl⟩) | (go_at_call 24; refine (cI_Unzig _ _ (by omega) (by omega)).mono ?_; rintro e w' ⟨rfl, rfl⟩))
  all_goals (go_ret; exact ⟨rfl, Below.refl _ _⟩)
set_option maxHeartbeats 400000 in
theorem walkFnExactTagIn (a : Int) (w : World) (ha : (Lit.int .u64 a).wf = true) : Calls Try.prog 9 #[.int .u64 a] w fun e w' => e = .returned (.bool true) ∧ Below w.heap.size w w' := by
  obtain ⟨ha1, ha2⟩ := u64_bd ha
  clear ha
  go_enter Try.func9, Try.ntmps9
  go_wp2_with (first | (go_at_call 25; refine (cP_TagIn _ _ (by omega) (by omega)).mono ?_; rintro e w' ⟨rfl, rfl⟩) | (go_at_call 26; refine (cI_TagIn _ _ (by omega) (by omega)).mono ?_; rintro e w' ⟨rfl, rfl⟩))
  all_goals (go_ret; exact ⟨rfl, Below.refl _ _⟩)
set_option maxHeartbeats 400000 in
theorem walkFnExactTagOf (a b : Int) (w : World) (ha : (Lit.int .i64 a).wf = true) (hb : (Lit.int .i64 b).wf = true) : Calls Try.prog 12 #[.int .i64 a, .int .i64 b] w fun e w' => e = .returned (.bool true) ∧ Below w.heap.size w w' := by
  obtain ⟨ha1, ha2⟩ := i64_bd ha
  obtain ⟨hb1, hb2⟩ := i64_bd hb
  clear ha hb
  go_enter Try.func12, Try.ntmps12
  go_wp2_with (first | (go_at_call 37; refine (cP_TagOf _ _ _ (by omega) (by omega) (by omega) (by omega)).mono ?_; rintro e w' ⟨rfl, rfl⟩) | (go_at_call 38; refine (cI_TagOf _ _ _ (by omega) (by omega) (by omega) (by omega)).mono ?_; rintro e w' ⟨rfl, rfl⟩))
  all_goals (go_ret; exact ⟨rfl, Below.refl _ _⟩)
theorem ixWord0 (w : World) : (Instr.index 57 (.agg #[.string ⟨#[117, 105, 110, 116]⟩, .string ⟨#[115, 105, 110, 116]⟩, .string ⟨#[98, 111, 111, 108]⟩, .string ⟨#[102, 111, 117, 114]⟩, .string ⟨#[101, 105, 103, 104, 116]⟩, .string ⟨#[116, 101, 120, 116]⟩, .string ⟨#[98, 121, 116, 101, 115]⟩, .string ⟨#[109, 115, 103]⟩]) (.int .i64 0)).run Try.prog w = .ok (.string ⟨#[117, 105, 110, 116]⟩) w := by kernel_rfl
theorem ixWord1 (w : World) : (Instr.index 57 (.agg #[.string ⟨#[117, 105, 110, 116]⟩, .string ⟨#[115, 105, 110, 116]⟩, .string ⟨#[98, 111, 111, 108]⟩, .string ⟨#[102, 111, 117, 114]⟩, .string ⟨#[101, 105, 103, 104, 116]⟩, .string ⟨#[116, 101, 120, 116]⟩, .string ⟨#[98, 121, 116, 101, 115]⟩, .string ⟨#[109, 115, 103]⟩]) (.int .i64 1)).run Try.prog w = .ok (.string ⟨#[115, 105, 110, 116]⟩) w := by kernel_rfl
theorem ixWord2 (w : World) : (Instr.index 57 (.agg #[.string ⟨#[117, 105, 110, 116]⟩, .string ⟨#[115, 105, 110, 116]⟩, .string ⟨#[98, 111, 111, 108]⟩, .string ⟨#[102, 111, 117, 114]⟩, .string ⟨#[101, 105, 103, 104, 116]⟩, .string ⟨#[116, 101, 120, 116]⟩, .string ⟨#[98, 121, 116, 101, 115]⟩, .string ⟨#[109, 115, 103]⟩]) (.int .i64 2)).run Try.prog w = .ok (.string ⟨#[98, 111, 111, 108]⟩) w := by kernel_rfl
theorem ixWord3 (w : World) : (Instr.index 57 (.agg #[.string ⟨#[117, 105, 110, 116]⟩, .string ⟨#[115, 105, 110, 116]⟩, .string ⟨#[98, 111, 111, 108]⟩, .string ⟨#[102, 111, 117, 114]⟩, .string ⟨#[101, 105, 103, 104, 116]⟩, .string ⟨#[116, 101, 120, 116]⟩, .string ⟨#[98, 121, 116, 101, 115]⟩, .string ⟨#[109, 115, 103]⟩]) (.int .i64 3)).run Try.prog w = .ok (.string ⟨#[102, 111, 117, 114]⟩) w := by kernel_rfl
theorem ixWord4 (w : World) : (Instr.index 57 (.agg #[.string ⟨#[117, 105, 110, 116]⟩, .string ⟨#[115, 105, 110, 116]⟩, .string ⟨#[98, 111, 111, 108]⟩, .string ⟨#[102, 111, 117, 114]⟩, .string ⟨#[101, 105, 103, 104, 116]⟩, .string ⟨#[116, 101, 120, 116]⟩, .string ⟨#[98, 121, 116, 101, 115]⟩, .string ⟨#[109, 115, 103]⟩]) (.int .i64 4)).run Try.prog w = .ok (.string ⟨#[101, 105, 103, 104, 116]⟩) w := by kernel_rfl
theorem ixWord5 (w : World) : (Instr.index 57 (.agg #[.string ⟨#[117, 105, 110, 116]⟩, .string ⟨#[115, 105, 110, 116]⟩, .string ⟨#[98, 111, 111, 108]⟩, .string ⟨#[102, 111, 117, 114]⟩, .string ⟨#[101, 105, 103, 104, 116]⟩, .string ⟨#[116, 101, 120, 116]⟩, .string ⟨#[98, 121, 116, 101, 115]⟩, .string ⟨#[109, 115, 103]⟩]) (.int .i64 5)).run Try.prog w = .ok (.string ⟨#[116, 101, 120, 116]⟩) w := by kernel_rfl
theorem ixWord6 (w : World) : (Instr.index 57 (.agg #[.string ⟨#[117, 105, 110, 116]⟩, .string ⟨#[115, 105, 110, 116]⟩, .string ⟨#[98, 111, 111, 108]⟩, .string ⟨#[102, 111, 117, 114]⟩, .string ⟨#[101, 105, 103, 104, 116]⟩, .string ⟨#[116, 101, 120, 116]⟩, .string ⟨#[98, 121, 116, 101, 115]⟩, .string ⟨#[109, 115, 103]⟩]) (.int .i64 6)).run Try.prog w = .ok (.string ⟨#[98, 121, 116, 101, 115]⟩) w := by kernel_rfl
theorem ixWord7 (w : World) : (Instr.index 57 (.agg #[.string ⟨#[117, 105, 110, 116]⟩, .string ⟨#[115, 105, 110, 116]⟩, .string ⟨#[98, 111, 111, 108]⟩, .string ⟨#[102, 111, 117, 114]⟩, .string ⟨#[101, 105, 103, 104, 116]⟩, .string ⟨#[116, 101, 120, 116]⟩, .string ⟨#[98, 121, 116, 101, 115]⟩, .string ⟨#[109, 115, 103]⟩]) (.int .i64 7)).run Try.prog w = .ok (.string ⟨#[109, 115, 103]⟩) w := by kernel_rfl
set_option maxHeartbeats 1000000 in
theorem walkFnExactKindWord (a : Int) (w : World) (ha : (Lit.int .i64 a).wf = true) : Calls Try.prog 14 #[.int .i64 a] w fun e w' => e = .returned (.bool true) ∧ Below w.heap.size w w' := by
  clear ha
  obtain ⟨q1, q2, q3, q4, q5, q6, q7, q8⟩ := b8
  have i0 := ixWord0
  have i1 := ixWord1
  have i2 := ixWord2
  have i3 := ixWord3
  have i4 := ixWord4
  have i5 := ixWord5
  have i6 := ixWord6
  have i7 := ixWord7
  rcases kind_cases a with ⟨g8, g5, g4, gg5, g3, g1, g2, hk⟩ | rfl | rfl | rfl | rfl | rfl | rfl | rfl | rfl
  all_goals
    go_enter Try.func14, Try.ntmps14
    go_wp2_with (first | (go_at_call 51; refine (cI_isKind _ _).mono ?_; rintro e w' ⟨rfl, rfl⟩) | (go_at_call 50; refine (cP_Kind _ _).mono ?_; rintro e w' ⟨rfl, rfl⟩) | go_in)
  all_goals (go_ret; exact ⟨rfl, by repeat (first | exact Below.refl _ _ | exact (Below.refl _ _).alloc (Nat.le_refl _) _)⟩)
end Go.Proofs.Ytgpepekodaochaa
