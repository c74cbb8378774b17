/- Walks of laws over functions that only compute: each returns true. Conditions: an integer fits its kind. -/
import Derived.Test.YtdoiaddjeifckaaNum
namespace Go.Proofs.Ytdoiaddjeifckaa
open Go.RowKit
set_option linter.unusedVariables false

set_option maxHeartbeats 400000 in
theorem walkFnExactWidthOf (a : Int) (w : World) (ha : (Lit.int .i64 a).wf = true) : Calls Try.prog 3 #[.int .i64 a] w fun e w' => e = .returned (.bool true) ∧ Below w.heap.size w w' := by
  obtain ⟨ha1, ha2⟩ := i64_bd ha
  clear ha
  go_enter Try.func3, Try.ntmps3
  go_wp2_with (first | (go_at_call 15; refine (cP_WidthOf _ _).mono ?_; rintro e w' ⟨rfl, rfl⟩) | (go_at_call 16; refine (cI_WidthOf _ _).mono ?_; rintro e w' ⟨rfl, rfl⟩))
  all_goals (go_ret; exact ⟨rfl, Below.refl _ _⟩)
set_option maxHeartbeats 400000 in
theorem walkFnExactBitsFit (a b : Int) (w : World) (ha : (Lit.int .i64 a).wf = true) (hb : (Lit.int .u64 b).wf = true) : Calls Try.prog 4 #[.int .i64 a, .int .u64 b] w fun e w' => e = .returned (.bool true) ∧ Below w.heap.size w w' := by
  obtain ⟨ha1, ha2⟩ := i64_bd ha
  obtain ⟨hb1, hb2⟩ := u64_bd hb
  clear ha hb
  go_enter Try.func4, Try.ntmps4
  go_wp2_with (first | (go_at_call 17; refine (cP_BitsFit _ _ _ (by omega) (by omega)).mono ?_; rintro e w' ⟨rfl, rfl⟩) | (go_at_call 18; refine (cI_BitsFit _ _ _ (by omega) (by omega)).mono ?_; rintro e w' ⟨rfl, rfl⟩))
  all_goals (go_ret; exact ⟨rfl, Below.refl _ _⟩)
set_option maxHeartbeats 400000 in
theorem walkFnExactWireOf (a : Int) (w : World) (ha : (Lit.int .i64 a).wf = true) : Calls Try.prog 7 #[.int .i64 a] w fun e w' => e = .returned (.bool true) ∧ Below w.heap.size w w' := by
  obtain ⟨ha1, ha2⟩ := i64_bd ha
  clear ha
  go_enter Try.func7, Try.ntmps7
  go_wp2_with (first | (go_at_call 23; refine (cP_WireOf _ _).mono ?_; rintro e w' ⟨rfl, rfl⟩) | (go_at_call 24; refine (cI_WireOf _ _).mono ?_; rintro e w' ⟨rfl, rfl⟩))
  all_goals (go_ret; exact ⟨rfl, Below.refl _ _⟩)
end Go.Proofs.Ytdoiaddjeifckaa
