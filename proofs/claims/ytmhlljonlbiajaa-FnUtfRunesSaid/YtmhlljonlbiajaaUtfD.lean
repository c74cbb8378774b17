/- Contracts of the functions on states of a validator of UTF-8, the second part. Conditions: integers fit their kinds. -/
import Derived.Test.YtmhlljonlbiajaaUtfC
namespace Go.Proofs.Ytmhlljonlbiajaa
open Go.RowKit Plain
set_option linter.unusedVariables false
set_option linter.unusedSimpArgs false
set_option maxHeartbeats 4000000 in
theorem cP_UtfOk (W L H : Int) (w : World) : Calls Try.prog 15 #[.agg #[.int .i64 W, .int .i64 L, .int .i64 H]] w fun e w' => e = .returned (.bool (okSt (W, L, H))) ∧ Below w.heap.size w w' := by
  rcases st_split W L H with ⟨e, h⟩ | ⟨e, h⟩
  · rw [e]
    clear e
    have b1 : inB 1 1 3 = true := by decide
    have b2 : inB 2 1 3 = true := by decide
    have b3 : inB 3 1 3 = true := by decide
    rcases h with ⟨rfl, rfl, rfl⟩ | ⟨rfl, rfl, rfl⟩ | ⟨rfl, rfl, rfl⟩ | ⟨rfl, rfl, rfl⟩ | ⟨rfl, rfl, rfl⟩ | ⟨rfl, rfl, rfl⟩ | ⟨rfl, rfl, rfl⟩ | ⟨rfl, rfl, rfl⟩
    all_goals
      go_enter Try.func15, Try.ntmps15
      go_wp2_with (go_at_call 32; refine (cP_in _ _ _ _).mono ?_; rintro e w' ⟨rfl, rfl⟩)
      go_ret
      exact ⟨rfl, by repeat (first | exact Below.refl _ _ | refine Below.alloc ?_ (by simp; omega) _ | refine Below.alloc ?_ (by simp) _)⟩
  · rw [e]
    clear e
    have b0 : inB 0 1 3 = false := by decide
    have h' : ∀ n : Int, n < 1 ∨ 3 < n → inB n 1 3 = false := fun n h => inB_mk_no h
    have H' := Lib.hid h'
    clear h'
    rcases h with ⟨rfl, h1⟩ | ⟨rfl, rfl, h1⟩ | ⟨rfl, h1⟩ | ⟨rfl, rfl, h1⟩ | ⟨rfl, rfl, h1, h2⟩ | ⟨rfl, rfl, h1⟩ | ⟨rfl, h1, h2⟩ | ⟨rfl, rfl, h1, h2⟩ | ⟨rfl, rfl, h1⟩ | ⟨rfl, h1, h2⟩ | ⟨h1, h2, h3, h4, h5⟩
    all_goals try have h6 := H'.out _ (by assumption)
    all_goals
      go_enter Try.func15, Try.ntmps15
      go_wp2_with (go_at_call 32; refine (cP_in _ _ _ _).mono ?_; rintro e w' ⟨rfl, rfl⟩)
      all_goals go_ret
      all_goals exact ⟨ret_bool (by first | rfl | (simp_all; done)), by repeat (first | exact Below.refl _ _ | refine Below.alloc ?_ (by simp; omega) _ | refine Below.alloc ?_ (by simp) _)⟩
end Go.Proofs.Ytmhlljonlbiajaa
