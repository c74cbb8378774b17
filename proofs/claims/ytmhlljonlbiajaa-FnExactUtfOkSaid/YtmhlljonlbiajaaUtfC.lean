/- Contracts of the functions on states of a validator of UTF-8. Conditions: integers fit their kinds. -/
import Derived.Test.YtmhlljonlbiajaaRow
import Derived.Test.YtmhlljonlbiajaaUtfR
import Derived.Test.YtmhlljonlbiajaaNum
namespace Go.Proofs.Ytmhlljonlbiajaa
open Go.RowKit Plain
set_option linter.unusedVariables false
set_option linter.unusedSimpArgs false
/-- a state as the program has it -/
def stV (u : (Int × Int × Int)) : Value := .agg #[.int .i64 u.1, .int .i64 u.2.1, .int .i64 u.2.2]
theorem st_split (W L H : Int) : (okSt (W, L, H) = true ∧ ((W = 0 ∧ L = 0 ∧ H = 0) ∨ (W = 1 ∧ L = 128 ∧ H = 191) ∨ (W = 2 ∧ L = 128 ∧ H = 191) ∨ (W = 3 ∧ L = 128 ∧ H = 191) ∨ (W = 2 ∧ L = 160 ∧ H = 191) ∨ (W = 2 ∧ L = 128 ∧ H = 159) ∨ (W = 3 ∧ L = 144 ∧ H = 191) ∨ (W = 3 ∧ L = 128 ∧ H = 143))) ∨
    (okSt (W, L, H) = false ∧ ((W = 0 ∧ (L == 0) = false) ∨ (W = 0 ∧ L = 0 ∧ (H == 0) = false) ∨ (W = 1 ∧ (L == 128) = false) ∨ (W = 1 ∧ L = 128 ∧ (H == 191) = false) ∨
      (W = 2 ∧ L = 128 ∧ (H == 191) = false ∧ (H == 159) = false) ∨ (W = 2 ∧ L = 160 ∧ (H == 191) = false) ∨ (W = 2 ∧ (L == 128) = false ∧ (L == 160) = false) ∨
      (W = 3 ∧ L = 128 ∧ (H == 191) = false ∧ (H == 143) = false) ∨ (W = 3 ∧ L = 144 ∧ (H == 191) = false) ∨ (W = 3 ∧ (L == 128) = false ∧ (L == 144) = false) ∨
      ((W == 0) = false ∧ (W == 1) = false ∧ (W == 2) = false ∧ (W == 3) = false ∧ (W < 1 ∨ 3 < W)))) := by
  by_cases w0 : W = 0
  · subst w0
    by_cases l : L = 0
    · subst l
      by_cases h : H = 0
      · subst h; exact .inl ⟨by decide, by simp⟩
      · exact .inr ⟨by simp [okSt, h], by simp [h]⟩
    · exact .inr ⟨by simp [okSt, l], by simp [l]⟩
  · by_cases w1 : W = 1
    · subst w1
      by_cases l : L = 128
      · subst l
        by_cases h : H = 191
        · subst h; exact .inl ⟨by decide, by simp⟩
        · exact .inr ⟨by simp [okSt, h], by simp [h]⟩
      · exact .inr ⟨by simp [okSt, l], by simp [l]⟩
    · by_cases w2 : W = 2
      · subst w2
        by_cases l : L = 128
        · subst l
          by_cases h : H = 191
          · subst h; exact .inl ⟨by decide, by simp⟩
          · by_cases h' : H = 159
            · subst h'; exact .inl ⟨by decide, by simp⟩
            · exact .inr ⟨by simp [okSt, h, h'], by simp [h, h']⟩
        · by_cases l' : L = 160
          · subst l'
            by_cases h : H = 191
            · subst h; exact .inl ⟨by decide, by simp⟩
            · exact .inr ⟨by simp [okSt, h], by simp [h]⟩
          · exact .inr ⟨by simp [okSt, l, l'], by simp [l, l']⟩
      · by_cases w3 : W = 3
        · subst w3
          by_cases l : L = 128
          · subst l
            by_cases h : H = 191
            · subst h; exact .inl ⟨by decide, by simp⟩
            · by_cases h' : H = 143
              · subst h'; exact .inl ⟨by decide, by simp⟩
              · exact .inr ⟨by simp [okSt, h, h'], by simp [h, h']⟩
          · by_cases l' : L = 144
            · subst l'
              by_cases h : H = 191
              · subst h; exact .inl ⟨by decide, by simp⟩
              · exact .inr ⟨by simp [okSt, h], by simp [h]⟩
            · exact .inr ⟨by simp [okSt, l, l'], by simp [l, l']⟩
        · exact .inr ⟨by simp [okSt, w0, w1, w2, w3], by simp [w0, w1, w2, w3]; omega⟩
theorem below_some {w w' : World} {n : Nat} (h : Below w.heap.size w w') : Below w.heap.size w w' := h
set_option maxHeartbeats 4000000 in
theorem cI_UtfOk (W L H : Int) (w : World) : Calls Try.prog 17 #[.agg #[.int .i64 W, .int .i64 L, .int .i64 H]] w fun e w' => e = .returned (.bool (okSt (W, L, H))) ∧ Below w.heap.size w w' := by
  rcases st_split W L H with ⟨e, h⟩ | ⟨e, h⟩
  · rw [e]
    clear e
    rcases h with ⟨rfl, rfl, rfl⟩ | ⟨rfl, rfl, rfl⟩ | ⟨rfl, rfl, rfl⟩ | ⟨rfl, rfl, rfl⟩ | ⟨rfl, rfl, rfl⟩ | ⟨rfl, rfl, rfl⟩ | ⟨rfl, rfl, rfl⟩ | ⟨rfl, rfl, rfl⟩
    all_goals
      go_enter Try.func17, Try.ntmps17
      go_wp2
      go_ret
      exact ⟨rfl, by repeat (first | exact Below.refl _ _ | refine Below.alloc ?_ (by simp; omega) _ | refine Below.alloc ?_ (by simp) _)⟩
  · rw [e]
    clear e
    rcases h with ⟨rfl, h1⟩ | ⟨rfl, rfl, h1⟩ | ⟨rfl, h1⟩ | ⟨rfl, rfl, h1⟩ | ⟨rfl, rfl, h1, h2⟩ | ⟨rfl, rfl, h1⟩ | ⟨rfl, h1, h2⟩ | ⟨rfl, rfl, h1, h2⟩ | ⟨rfl, rfl, h1⟩ | ⟨rfl, h1, h2⟩ | ⟨h1, h2, h3, h4, h5⟩
    all_goals
      go_enter Try.func17, Try.ntmps17
      go_wp2
      go_ret
      exact ⟨rfl, by repeat (first | exact Below.refl _ _ | refine Below.alloc ?_ (by simp; omega) _ | refine Below.alloc ?_ (by simp) _)⟩
end Go.Proofs.Ytmhlljonlbiajaa
