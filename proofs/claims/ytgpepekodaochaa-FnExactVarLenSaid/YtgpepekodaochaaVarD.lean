/- Contracts of the varint functions, second part. Conditions: an integer fits its kind. -/
import Derived.Test.YtgpepekodaochaaVarC
namespace Go.Proofs.Ytgpepekodaochaa
open Go.RowKit Plain
set_option linter.unusedVariables false
set_option linter.unusedSimpArgs false

theorem padVar_no {u : Nat} {k : Int} (h : inB k (vlen u) 10 = false) : padVar u k = [] := padVar_no' (inB_no h)

theorem cP_VarLen (u : Int) (w : World) (h0 : 0 ≤ u) (h1 : u ≤ 18446744073709551615) : Calls Try.prog 39 #[.int .u64 u] w fun e w' => e = .returned (.int .i64 (vlen u.toNat)) ∧ Below w.heap.size w w' := by
  go_enter Try.func39, Try.ntmps39
  go_wp2_with (go_at_call 49; refine (cP_PutVar _ _ h0 h1).mono ?_; rintro e w' ⟨rfl, hb⟩)
  go_ret
  exact ⟨ret_int (by rw [bs_size]; rfl), hb⟩

def lenOf : Value → Nat
  | .slice _ n _ => n
  | _ => 0
end Go.Proofs.Ytgpepekodaochaa
