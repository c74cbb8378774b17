/- Contracts of both RawOk and of the law's equality of violations; the walks of the exact laws of RawOk and FirstViolation. Conditions: the description can be read. -/
import Derived.Test.YtcoghgpgfaifaaaRawW
import Derived.Test.YtcoghgpgfaifaaaRawO
import Derived.Deep.RegionHeld3
import Derived.Laws.StructEq
namespace Go.Proofs.Ytcoghgpgfaifaaa
open Go.RowKit
set_option linter.unusedVariables false
set_option linter.unusedSimpArgs false
theorem eqViol (c m f c' m' f' : Int) (w : World) : (binOp .eql 40 (.agg #[.int .i64 c, .int .i64 m, .int .i64 f]) (.agg #[.int .i64 c', .int .i64 m', .int .i64 f'])).run Try.prog w = .ok (.bool (c == c' && (m == m' && f == f'))) w := by
  have u3 := Try.underlying3
  have a3 := Try.isAgg3
  have z3 := Try.sizeOf3
  have hS : Try.prog.underlying 40 = some (.struct (Try.prog.fieldsOf 40)) := by kernel_rfl
  have hp : Try.prog.stoodInHeld 40 = false := by kernel_rfl
  rw [run_eql_struct, show (10000 : Nat) = 9999 + 1 from rfl, run_equalIn_agg w 9999 40 _ _ hS hp]
  simp only [Program.fieldsOf, Try.underlying40]
  go_simp
  by_cases h1 : c = c' <;> by_cases h2 : m = m' <;> by_cases h3 : f = f' <;> simp [h1, h2, h3]
theorem grdViol (x y : Operand) (xs ys : Array Value) (w : World) : (eqGuard .eql 40 x y (.agg xs) (.agg ys)).run Try.prog w = .ok () w := run_eqGuard_agg _ _ _ _ _ _ _ (by kernel_rfl)
theorem fAt_ne {ms : List Msg} {i j : Nat} {v : Int × Int × Int} (h : fAt ms i j = some v) : v.1 ≠ 0 := by
  unfold fAt at h
  split at h
  · cases h
  · injection h with h; subst h; assumption
theorem vAt_ne {ms : List Msg} {i : Nat} {v : Int × Int × Int} (h : vAt ms i = some v) : v.1 ≠ 0 := by
  unfold vAt at h
  split at h
  · obtain ⟨j, _, hj⟩ := List.exists_of_findSome?_eq_some h
    exact fAt_ne hj
  · injection h with h; subst h; assumption
theorem firstV_zero {ms : List Msg} (h : (firstV ms).1 = 0) : firstV ms = (0, 0, 0) := by
  unfold firstV at h ⊢
  split at h
  · cases h
  · rename_i h6
    rw [if_neg h6]
    cases hf : (List.range ms.length).findSome? (vAt ms) with
    | none => rfl
    | some v =>
      rw [hf] at h
      obtain ⟨j, _, hj⟩ := List.exists_of_findSome?_eq_some hf
      exact absurd h (vAt_ne hj)
def rawOk (ms : List Msg) : Bool := (firstV ms).1 == 0
theorem rawOk_eq (ms : List Msg) : ((firstV ms).1 == 0 && ((firstV ms).2.1 == 0 && (firstV ms).2.2 == 0)) = rawOk ms := by
  unfold rawOk
  by_cases h : (firstV ms).1 = 0
  · rw [firstV_zero h]; rfl
  · have : ((firstV ms).1 == 0) = false := by simpa using h
    rw [this]; rfl
theorem fldV (x y z : Int) (w : World) : (Instr.field 40 (.agg #[.int .i64 x, .int .i64 y, .int .i64 z]) 0).run Try.prog w = .ok (.int .i64 x) w := by kernel_rfl
set_option maxHeartbeats 1000000 in
theorem cP_RawOk (a : Option Addr) (n c : Nat) (ms : List Msg) (w : World) (hn : ms.length = n) (hle : n ≤ 1048576) (hcap : n ≤ c) (hms : ∀ (j : Nat) (m : Msg), ms[j]? = some m → m.fs.length ≤ 1048576) (hf : MAt w 0 a ms) :
    Calls Try.prog 23 #[.agg #[.slice a n c]] w fun e w' => e = .returned (.bool (rawOk ms)) ∧ Below w.heap.size w w' := by
  have hb0 := below1 w (.cells #[.slice a n c] 29)
  have R0 := Box.new w 29 #[.slice a n c]
  have r0 := R0.cell 0 rfl
  have hC := fun w' hb' => cP_FirstViolation a n c ms w' hn hle hcap hms (hf.below (w' := w') hb')
  have HE : Hid (rawOk ms = ((firstV ms).1 == 0)) := Lib.hid rfl
  unfold vAgg at hC
  generalize (firstV ms).1 = x at hC HE
  generalize (firstV ms).2.1 = y at hC
  generalize (firstV ms).2.2 = z at hC
  have hfl := fun w => fldV x y z w
  clear hms
  go_enter Try.func23, Try.ntmps23
  go_wp2_with (go_at_call 21; refine (hC _ hb0).mono ?_; rintro e w2 ⟨rfl, hb2⟩)
  go_ret
  exact ⟨by rw [HE.out]; rfl, by repeat (first | exact hb0.trans (hb2.mono hb0.size) | refine Below.alloc ?_ (by have := hb0.size; have := hb2.size; omega) _)⟩
set_option maxHeartbeats 1000000 in
theorem cI_RawOk (a : Option Addr) (n c : Nat) (ms : List Msg) (w : World) (hn : ms.length = n) (hle : n ≤ 1048576) (hcap : n ≤ c) (hms : ∀ (j : Nat) (m : Msg), ms[j]? = some m → m.fs.length ≤ 1048576) (hf : MAt w 0 a ms) :
    Calls Try.prog 22 #[.agg #[.slice a n c]] w fun e w' => e = .returned (.bool (rawOk ms)) ∧ Below w.heap.size w w' := by
  have hb0 := below1 w (.cells #[.slice a n c] 29)
  have R0 := Box.new w 29 #[.slice a n c]
  have r0 := R0.cell 0 rfl
  have hC := fun w' hb' => cI_FirstViolation a n c ms w' hn hle hcap hms (hf.below (w' := w') hb')
  have HE : Hid (rawOk ms = ((firstV ms).1 == 0 && ((firstV ms).2.1 == 0 && (firstV ms).2.2 == 0))) := Lib.hid (rawOk_eq ms).symm
  unfold vAgg at hC
  generalize (firstV ms).1 = x at hC HE
  generalize (firstV ms).2.1 = y at hC HE
  generalize (firstV ms).2.2 = z at hC HE
  have hq := fun w => eqViol x y z 0 0 0 w
  have hg := fun a b w => grdViol a b #[.int .i64 x, .int .i64 y, .int .i64 z] #[.int .i64 0, .int .i64 0, .int .i64 0] w
  clear hms
  go_enter Try.func22, Try.ntmps22
  go_wp2_with (go_at_call 20; refine (hC _ hb0).mono ?_; rintro e w2 ⟨rfl, hb2⟩)
  go_ret
  exact ⟨by rw [HE.out]; rfl, by repeat (first | exact hb0.trans (hb2.mono hb0.size) | refine Below.alloc ?_ (by have := hb0.size; have := hb2.size; omega) _)⟩
theorem cL_eqViolation (x y z : Int) (w : World) : Calls Try.prog 24 #[.agg #[.int .i64 x, .int .i64 y, .int .i64 z], .agg #[.int .i64 x, .int .i64 y, .int .i64 z]] w fun e w' => e = .returned (.bool true) ∧ Below w.heap.size w w' := by
  go_enter Try.func24, Try.ntmps24
  go_wp2
  go_ret
  exact ⟨rfl, below2 _ _ _⟩
end Go.Proofs.Ytcoghgpgfaifaaa
