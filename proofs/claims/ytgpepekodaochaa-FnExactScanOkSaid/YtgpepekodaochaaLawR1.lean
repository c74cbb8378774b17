/- Walks of the exact laws of VarLen and ScanOk. Conditions: integers fit their kinds. -/
import Derived.Test.YtgpepekodaochaaVarD
import Derived.Test.YtgpepekodaochaaScanC
namespace Go.Proofs.Ytgpepekodaochaa
open Go.RowKit Plain
set_option linter.unusedVariables false
set_option linter.unusedSimpArgs false
theorem walkFnExactVarLen (u : Int) (w : World) (h : (Lit.int .u64 u).wf = true) : Calls Try.prog 13 #[.int .u64 u] w fun e w' => e = .returned (.bool true) ∧ Below w.heap.size w w' := by
  obtain ⟨h0, h1⟩ := u64_bd h
  clear h
  go_enter Try.func13, Try.ntmps13
  go_wp2_with fail
  refine (cP_VarLen _ _ h0 h1).mono ?_
  rintro e w1 ⟨rfl, hb1⟩
  go_wp2_with fail
  refine (cI_VarLen _ _ h0 h1).mono ?_
  rintro e w2 ⟨rfl, rfl⟩
  go_wp2
  go_ret
  exact ⟨rfl, hb1⟩
theorem cL_toScan' (b h : Int) (w : World) : Calls Try.prog 35 #[.agg #[.int .u64 b, .int .i64 h]] w fun e w' => e = .returned (.agg #[.int .u64 b, .int .i64 h]) ∧ Below w.heap.size w w' := by
  go_enter Try.func35, Try.ntmps35
  go_wp2
  exact bodyPost_ret (v := .agg #[.int .u64 b, .int .i64 h]) (by simp [results, Try.results35, go_sem]) rfl ⟨rfl, by repeat (first | exact Below.refl _ _ | refine Below.setCell ?_ (by simp) _ | refine Below.alloc ?_ (by simp; omega) _ | refine Below.alloc ?_ (by simp) _)⟩
theorem walkFnExactScanOk (b h : Int) (w : World) (hb : (Lit.int .u64 b).wf = true) (hh : (Lit.int .i64 h).wf = true) : Calls Try.prog 11 #[.agg #[.int .u64 b, .int .i64 h]] w fun e w' => e = .returned (.bool true) ∧ Below w.heap.size w w' := by
  obtain ⟨h0, h1⟩ := u64_bd hb
  clear hb hh
  go_enter Try.func11, Try.ntmps11
  go_wp2_with fail
  refine (cL_toScan' _ _ _).mono ?_
  rintro e w1 ⟨rfl, hb1⟩
  have X1 := (Box.new w 40 #[.int .u64 b, .int .i64 h]).all hb1
  have s1 : w.heap.size < w1.heap.size := X1.lt
  have c1 : w1.cell? ⟨w.heap.size, 0, none⟩ = some (.int .u64 b) := X1.cell 0 rfl
  have d1 : w1.cell? ⟨w.heap.size, 1, none⟩ = some (.int .i64 h) := X1.cell 1 rfl
  go_wp2_with fail
  refine (cP_ScanOk _ _ _ h0 h1).mono ?_
  rintro e w2 ⟨rfl, hw2⟩
  have hb2 : Below w1.heap.size w1 w2 := by rw [← hw2]; exact (Below.refl _ _).alloc (Nat.le_refl _) _
  clear hw2
  have X2 := X1.all hb2
  have s2 : w.heap.size < w2.heap.size := X2.lt
  have c2 : w2.cell? ⟨w.heap.size, 0, none⟩ = some (.int .u64 b) := X2.cell 0 rfl
  have d2 : w2.cell? ⟨w.heap.size, 1, none⟩ = some (.int .i64 h) := X2.cell 1 rfl
  go_wp2_with fail
  refine (cL_toScan' _ _ _).mono ?_
  rintro e w3 ⟨rfl, hb3⟩
  go_wp2_with fail
  refine (cI_ScanOk _ _ _ h0 h1).mono ?_
  rintro e w4 ⟨rfl, hw4⟩
  have hb4 : Below w3.heap.size w3 w4 := by rw [← hw4]; exact (Below.refl _ _).alloc (Nat.le_refl _) _
  clear hw4
  go_wp2
  go_ret
  have B1 := ((Below.refl w.heap.size w).alloc (Nat.le_refl _) _).trans (hb1.mono (by simp))
  have B2 := B1.trans (hb2.mono B1.size)
  have B3 := B2.trans (hb3.mono B2.size)
  exact ⟨rfl, B3.trans (hb4.mono B3.size)⟩
end Go.Proofs.Ytgpepekodaochaa
