/- Walks of the exact laws of the varint functions. Conditions: an integer fits its kind. -/
import Derived.Test.YtojhbhhlbgkeoaaVarD
import Derived.Test.YtojhbhhlbgkeoaaGetC
import Derived.Test.YtojhbhhlbgkeoaaScanC
namespace Go.Proofs.Ytojhbhhlbgkeoaa
open Go.RowKit Plain
set_option linter.unusedVariables false
set_option linter.unusedSimpArgs false

theorem walkFnExactPutVar (u : Int) (w : World) (h : (Lit.int .u64 u).wf = true) : Calls Try.prog 3 #[.int .u64 u] w fun e w' => e = .returned (.bool true) ∧ Below w.heap.size w w' := by
  obtain ⟨h0, h1⟩ := u64_bd h
  clear h
  go_enter Try.func3, Try.ntmps3
  go_wp2_with fail
  refine (cP_PutVar _ _ h0 h1).mono ?_
  rintro e w1 ⟨rfl, hb1⟩
  go_wp2_with fail
  refine (cI_PutVar _ _ h0 h1).mono ?_
  rintro e w2 ⟨rfl, hb2⟩
  go_wp2
  go_ret
  exact ⟨rfl, hb1.trans (hb2.mono hb1.size)⟩
theorem walkFnExactPadVar (u k : Int) (w : World) (h : (Lit.int .u64 u).wf = true) (hk : (Lit.int .i64 k).wf = true) : Calls Try.prog 5 #[.int .u64 u, .int .i64 k] w fun e w' => e = .returned (.bool true) ∧ Below w.heap.size w w' := by
  obtain ⟨h0, h1⟩ := u64_bd h
  clear h hk
  go_enter Try.func5, Try.ntmps5
  go_wp2_with fail
  refine (cP_PadVar _ _ _ h0 h1).mono ?_
  rintro e w1 ⟨rfl, hb1⟩
  go_wp2_with fail
  refine (cI_PadVar _ _ _ h0 h1).mono ?_
  rintro e w2 ⟨rfl, hb2⟩
  go_wp2
  go_ret
  exact ⟨rfl, hb1.trans (hb2.mono hb1.size)⟩
theorem walkFnExactGetVar (s : ByteArray) (k : Int) (w : World) (hs : s.size ≤ maxLen) (hk : (Lit.int .i64 k).wf = true) : Calls Try.prog 4 #[.string s, .int .i64 k] w fun e w' => e = .returned (.bool true) ∧ Below w.heap.size w w' := by
  obtain ⟨h0, h1⟩ := i64_bd hk
  clear hk
  by_cases hbig : 1048576 < s.size
  · go_enter Try.func4, Try.ntmps4
    go_wp2
    go_ret
    exact ⟨rfl, Below.refl _ _⟩
  · go_enter Try.func4, Try.ntmps4
    go_wp2_with fail
    refine (cP_GetVar _ _ _ (by omega) h0 h1).mono ?_
    rintro e w1 ⟨rfl, rfl⟩
    go_wp2_with fail
    refine (cI_GetVar _ _ _ (by omega) h0 h1).mono ?_
    rintro e w2 ⟨rfl, rfl⟩
    go_wp2
    go_ret
    exact ⟨rfl, Below.refl _ _⟩
theorem cL_toScan (b h : Int) (w : World) : Calls Try.prog 21 #[.agg #[.int .u64 b, .int .i64 h]] w fun e w' => e = .returned (.agg #[.int .u64 b, .int .i64 h]) ∧ Below w.heap.size w w' := by
  go_enter Try.func21, Try.ntmps21
  go_wp2
  exact bodyPost_ret (v := .agg #[.int .u64 b, .int .i64 h]) (by simp [results, Try.results21, go_sem]) rfl ⟨rfl, by repeat (first | exact Below.refl _ _ | refine Below.setCell ?_ (by simp) _ | refine Below.alloc ?_ (by simp; omega) _ | refine Below.alloc ?_ (by simp) _)⟩
theorem cL_eqScan (b h : Int) (w : World) : Calls Try.prog 23 #[.agg #[.int .u64 b, .int .i64 h], .agg #[.int .u64 b, .int .i64 h]] w fun e w' => e = .returned (.bool true) ∧ Below w.heap.size w w' := by
  go_enter Try.func23, Try.ntmps23
  go_wp2
  go_ret
  exact ⟨rfl, by repeat (first | exact Below.refl _ _ | refine Below.setCell ?_ (by simp) _ | refine Below.alloc ?_ (by simp; omega) _ | refine Below.alloc ?_ (by simp) _)⟩
theorem walkFnExactScanByte (b h x : Int) (w : World) (hb : (Lit.int .u64 b).wf = true) (hh : (Lit.int .i64 h).wf = true) (hx : (Lit.int .i64 x).wf = true) : Calls Try.prog 6 #[.agg #[.int .u64 b, .int .i64 h], .int .i64 x] w fun e w' => e = .returned (.bool true) ∧ Below w.heap.size w w' := by
  obtain ⟨h0, h1⟩ := u64_bd hb
  clear hb hh hx
  go_enter Try.func6, Try.ntmps6
  go_wp2_with fail
  refine (cL_toScan _ _ _).mono ?_
  rintro e w1 ⟨rfl, hb1⟩
  have X1 := (Box.new w 31 #[.int .u64 b, .int .i64 h]).all hb1
  have s1 : w.heap.size < w1.heap.size := X1.lt
  have c1 := X1.cell 0 rfl; have d1 := X1.cell 1 rfl
  go_wp2_with fail
  refine (cP_ScanByte _ _ _ _ h0 h1).mono ?_
  rintro e w2 ⟨rfl, hb2⟩
  have X2 := X1.all hb2
  have s2 : w.heap.size < w2.heap.size := X2.lt
  have c2 := X2.cell 0 rfl; have d2 := X2.cell 1 rfl
  go_wp2_with fail
  refine (cL_toScan _ _ _).mono ?_
  rintro e w3 ⟨rfl, hb3⟩
  have Y3 := (Box.new w2 32 #[.int .u64 (sbBits b h x), .int .i64 (sbHave b h x)]).all hb3
  have s3 : w2.heap.size < w3.heap.size := Y3.lt
  have e3 := Y3.cell 0 rfl; have f3 := Y3.cell 1 rfl
  go_wp2_with fail
  refine (cI_ScanByte _ _ _ _ h0 h1).mono ?_
  rintro e w4 ⟨rfl, hb4⟩
  have Y4 := Y3.all hb4
  have s4 : w2.heap.size < w4.heap.size := Y4.lt
  have e4 := Y4.cell 0 rfl; have f4 := Y4.cell 1 rfl
  go_wp2_with fail
  refine (cL_eqScan _ _ _).mono ?_
  rintro e w5 ⟨rfl, hb5⟩
  go_wp2
  go_ret
  have B1 := ((Below.refl w.heap.size w).alloc (Nat.le_refl _) _).trans (hb1.mono (by simp))
  have B2 := B1.trans (hb2.mono B1.size)
  have B3 := (B2.alloc B2.size _).trans (hb3.mono (by simp; have := B2.size; omega))
  have B4 := B3.trans (hb4.mono B3.size)
  have B5 := (B4.alloc B4.size _).trans (hb5.mono (by simp; have := B4.size; omega))
  exact ⟨rfl, B5⟩
end Go.Proofs.Ytojhbhhlbgkeoaa
