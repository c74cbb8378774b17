/- The walk of the exact law of ScanText. Conditions: integers fit their kinds. -/
import Derived.Test.YtojhbhhlbgkeoaaLawV1
import Derived.Test.YtojhbhhlbgkeoaaScanT
namespace Go.Proofs.Ytojhbhhlbgkeoaa
open Go.RowKit Plain
set_option linter.unusedVariables false
set_option linter.unusedSimpArgs false
set_option maxHeartbeats 400000 in
theorem walkFnExactScanText (b h : Int) (s : ByteArray) (w : World) (hb : (Lit.int .u64 b).wf = true) (hh : (Lit.int .i64 h).wf = true) (hx : s.size ≤ maxLen) : Calls Try.prog 7 #[.agg #[.int .u64 b, .int .i64 h], .string s] w fun e w' => e = .returned (.bool true) ∧ Below w.heap.size w w' := by
  obtain ⟨h0, h1⟩ := u64_bd hb
  clear hb hh hx
  by_cases hbig : 1048576 < s.size
  · go_enter Try.func7, Try.ntmps7
    go_wp2
    go_ret
    exact ⟨rfl, by repeat (first | exact Below.refl _ _ | refine Below.alloc ?_ (by simp) _)⟩
  · go_enter Try.func7, Try.ntmps7
    go_wp2_with fail
    refine (cL_toScan _ _ _).mono ?_
    rintro e w1 ⟨rfl, hb1⟩
    have X1 := (Box.new w 31 #[.int .u64 b, .int .i64 h]).all hb1
    have s1 : w.heap.size < w1.heap.size := X1.lt
    have c1 := X1.cell 0 rfl; have d1 := X1.cell 1 rfl
    go_wp2_with fail
    refine (cP_ScanText _ _ _ _ h0 h1 (by omega)).mono ?_
    rintro e w2 ⟨rfl, hb2⟩
    have X2 := X1.all hb2
    have s2 : w.heap.size < w2.heap.size := X2.lt
    have c2 := X2.cell 0 rfl; have d2 := X2.cell 1 rfl
    go_wp2_with fail
    refine (cL_toScan _ _ _).mono ?_
    rintro e w3 ⟨rfl, hb3⟩
    have Y3 := (Box.new w2 32 #[.int .u64 (scanL (bl s) b h).1, .int .i64 (scanL (bl s) b h).2.1]).all hb3
    have s3 : w2.heap.size < w3.heap.size := Y3.lt
    have e3 := Y3.cell 0 rfl; have f3 := Y3.cell 1 rfl
    go_wp2_with fail
    refine (cI_ScanText _ _ _ _ h0 h1 (by omega)).mono ?_
    rintro e w4 ⟨rfl, hb4⟩
    have Y4 := Y3.all hb4
    have s4 : w2.heap.size < w4.heap.size := Y4.lt
    have e4 := Y4.cell 0 rfl; have f4 := Y4.cell 1 rfl
    go_wp2_with fail
    refine (cL_eqScan _ _ _).mono ?_
    rintro e w5 ⟨rfl, hb5⟩
    go_wp2
    go_ret
    have B1 := ((Below.refl w.heap.size w).alloc (Nat.le_refl _) _).trans (hb1.mono (by simp))
    have B2 := B1.trans (hb2.mono B1.size)
    have B3 := (B2.alloc B2.size _).trans (hb3.mono (by simp; have := B2.size; omega))
    have B4 := B3.trans (hb4.mono B3.size)
    have B5 := (B4.alloc B4.size _).trans (hb5.mono (by simp; have := B4.size; omega))
    exact ⟨rfl, B5⟩
end Go.Proofs.Ytojhbhhlbgkeoaa
