/- Contract of the program's FieldCode. Conditions: the description can be read. -/
import Derived.Test.YtcoghgpgfaifaaaRawF
namespace Go.Proofs.Ytcoghgpgfaifaaa
open Go.RowKit
set_option linter.unusedVariables false
set_option linter.unusedSimpArgs false
set_option maxHeartbeats 2000000 in
theorem cI_FieldCode (a : Option Addr) (n c : Nat) (ms : List Msg) (i j : Int) (w : World) (hn : ms.length = n) (hle : n ≤ 1048576) (hcap : n ≤ c) (hms : ∀ (j : Nat) (m : Msg), ms[j]? = some m → m.fs.length ≤ 1048576) (hf : MAt w 0 a ms) :
    Calls Try.prog 17 #[.agg #[.slice a n c], .int .i64 i, .int .i64 j] w fun e w' => e = .returned (.int .i64 (fieldCode ms i j)) ∧ Below w.heap.size w w' := by
  have hb0 := below1 w (.cells #[.slice a n c] 29)
  have R0 := Box.new w 29 #[.slice a n c]
  have r0 := R0.cell 0 rfl
  rcases h1 : inB i 0 ((n : Int) - 1) with _ | _
  · have HE : Hid (fieldCode ms i j = 0) := Lib.hid (by unfold fieldCode; rw [hn, h1]; rfl)
    go_enter Try.func17, Try.ntmps17
    go_wp2_with (go_at_call 33; refine (cI_within _ _ _ _).mono ?_; rw [h1]; rintro e w' ⟨rfl, rfl⟩)
    go_ret
    exact ⟨by rw [HE.out]; rfl, hb0⟩
  · obtain ⟨h2, h3⟩ := inB_yes h1
    obtain ⟨I, rfl⟩ := Int.eq_ofNat_of_zero_le h2
    have hIn : I < n := by omega
    have hf0 := hf
    obtain ⟨b, off, rfl, _, hb, hc⟩ := hf (by omega)
    have hx : ms[I]? = some ms[I] := List.getElem?_eq_getElem (by omega)
    generalize ms[I] = m at hx
    have hfl := hms I m hx
    obtain ⟨g1, fa, fc, g2, g3, g4⟩ := hc I m hx
    have q0 := bkeep (hb0.block b hb) g1
    have q1 := bkeep (hb0.block b hb) g2
    have hi0 : (I : Int) < (n : Int) := by omega
    have HM := Lib.hid hx
    have HMS := Lib.hid hms
    clear hx hms
    rcases h4 : inB j 0 ((m.fs.length : Int) - 1) with _ | _
    · have HE : Hid (fieldCode ms (I : Int) j = 0) := Lib.hid (by unfold fieldCode; rw [hn, h1, Int.toNat_natCast, HM.out]; simp only; rw [h4]; rfl)
      go_enter Try.func17, Try.ntmps17
      go_wp2_with (go_at_call 33; refine (cI_within _ _ _ _).mono ?_; (first | rw [h1] | rw [h4]); rintro e w' ⟨rfl, rfl⟩)
      go_ret
      exact ⟨by rw [HE.out]; rfl, hb0⟩
    · obtain ⟨h5, h6⟩ := inB_yes h4
      obtain ⟨J, rfl⟩ := Int.eq_ofNat_of_zero_le h5
      have hJn : J < m.fs.length := by omega
      obtain ⟨fb, fo, rfl, _, hfb, hfc⟩ := g4 (by omega)
      have hy : m.fs[J]? = some m.fs[J] := List.getElem?_eq_getElem hJn
      generalize m.fs[J] = x at hy
      obtain ⟨xn, xk, xr, xp, xf⟩ := x
      obtain ⟨z0, z1, z2, z3, z4⟩ := (F5.of hfc hy).below hb0 hfb
      simp only at z0 z1 z2 z3 z4
      have hj0 : (J : Int) < (m.fs.length : Int) := by omega
      have HX : Hid (fieldCode ms (I : Int) (J : Int) = fldCode ms m.fs J ⟨xn, xk, xr, xp, xf⟩) := Lib.hid (fieldCode_at HM.out hy)
      have hJc : (J : Int) ≤ (fc : Int) := by omega
      have hJc' : (J : Int) ≤ (m.fs.length : Int) := by omega
      have hb1 := below2 w (.cells #[.slice (some ⟨b, off, none⟩) n c] 29) (.cells #[.int .i64 xn, .int .i64 xk, .bool xr, .bool xp, .int .i64 xf] 50)
      have R1 := R0.alloc (.cells #[.int .i64 xn, .int .i64 xk, .bool xr, .bool xp, .int .i64 xf] 50)
      have S1 := Box.at1 w (.cells #[.slice (some ⟨b, off, none⟩) n c] 29) 50 #[.int .i64 xn, .int .i64 xk, .bool xr, .bool xp, .int .i64 xf]
      clear hy
      have HC := c_ContainsF fb fo 0 fc J m.fs xn 42 (w.heap.size + 1) _ (enters_of Try.func42 (by kernel_rfl) rfl) (p_FieldCode xn (w.heap.size + 1) _ (by simp) (S1.cell 0 rfl)) (by omega) (by omega) (Nat.lt_of_lt_of_le hfb hb1.size) (fun j x hx i v hv => bkeep (hb1.block fb hfb) (hfc j x hx i v hv))
      rcases hNO : numberOk xn with _ | _
      · have HE : Hid (fieldCode ms (I : Int) (J : Int) = 5) := Lib.hid (by rw [HX.out]; unfold fldCode; simp [hNO])
        clear HX
        go_enter Try.func17, Try.ntmps17
        go_wp2_with (first
          | (go_at_call 33; refine (cI_within _ _ _ _).mono ?_; (first | rw [h1] | rw [h4]); rintro e w' ⟨rfl, rfl⟩)
          | (go_at_call 40; refine (cI_NumberOk _ _).mono ?_; rw [hNO]; rintro e w' ⟨rfl, rfl⟩))
        go_ret
        exact ⟨by rw [HE.out]; rfl, hb1⟩
      · rcases hHN : hasNum (m.fs.take J) xn with _ | _
        · rw [hHN] at HC
          rcases hK : inB xk 1 8 with _ | _
          · have HE : Hid (fieldCode ms (I : Int) (J : Int) = 7) := Lib.hid (by rw [HX.out]; unfold fldCode; simp [hNO, hHN, hK])
            clear HX
            go_enter Try.func17, Try.ntmps17
            go_wp2_with (first
              | (go_at_call 33; refine (cI_within _ _ _ _).mono ?_; (first | rw [h1] | rw [h4]); rintro e w' ⟨rfl, rfl⟩)
              | (go_at_call 40; refine (cI_NumberOk _ _).mono ?_; rw [hNO]; rintro e w' ⟨rfl, rfl⟩)
              | (go_at_call 41; refine HC.mono ?_; rintro e w2 ⟨rfl, hb2⟩; have R2 := R1.all hb2; have S2 := S1.all hb2; have s0 := S2.cell 0 rfl; have s1 := S2.cell 1 rfl; have s2 := S2.cell 2 rfl; have s3 := S2.cell 3 rfl; have s4 := S2.cell 4 rfl; have r2 := R2.cell 0 rfl)
              | (go_at_call 43; refine (cI_isKind _ _).mono ?_; rw [hK]; rintro e w' ⟨rfl, rfl⟩)
              | (go_at_call 44; refine (cI_Numeric _ _).mono ?_; rw [hN5]; rintro e w' ⟨rfl, rfl⟩))
            go_ret
            exact ⟨by rw [HE.out]; rfl, (hb1.trans (hb2.mono hb1.size))⟩
          · rcases hN5 : inB xk 1 5 with _ | _
            · rcases xp with _ | _
              · rcases xr with _ | _
                · rcases h8 : (xk == 8) with _ | _
                  · have n8 : ¬ xk = 8 := by simpa using h8
                    have mn8 : (xk != 8) = true := by simpa using n8
                    rcases h0 : (xf == 0) with _ | _
                    · have n0 : ¬ xf = 0 := by simpa using h0
                      have mn0 : (xf != 0) = true := by simpa using n0
                      have HE : Hid (fieldCode ms (I : Int) (J : Int) = 9) := Lib.hid (by rw [HX.out]; unfold fldCode; simp [hNO, hHN, hK, hN5, h8, h0])
                      clear HX
                      go_enter Try.func17, Try.ntmps17
                      go_wp2_with (first
                        | (go_at_call 33; refine (cI_within _ _ _ _).mono ?_; (first | rw [h1] | rw [h4]); rintro e w' ⟨rfl, rfl⟩)
                        | (go_at_call 40; refine (cI_NumberOk _ _).mono ?_; rw [hNO]; rintro e w' ⟨rfl, rfl⟩)
                        | (go_at_call 41; refine HC.mono ?_; rintro e w2 ⟨rfl, hb2⟩; have R2 := R1.all hb2; have S2 := S1.all hb2; have s0 := S2.cell 0 rfl; have s1 := S2.cell 1 rfl; have s2 := S2.cell 2 rfl; have s3 := S2.cell 3 rfl; have s4 := S2.cell 4 rfl; have r2 := R2.cell 0 rfl)
                        | (go_at_call 43; refine (cI_isKind _ _).mono ?_; rw [hK]; rintro e w' ⟨rfl, rfl⟩)
                        | (go_at_call 44; refine (cI_Numeric _ _).mono ?_; rw [hN5]; rintro e w' ⟨rfl, rfl⟩))
                      go_ret
                      exact ⟨by rw [HE.out]; rfl, (hb1.trans (hb2.mono hb1.size))⟩
                    · obtain rfl : xf = 0 := by simpa using h0
                      have HE : Hid (fieldCode ms (I : Int) (J : Int) = 0) := Lib.hid (by rw [HX.out]; unfold fldCode; simp [hNO, hHN, hK, hN5, h8, h0])
                      clear HX
                      go_enter Try.func17, Try.ntmps17
                      go_wp2_with (first
                        | (go_at_call 33; refine (cI_within _ _ _ _).mono ?_; (first | rw [h1] | rw [h4]); rintro e w' ⟨rfl, rfl⟩)
                        | (go_at_call 40; refine (cI_NumberOk _ _).mono ?_; rw [hNO]; rintro e w' ⟨rfl, rfl⟩)
                        | (go_at_call 41; refine HC.mono ?_; rintro e w2 ⟨rfl, hb2⟩; have R2 := R1.all hb2; have S2 := S1.all hb2; have s0 := S2.cell 0 rfl; have s1 := S2.cell 1 rfl; have s2 := S2.cell 2 rfl; have s3 := S2.cell 3 rfl; have s4 := S2.cell 4 rfl; have r2 := R2.cell 0 rfl)
                        | (go_at_call 43; refine (cI_isKind _ _).mono ?_; rw [hK]; rintro e w' ⟨rfl, rfl⟩)
                        | (go_at_call 44; refine (cI_Numeric _ _).mono ?_; rw [hN5]; rintro e w' ⟨rfl, rfl⟩))
                      go_ret
                      exact ⟨by rw [HE.out]; rfl, (hb1.trans (hb2.mono hb1.size))⟩
                  · obtain rfl : xk = 8 := by simpa using h8
                    rcases hH : hasId ms xf with _ | _
                    · have HE : Hid (fieldCode ms (I : Int) (J : Int) = 9) := Lib.hid (by rw [HX.out]; unfold fldCode; simp [hNO, hHN, hK, hN5, h8, hH])
                      clear HX
                      go_enter Try.func17, Try.ntmps17
                      go_wp2_with (first
                        | (go_at_call 33; refine (cI_within _ _ _ _).mono ?_; (first | rw [h1] | rw [h4]); rintro e w' ⟨rfl, rfl⟩)
                        | (go_at_call 40; refine (cI_NumberOk _ _).mono ?_; rw [hNO]; rintro e w' ⟨rfl, rfl⟩)
                        | (go_at_call 41; refine HC.mono ?_; rintro e w2 ⟨rfl, hb2⟩; have R2 := R1.all hb2; have S2 := S1.all hb2; have s0 := S2.cell 0 rfl; have s1 := S2.cell 1 rfl; have s2 := S2.cell 2 rfl; have s3 := S2.cell 3 rfl; have s4 := S2.cell 4 rfl; have r2 := R2.cell 0 rfl)
                        | (go_at_call 43; refine (cI_isKind _ _).mono ?_; rw [hK]; rintro e w' ⟨rfl, rfl⟩)
                        | (go_at_call 44; refine (cI_Numeric _ _).mono ?_; rw [hN5]; rintro e w' ⟨rfl, rfl⟩)
                        | (go_at_call 45; refine (cI_hasMsg (some ⟨b, off, none⟩) n c ms xf _ hn hle (by omega) (hf0.below (hb1.trans (hb2.mono hb1.size)))).mono ?_; rw [hH]; rintro e w3 ⟨rfl, hb3⟩; have R3 := R2.all hb3; have S3 := S2.all hb3; have t0 := S3.cell 0 rfl; have t1 := S3.cell 1 rfl; have t2 := S3.cell 2 rfl; have t3 := S3.cell 3 rfl; have t4 := S3.cell 4 rfl; have r3 := R3.cell 0 rfl))
                      go_ret
                      exact ⟨by rw [HE.out]; rfl, ((hb1.trans (hb2.mono hb1.size)).trans (hb3.mono (hb1.trans (hb2.mono hb1.size)).size))⟩
                    · have HE : Hid (fieldCode ms (I : Int) (J : Int) = 0) := Lib.hid (by rw [HX.out]; unfold fldCode; simp [hNO, hHN, hK, hN5, h8, hH])
                      clear HX
                      go_enter Try.func17, Try.ntmps17
                      go_wp2_with (first
                        | (go_at_call 33; refine (cI_within _ _ _ _).mono ?_; (first | rw [h1] | rw [h4]); rintro e w' ⟨rfl, rfl⟩)
                        | (go_at_call 40; refine (cI_NumberOk _ _).mono ?_; rw [hNO]; rintro e w' ⟨rfl, rfl⟩)
                        | (go_at_call 41; refine HC.mono ?_; rintro e w2 ⟨rfl, hb2⟩; have R2 := R1.all hb2; have S2 := S1.all hb2; have s0 := S2.cell 0 rfl; have s1 := S2.cell 1 rfl; have s2 := S2.cell 2 rfl; have s3 := S2.cell 3 rfl; have s4 := S2.cell 4 rfl; have r2 := R2.cell 0 rfl)
                        | (go_at_call 43; refine (cI_isKind _ _).mono ?_; rw [hK]; rintro e w' ⟨rfl, rfl⟩)
                        | (go_at_call 44; refine (cI_Numeric _ _).mono ?_; rw [hN5]; rintro e w' ⟨rfl, rfl⟩)
                        | (go_at_call 45; refine (cI_hasMsg (some ⟨b, off, none⟩) n c ms xf _ hn hle (by omega) (hf0.below (hb1.trans (hb2.mono hb1.size)))).mono ?_; rw [hH]; rintro e w3 ⟨rfl, hb3⟩; have R3 := R2.all hb3; have S3 := S2.all hb3; have t0 := S3.cell 0 rfl; have t1 := S3.cell 1 rfl; have t2 := S3.cell 2 rfl; have t3 := S3.cell 3 rfl; have t4 := S3.cell 4 rfl; have r3 := R3.cell 0 rfl))
                      go_ret
                      exact ⟨by rw [HE.out]; rfl, ((hb1.trans (hb2.mono hb1.size)).trans (hb3.mono (hb1.trans (hb2.mono hb1.size)).size))⟩
                · rcases h8 : (xk == 8) with _ | _
                  · have n8 : ¬ xk = 8 := by simpa using h8
                    have mn8 : (xk != 8) = true := by simpa using n8
                    rcases h0 : (xf == 0) with _ | _
                    · have n0 : ¬ xf = 0 := by simpa using h0
                      have mn0 : (xf != 0) = true := by simpa using n0
                      have HE : Hid (fieldCode ms (I : Int) (J : Int) = 9) := Lib.hid (by rw [HX.out]; unfold fldCode; simp [hNO, hHN, hK, hN5, h8, h0])
                      clear HX
                      go_enter Try.func17, Try.ntmps17
                      go_wp2_with (first
                        | (go_at_call 33; refine (cI_within _ _ _ _).mono ?_; (first | rw [h1] | rw [h4]); rintro e w' ⟨rfl, rfl⟩)
                        | (go_at_call 40; refine (cI_NumberOk _ _).mono ?_; rw [hNO]; rintro e w' ⟨rfl, rfl⟩)
                        | (go_at_call 41; refine HC.mono ?_; rintro e w2 ⟨rfl, hb2⟩; have R2 := R1.all hb2; have S2 := S1.all hb2; have s0 := S2.cell 0 rfl; have s1 := S2.cell 1 rfl; have s2 := S2.cell 2 rfl; have s3 := S2.cell 3 rfl; have s4 := S2.cell 4 rfl; have r2 := R2.cell 0 rfl)
                        | (go_at_call 43; refine (cI_isKind _ _).mono ?_; rw [hK]; rintro e w' ⟨rfl, rfl⟩)
                        | (go_at_call 44; refine (cI_Numeric _ _).mono ?_; rw [hN5]; rintro e w' ⟨rfl, rfl⟩))
                      go_ret
                      exact ⟨by rw [HE.out]; rfl, (hb1.trans (hb2.mono hb1.size))⟩
                    · obtain rfl : xf = 0 := by simpa using h0
                      have HE : Hid (fieldCode ms (I : Int) (J : Int) = 0) := Lib.hid (by rw [HX.out]; unfold fldCode; simp [hNO, hHN, hK, hN5, h8, h0])
                      clear HX
                      go_enter Try.func17, Try.ntmps17
                      go_wp2_with (first
                        | (go_at_call 33; refine (cI_within _ _ _ _).mono ?_; (first | rw [h1] | rw [h4]); rintro e w' ⟨rfl, rfl⟩)
                        | (go_at_call 40; refine (cI_NumberOk _ _).mono ?_; rw [hNO]; rintro e w' ⟨rfl, rfl⟩)
                        | (go_at_call 41; refine HC.mono ?_; rintro e w2 ⟨rfl, hb2⟩; have R2 := R1.all hb2; have S2 := S1.all hb2; have s0 := S2.cell 0 rfl; have s1 := S2.cell 1 rfl; have s2 := S2.cell 2 rfl; have s3 := S2.cell 3 rfl; have s4 := S2.cell 4 rfl; have r2 := R2.cell 0 rfl)
                        | (go_at_call 43; refine (cI_isKind _ _).mono ?_; rw [hK]; rintro e w' ⟨rfl, rfl⟩)
                        | (go_at_call 44; refine (cI_Numeric _ _).mono ?_; rw [hN5]; rintro e w' ⟨rfl, rfl⟩))
                      go_ret
                      exact ⟨by rw [HE.out]; rfl, (hb1.trans (hb2.mono hb1.size))⟩
                  · obtain rfl : xk = 8 := by simpa using h8
                    rcases hH : hasId ms xf with _ | _
                    · have HE : Hid (fieldCode ms (I : Int) (J : Int) = 9) := Lib.hid (by rw [HX.out]; unfold fldCode; simp [hNO, hHN, hK, hN5, h8, hH])
                      clear HX
                      go_enter Try.func17, Try.ntmps17
                      go_wp2_with (first
                        | (go_at_call 33; refine (cI_within _ _ _ _).mono ?_; (first | rw [h1] | rw [h4]); rintro e w' ⟨rfl, rfl⟩)
                        | (go_at_call 40; refine (cI_NumberOk _ _).mono ?_; rw [hNO]; rintro e w' ⟨rfl, rfl⟩)
                        | (go_at_call 41; refine HC.mono ?_; rintro e w2 ⟨rfl, hb2⟩; have R2 := R1.all hb2; have S2 := S1.all hb2; have s0 := S2.cell 0 rfl; have s1 := S2.cell 1 rfl; have s2 := S2.cell 2 rfl; have s3 := S2.cell 3 rfl; have s4 := S2.cell 4 rfl; have r2 := R2.cell 0 rfl)
                        | (go_at_call 43; refine (cI_isKind _ _).mono ?_; rw [hK]; rintro e w' ⟨rfl, rfl⟩)
                        | (go_at_call 44; refine (cI_Numeric _ _).mono ?_; rw [hN5]; rintro e w' ⟨rfl, rfl⟩)
                        | (go_at_call 45; refine (cI_hasMsg (some ⟨b, off, none⟩) n c ms xf _ hn hle (by omega) (hf0.below (hb1.trans (hb2.mono hb1.size)))).mono ?_; rw [hH]; rintro e w3 ⟨rfl, hb3⟩; have R3 := R2.all hb3; have S3 := S2.all hb3; have t0 := S3.cell 0 rfl; have t1 := S3.cell 1 rfl; have t2 := S3.cell 2 rfl; have t3 := S3.cell 3 rfl; have t4 := S3.cell 4 rfl; have r3 := R3.cell 0 rfl))
                      go_ret
                      exact ⟨by rw [HE.out]; rfl, ((hb1.trans (hb2.mono hb1.size)).trans (hb3.mono (hb1.trans (hb2.mono hb1.size)).size))⟩
                    · have HE : Hid (fieldCode ms (I : Int) (J : Int) = 0) := Lib.hid (by rw [HX.out]; unfold fldCode; simp [hNO, hHN, hK, hN5, h8, hH])
                      clear HX
                      go_enter Try.func17, Try.ntmps17
                      go_wp2_with (first
                        | (go_at_call 33; refine (cI_within _ _ _ _).mono ?_; (first | rw [h1] | rw [h4]); rintro e w' ⟨rfl, rfl⟩)
                        | (go_at_call 40; refine (cI_NumberOk _ _).mono ?_; rw [hNO]; rintro e w' ⟨rfl, rfl⟩)
                        | (go_at_call 41; refine HC.mono ?_; rintro e w2 ⟨rfl, hb2⟩; have R2 := R1.all hb2; have S2 := S1.all hb2; have s0 := S2.cell 0 rfl; have s1 := S2.cell 1 rfl; have s2 := S2.cell 2 rfl; have s3 := S2.cell 3 rfl; have s4 := S2.cell 4 rfl; have r2 := R2.cell 0 rfl)
                        | (go_at_call 43; refine (cI_isKind _ _).mono ?_; rw [hK]; rintro e w' ⟨rfl, rfl⟩)
                        | (go_at_call 44; refine (cI_Numeric _ _).mono ?_; rw [hN5]; rintro e w' ⟨rfl, rfl⟩)
                        | (go_at_call 45; refine (cI_hasMsg (some ⟨b, off, none⟩) n c ms xf _ hn hle (by omega) (hf0.below (hb1.trans (hb2.mono hb1.size)))).mono ?_; rw [hH]; rintro e w3 ⟨rfl, hb3⟩; have R3 := R2.all hb3; have S3 := S2.all hb3; have t0 := S3.cell 0 rfl; have t1 := S3.cell 1 rfl; have t2 := S3.cell 2 rfl; have t3 := S3.cell 3 rfl; have t4 := S3.cell 4 rfl; have r3 := R3.cell 0 rfl))
                      go_ret
                      exact ⟨by rw [HE.out]; rfl, ((hb1.trans (hb2.mono hb1.size)).trans (hb3.mono (hb1.trans (hb2.mono hb1.size)).size))⟩
              · rcases xr with _ | _
                · have HE : Hid (fieldCode ms (I : Int) (J : Int) = 8) := Lib.hid (by rw [HX.out]; unfold fldCode; simp [hNO, hHN, hK, hN5])
                  clear HX
                  go_enter Try.func17, Try.ntmps17
                  go_wp2_with (first
                    | (go_at_call 33; refine (cI_within _ _ _ _).mono ?_; (first | rw [h1] | rw [h4]); rintro e w' ⟨rfl, rfl⟩)
                    | (go_at_call 40; refine (cI_NumberOk _ _).mono ?_; rw [hNO]; rintro e w' ⟨rfl, rfl⟩)
                    | (go_at_call 41; refine HC.mono ?_; rintro e w2 ⟨rfl, hb2⟩; have R2 := R1.all hb2; have S2 := S1.all hb2; have s0 := S2.cell 0 rfl; have s1 := S2.cell 1 rfl; have s2 := S2.cell 2 rfl; have s3 := S2.cell 3 rfl; have s4 := S2.cell 4 rfl; have r2 := R2.cell 0 rfl)
                    | (go_at_call 43; refine (cI_isKind _ _).mono ?_; rw [hK]; rintro e w' ⟨rfl, rfl⟩)
                    | (go_at_call 44; refine (cI_Numeric _ _).mono ?_; rw [hN5]; rintro e w' ⟨rfl, rfl⟩))
                  go_ret
                  exact ⟨by rw [HE.out]; rfl, (hb1.trans (hb2.mono hb1.size))⟩
                · have HE : Hid (fieldCode ms (I : Int) (J : Int) = 8) := Lib.hid (by rw [HX.out]; unfold fldCode; simp [hNO, hHN, hK, hN5])
                  clear HX
                  go_enter Try.func17, Try.ntmps17
                  go_wp2_with (first
                    | (go_at_call 33; refine (cI_within _ _ _ _).mono ?_; (first | rw [h1] | rw [h4]); rintro e w' ⟨rfl, rfl⟩)
                    | (go_at_call 40; refine (cI_NumberOk _ _).mono ?_; rw [hNO]; rintro e w' ⟨rfl, rfl⟩)
                    | (go_at_call 41; refine HC.mono ?_; rintro e w2 ⟨rfl, hb2⟩; have R2 := R1.all hb2; have S2 := S1.all hb2; have s0 := S2.cell 0 rfl; have s1 := S2.cell 1 rfl; have s2 := S2.cell 2 rfl; have s3 := S2.cell 3 rfl; have s4 := S2.cell 4 rfl; have r2 := R2.cell 0 rfl)
                    | (go_at_call 43; refine (cI_isKind _ _).mono ?_; rw [hK]; rintro e w' ⟨rfl, rfl⟩)
                    | (go_at_call 44; refine (cI_Numeric _ _).mono ?_; rw [hN5]; rintro e w' ⟨rfl, rfl⟩))
                  go_ret
                  exact ⟨by rw [HE.out]; rfl, (hb1.trans (hb2.mono hb1.size))⟩
            · rcases xp with _ | _
              · rcases xr with _ | _
                · rcases h8 : (xk == 8) with _ | _
                  · have n8 : ¬ xk = 8 := by simpa using h8
                    have mn8 : (xk != 8) = true := by simpa using n8
                    rcases h0 : (xf == 0) with _ | _
                    · have n0 : ¬ xf = 0 := by simpa using h0
                      have mn0 : (xf != 0) = true := by simpa using n0
                      have HE : Hid (fieldCode ms (I : Int) (J : Int) = 9) := Lib.hid (by rw [HX.out]; unfold fldCode; simp [hNO, hHN, hK, hN5, h8, h0])
                      clear HX
                      go_enter Try.func17, Try.ntmps17
                      go_wp2_with (first
                        | (go_at_call 33; refine (cI_within _ _ _ _).mono ?_; (first | rw [h1] | rw [h4]); rintro e w' ⟨rfl, rfl⟩)
                        | (go_at_call 40; refine (cI_NumberOk _ _).mono ?_; rw [hNO]; rintro e w' ⟨rfl, rfl⟩)
                        | (go_at_call 41; refine HC.mono ?_; rintro e w2 ⟨rfl, hb2⟩; have R2 := R1.all hb2; have S2 := S1.all hb2; have s0 := S2.cell 0 rfl; have s1 := S2.cell 1 rfl; have s2 := S2.cell 2 rfl; have s3 := S2.cell 3 rfl; have s4 := S2.cell 4 rfl; have r2 := R2.cell 0 rfl)
                        | (go_at_call 43; refine (cI_isKind _ _).mono ?_; rw [hK]; rintro e w' ⟨rfl, rfl⟩)
                        | (go_at_call 44; refine (cI_Numeric _ _).mono ?_; rw [hN5]; rintro e w' ⟨rfl, rfl⟩))
                      go_ret
                      exact ⟨by rw [HE.out]; rfl, (hb1.trans (hb2.mono hb1.size))⟩
                    · obtain rfl : xf = 0 := by simpa using h0
                      have HE : Hid (fieldCode ms (I : Int) (J : Int) = 0) := Lib.hid (by rw [HX.out]; unfold fldCode; simp [hNO, hHN, hK, hN5, h8, h0])
                      clear HX
                      go_enter Try.func17, Try.ntmps17
                      go_wp2_with (first
                        | (go_at_call 33; refine (cI_within _ _ _ _).mono ?_; (first | rw [h1] | rw [h4]); rintro e w' ⟨rfl, rfl⟩)
                        | (go_at_call 40; refine (cI_NumberOk _ _).mono ?_; rw [hNO]; rintro e w' ⟨rfl, rfl⟩)
                        | (go_at_call 41; refine HC.mono ?_; rintro e w2 ⟨rfl, hb2⟩; have R2 := R1.all hb2; have S2 := S1.all hb2; have s0 := S2.cell 0 rfl; have s1 := S2.cell 1 rfl; have s2 := S2.cell 2 rfl; have s3 := S2.cell 3 rfl; have s4 := S2.cell 4 rfl; have r2 := R2.cell 0 rfl)
                        | (go_at_call 43; refine (cI_isKind _ _).mono ?_; rw [hK]; rintro e w' ⟨rfl, rfl⟩)
                        | (go_at_call 44; refine (cI_Numeric _ _).mono ?_; rw [hN5]; rintro e w' ⟨rfl, rfl⟩))
                      go_ret
                      exact ⟨by rw [HE.out]; rfl, (hb1.trans (hb2.mono hb1.size))⟩
                  · obtain rfl : xk = 8 := by simpa using h8
                    rcases hH : hasId ms xf with _ | _
                    · have HE : Hid (fieldCode ms (I : Int) (J : Int) = 9) := Lib.hid (by rw [HX.out]; unfold fldCode; simp [hNO, hHN, hK, hN5, h8, hH])
                      clear HX
                      go_enter Try.func17, Try.ntmps17
                      go_wp2_with (first
                        | (go_at_call 33; refine (cI_within _ _ _ _).mono ?_; (first | rw [h1] | rw [h4]); rintro e w' ⟨rfl, rfl⟩)
                        | (go_at_call 40; refine (cI_NumberOk _ _).mono ?_; rw [hNO]; rintro e w' ⟨rfl, rfl⟩)
                        | (go_at_call 41; refine HC.mono ?_; rintro e w2 ⟨rfl, hb2⟩; have R2 := R1.all hb2; have S2 := S1.all hb2; have s0 := S2.cell 0 rfl; have s1 := S2.cell 1 rfl; have s2 := S2.cell 2 rfl; have s3 := S2.cell 3 rfl; have s4 := S2.cell 4 rfl; have r2 := R2.cell 0 rfl)
                        | (go_at_call 43; refine (cI_isKind _ _).mono ?_; rw [hK]; rintro e w' ⟨rfl, rfl⟩)
                        | (go_at_call 44; refine (cI_Numeric _ _).mono ?_; rw [hN5]; rintro e w' ⟨rfl, rfl⟩)
                        | (go_at_call 45; refine (cI_hasMsg (some ⟨b, off, none⟩) n c ms xf _ hn hle (by omega) (hf0.below (hb1.trans (hb2.mono hb1.size)))).mono ?_; rw [hH]; rintro e w3 ⟨rfl, hb3⟩; have R3 := R2.all hb3; have S3 := S2.all hb3; have t0 := S3.cell 0 rfl; have t1 := S3.cell 1 rfl; have t2 := S3.cell 2 rfl; have t3 := S3.cell 3 rfl; have t4 := S3.cell 4 rfl; have r3 := R3.cell 0 rfl))
                      go_ret
                      exact ⟨by rw [HE.out]; rfl, ((hb1.trans (hb2.mono hb1.size)).trans (hb3.mono (hb1.trans (hb2.mono hb1.size)).size))⟩
                    · have HE : Hid (fieldCode ms (I : Int) (J : Int) = 0) := Lib.hid (by rw [HX.out]; unfold fldCode; simp [hNO, hHN, hK, hN5, h8, hH])
                      clear HX
                      go_enter Try.func17, Try.ntmps17
                      go_wp2_with (first
                        | (go_at_call 33; refine (cI_within _ _ _ _).mono ?_; (first | rw [h1] | rw [h4]); rintro e w' ⟨rfl, rfl⟩)
                        | (go_at_call 40; refine (cI_NumberOk _ _).mono ?_; rw [hNO]; rintro e w' ⟨rfl, rfl⟩)
                        | (go_at_call 41; refine HC.mono ?_; rintro e w2 ⟨rfl, hb2⟩; have R2 := R1.all hb2; have S2 := S1.all hb2; have s0 := S2.cell 0 rfl; have s1 := S2.cell 1 rfl; have s2 := S2.cell 2 rfl; have s3 := S2.cell 3 rfl; have s4 := S2.cell 4 rfl; have r2 := R2.cell 0 rfl)
                        | (go_at_call 43; refine (cI_isKind _ _).mono ?_; rw [hK]; rintro e w' ⟨rfl, rfl⟩)
                        | (go_at_call 44; refine (cI_Numeric _ _).mono ?_; rw [hN5]; rintro e w' ⟨rfl, rfl⟩)
                        | (go_at_call 45; refine (cI_hasMsg (some ⟨b, off, none⟩) n c ms xf _ hn hle (by omega) (hf0.below (hb1.trans (hb2.mono hb1.size)))).mono ?_; rw [hH]; rintro e w3 ⟨rfl, hb3⟩; have R3 := R2.all hb3; have S3 := S2.all hb3; have t0 := S3.cell 0 rfl; have t1 := S3.cell 1 rfl; have t2 := S3.cell 2 rfl; have t3 := S3.cell 3 rfl; have t4 := S3.cell 4 rfl; have r3 := R3.cell 0 rfl))
                      go_ret
                      exact ⟨by rw [HE.out]; rfl, ((hb1.trans (hb2.mono hb1.size)).trans (hb3.mono (hb1.trans (hb2.mono hb1.size)).size))⟩
                · rcases h8 : (xk == 8) with _ | _
                  · have n8 : ¬ xk = 8 := by simpa using h8
                    have mn8 : (xk != 8) = true := by simpa using n8
                    rcases h0 : (xf == 0) with _ | _
                    · have n0 : ¬ xf = 0 := by simpa using h0
                      have mn0 : (xf != 0) = true := by simpa using n0
                      have HE : Hid (fieldCode ms (I : Int) (J : Int) = 9) := Lib.hid (by rw [HX.out]; unfold fldCode; simp [hNO, hHN, hK, hN5, h8, h0])
                      clear HX
                      go_enter Try.func17, Try.ntmps17
                      go_wp2_with (first
                        | (go_at_call 33; refine (cI_within _ _ _ _).mono ?_; (first | rw [h1] | rw [h4]); rintro e w' ⟨rfl, rfl⟩)
                        | (go_at_call 40; refine (cI_NumberOk _ _).mono ?_; rw [hNO]; rintro e w' ⟨rfl, rfl⟩)
                        | (go_at_call 41; refine HC.mono ?_; rintro e w2 ⟨rfl, hb2⟩; have R2 := R1.all hb2; have S2 := S1.all hb2; have s0 := S2.cell 0 rfl; have s1 := S2.cell 1 rfl; have s2 := S2.cell 2 rfl; have s3 := S2.cell 3 rfl; have s4 := S2.cell 4 rfl; have r2 := R2.cell 0 rfl)
                        | (go_at_call 43; refine (cI_isKind _ _).mono ?_; rw [hK]; rintro e w' ⟨rfl, rfl⟩)
                        | (go_at_call 44; refine (cI_Numeric _ _).mono ?_; rw [hN5]; rintro e w' ⟨rfl, rfl⟩))
                      go_ret
                      exact ⟨by rw [HE.out]; rfl, (hb1.trans (hb2.mono hb1.size))⟩
                    · obtain rfl : xf = 0 := by simpa using h0
                      have HE : Hid (fieldCode ms (I : Int) (J : Int) = 0) := Lib.hid (by rw [HX.out]; unfold fldCode; simp [hNO, hHN, hK, hN5, h8, h0])
                      clear HX
                      go_enter Try.func17, Try.ntmps17
                      go_wp2_with (first
                        | (go_at_call 33; refine (cI_within _ _ _ _).mono ?_; (first | rw [h1] | rw [h4]); rintro e w' ⟨rfl, rfl⟩)
                        | (go_at_call 40; refine (cI_NumberOk _ _).mono ?_; rw [hNO]; rintro e w' ⟨rfl, rfl⟩)
                        | (go_at_call 41; refine HC.mono ?_; rintro e w2 ⟨rfl, hb2⟩; have R2 := R1.all hb2; have S2 := S1.all hb2; have s0 := S2.cell 0 rfl; have s1 := S2.cell 1 rfl; have s2 := S2.cell 2 rfl; have s3 := S2.cell 3 rfl; have s4 := S2.cell 4 rfl; have r2 := R2.cell 0 rfl)
                        | (go_at_call 43; refine (cI_isKind _ _).mono ?_; rw [hK]; rintro e w' ⟨rfl, rfl⟩)
                        | (go_at_call 44; refine (cI_Numeric _ _).mono ?_; rw [hN5]; rintro e w' ⟨rfl, rfl⟩))
                      go_ret
                      exact ⟨by rw [HE.out]; rfl, (hb1.trans (hb2.mono hb1.size))⟩
                  · obtain rfl : xk = 8 := by simpa using h8
                    rcases hH : hasId ms xf with _ | _
                    · have HE : Hid (fieldCode ms (I : Int) (J : Int) = 9) := Lib.hid (by rw [HX.out]; unfold fldCode; simp [hNO, hHN, hK, hN5, h8, hH])
                      clear HX
                      go_enter Try.func17, Try.ntmps17
                      go_wp2_with (first
                        | (go_at_call 33; refine (cI_within _ _ _ _).mono ?_; (first | rw [h1] | rw [h4]); rintro e w' ⟨rfl, rfl⟩)
                        | (go_at_call 40; refine (cI_NumberOk _ _).mono ?_; rw [hNO]; rintro e w' ⟨rfl, rfl⟩)
                        | (go_at_call 41; refine HC.mono ?_; rintro e w2 ⟨rfl, hb2⟩; have R2 := R1.all hb2; have S2 := S1.all hb2; have s0 := S2.cell 0 rfl; have s1 := S2.cell 1 rfl; have s2 := S2.cell 2 rfl; have s3 := S2.cell 3 rfl; have s4 := S2.cell 4 rfl; have r2 := R2.cell 0 rfl)
                        | (go_at_call 43; refine (cI_isKind _ _).mono ?_; rw [hK]; rintro e w' ⟨rfl, rfl⟩)
                        | (go_at_call 44; refine (cI_Numeric _ _).mono ?_; rw [hN5]; rintro e w' ⟨rfl, rfl⟩)
                        | (go_at_call 45; refine (cI_hasMsg (some ⟨b, off, none⟩) n c ms xf _ hn hle (by omega) (hf0.below (hb1.trans (hb2.mono hb1.size)))).mono ?_; rw [hH]; rintro e w3 ⟨rfl, hb3⟩; have R3 := R2.all hb3; have S3 := S2.all hb3; have t0 := S3.cell 0 rfl; have t1 := S3.cell 1 rfl; have t2 := S3.cell 2 rfl; have t3 := S3.cell 3 rfl; have t4 := S3.cell 4 rfl; have r3 := R3.cell 0 rfl))
                      go_ret
                      exact ⟨by rw [HE.out]; rfl, ((hb1.trans (hb2.mono hb1.size)).trans (hb3.mono (hb1.trans (hb2.mono hb1.size)).size))⟩
                    · have HE : Hid (fieldCode ms (I : Int) (J : Int) = 0) := Lib.hid (by rw [HX.out]; unfold fldCode; simp [hNO, hHN, hK, hN5, h8, hH])
                      clear HX
                      go_enter Try.func17, Try.ntmps17
                      go_wp2_with (first
                        | (go_at_call 33; refine (cI_within _ _ _ _).mono ?_; (first | rw [h1] | rw [h4]); rintro e w' ⟨rfl, rfl⟩)
                        | (go_at_call 40; refine (cI_NumberOk _ _).mono ?_; rw [hNO]; rintro e w' ⟨rfl, rfl⟩)
                        | (go_at_call 41; refine HC.mono ?_; rintro e w2 ⟨rfl, hb2⟩; have R2 := R1.all hb2; have S2 := S1.all hb2; have s0 := S2.cell 0 rfl; have s1 := S2.cell 1 rfl; have s2 := S2.cell 2 rfl; have s3 := S2.cell 3 rfl; have s4 := S2.cell 4 rfl; have r2 := R2.cell 0 rfl)
                        | (go_at_call 43; refine (cI_isKind _ _).mono ?_; rw [hK]; rintro e w' ⟨rfl, rfl⟩)
                        | (go_at_call 44; refine (cI_Numeric _ _).mono ?_; rw [hN5]; rintro e w' ⟨rfl, rfl⟩)
                        | (go_at_call 45; refine (cI_hasMsg (some ⟨b, off, none⟩) n c ms xf _ hn hle (by omega) (hf0.below (hb1.trans (hb2.mono hb1.size)))).mono ?_; rw [hH]; rintro e w3 ⟨rfl, hb3⟩; have R3 := R2.all hb3; have S3 := S2.all hb3; have t0 := S3.cell 0 rfl; have t1 := S3.cell 1 rfl; have t2 := S3.cell 2 rfl; have t3 := S3.cell 3 rfl; have t4 := S3.cell 4 rfl; have r3 := R3.cell 0 rfl))
                      go_ret
                      exact ⟨by rw [HE.out]; rfl, ((hb1.trans (hb2.mono hb1.size)).trans (hb3.mono (hb1.trans (hb2.mono hb1.size)).size))⟩
              · rcases xr with _ | _
                · have HE : Hid (fieldCode ms (I : Int) (J : Int) = 8) := Lib.hid (by rw [HX.out]; unfold fldCode; simp [hNO, hHN, hK, hN5])
                  clear HX
                  go_enter Try.func17, Try.ntmps17
                  go_wp2_with (first
                    | (go_at_call 33; refine (cI_within _ _ _ _).mono ?_; (first | rw [h1] | rw [h4]); rintro e w' ⟨rfl, rfl⟩)
                    | (go_at_call 40; refine (cI_NumberOk _ _).mono ?_; rw [hNO]; rintro e w' ⟨rfl, rfl⟩)
                    | (go_at_call 41; refine HC.mono ?_; rintro e w2 ⟨rfl, hb2⟩; have R2 := R1.all hb2; have S2 := S1.all hb2; have s0 := S2.cell 0 rfl; have s1 := S2.cell 1 rfl; have s2 := S2.cell 2 rfl; have s3 := S2.cell 3 rfl; have s4 := S2.cell 4 rfl; have r2 := R2.cell 0 rfl)
                    | (go_at_call 43; refine (cI_isKind _ _).mono ?_; rw [hK]; rintro e w' ⟨rfl, rfl⟩)
                    | (go_at_call 44; refine (cI_Numeric _ _).mono ?_; rw [hN5]; rintro e w' ⟨rfl, rfl⟩))
                  go_ret
                  exact ⟨by rw [HE.out]; rfl, (hb1.trans (hb2.mono hb1.size))⟩
                · rcases h8 : (xk == 8) with _ | _
                  · have n8 : ¬ xk = 8 := by simpa using h8
                    have mn8 : (xk != 8) = true := by simpa using n8
                    rcases h0 : (xf == 0) with _ | _
                    · have n0 : ¬ xf = 0 := by simpa using h0
                      have mn0 : (xf != 0) = true := by simpa using n0
                      have HE : Hid (fieldCode ms (I : Int) (J : Int) = 9) := Lib.hid (by rw [HX.out]; unfold fldCode; simp [hNO, hHN, hK, hN5, h8, h0])
                      clear HX
                      go_enter Try.func17, Try.ntmps17
                      go_wp2_with (first
                        | (go_at_call 33; refine (cI_within _ _ _ _).mono ?_; (first | rw [h1] | rw [h4]); rintro e w' ⟨rfl, rfl⟩)
                        | (go_at_call 40; refine (cI_NumberOk _ _).mono ?_; rw [hNO]; rintro e w' ⟨rfl, rfl⟩)
                        | (go_at_call 41; refine HC.mono ?_; rintro e w2 ⟨rfl, hb2⟩; have R2 := R1.all hb2; have S2 := S1.all hb2; have s0 := S2.cell 0 rfl; have s1 := S2.cell 1 rfl; have s2 := S2.cell 2 rfl; have s3 := S2.cell 3 rfl; have s4 := S2.cell 4 rfl; have r2 := R2.cell 0 rfl)
                        | (go_at_call 43; refine (cI_isKind _ _).mono ?_; rw [hK]; rintro e w' ⟨rfl, rfl⟩)
                        | (go_at_call 44; refine (cI_Numeric _ _).mono ?_; rw [hN5]; rintro e w' ⟨rfl, rfl⟩))
                      go_ret
                      exact ⟨by rw [HE.out]; rfl, (hb1.trans (hb2.mono hb1.size))⟩
                    · obtain rfl : xf = 0 := by simpa using h0
                      have HE : Hid (fieldCode ms (I : Int) (J : Int) = 0) := Lib.hid (by rw [HX.out]; unfold fldCode; simp [hNO, hHN, hK, hN5, h8, h0])
                      clear HX
                      go_enter Try.func17, Try.ntmps17
                      go_wp2_with (first
                        | (go_at_call 33; refine (cI_within _ _ _ _).mono ?_; (first | rw [h1] | rw [h4]); rintro e w' ⟨rfl, rfl⟩)
                        | (go_at_call 40; refine (cI_NumberOk _ _).mono ?_; rw [hNO]; rintro e w' ⟨rfl, rfl⟩)
                        | (go_at_call 41; refine HC.mono ?_; rintro e w2 ⟨rfl, hb2⟩; have R2 := R1.all hb2; have S2 := S1.all hb2; have s0 := S2.cell 0 rfl; have s1 := S2.cell 1 rfl; have s2 := S2.cell 2 rfl; have s3 := S2.cell 3 rfl; have s4 := S2.cell 4 rfl; have r2 := R2.cell 0 rfl)
                        | (go_at_call 43; refine (cI_isKind _ _).mono ?_; rw [hK]; rintro e w' ⟨rfl, rfl⟩)
                        | (go_at_call 44; refine (cI_Numeric _ _).mono ?_; rw [hN5]; rintro e w' ⟨rfl, rfl⟩))
                      go_ret
                      exact ⟨by rw [HE.out]; rfl, (hb1.trans (hb2.mono hb1.size))⟩
                  · obtain rfl : xk = 8 := by simpa using h8
                    rcases hH : hasId ms xf with _ | _
                    · have HE : Hid (fieldCode ms (I : Int) (J : Int) = 9) := Lib.hid (by rw [HX.out]; unfold fldCode; simp [hNO, hHN, hK, hN5, h8, hH])
                      clear HX
                      go_enter Try.func17, Try.ntmps17
                      go_wp2_with (first
                        | (go_at_call 33; refine (cI_within _ _ _ _).mono ?_; (first | rw [h1] | rw [h4]); rintro e w' ⟨rfl, rfl⟩)
                        | (go_at_call 40; refine (cI_NumberOk _ _).mono ?_; rw [hNO]; rintro e w' ⟨rfl, rfl⟩)
                        | (go_at_call 41; refine HC.mono ?_; rintro e w2 ⟨rfl, hb2⟩; have R2 := R1.all hb2; have S2 := S1.all hb2; have s0 := S2.cell 0 rfl; have s1 := S2.cell 1 rfl; have s2 := S2.cell 2 rfl; have s3 := S2.cell 3 rfl; have s4 := S2.cell 4 rfl; have r2 := R2.cell 0 rfl)
                        | (go_at_call 43; refine (cI_isKind _ _).mono ?_; rw [hK]; rintro e w' ⟨rfl, rfl⟩)
                        | (go_at_call 44; refine (cI_Numeric _ _).mono ?_; rw [hN5]; rintro e w' ⟨rfl, rfl⟩)
                        | (go_at_call 45; refine (cI_hasMsg (some ⟨b, off, none⟩) n c ms xf _ hn hle (by omega) (hf0.below (hb1.trans (hb2.mono hb1.size)))).mono ?_; rw [hH]; rintro e w3 ⟨rfl, hb3⟩; have R3 := R2.all hb3; have S3 := S2.all hb3; have t0 := S3.cell 0 rfl; have t1 := S3.cell 1 rfl; have t2 := S3.cell 2 rfl; have t3 := S3.cell 3 rfl; have t4 := S3.cell 4 rfl; have r3 := R3.cell 0 rfl))
                      go_ret
                      exact ⟨by rw [HE.out]; rfl, ((hb1.trans (hb2.mono hb1.size)).trans (hb3.mono (hb1.trans (hb2.mono hb1.size)).size))⟩
                    · have HE : Hid (fieldCode ms (I : Int) (J : Int) = 0) := Lib.hid (by rw [HX.out]; unfold fldCode; simp [hNO, hHN, hK, hN5, h8, hH])
                      clear HX
                      go_enter Try.func17, Try.ntmps17
                      go_wp2_with (first
                        | (go_at_call 33; refine (cI_within _ _ _ _).mono ?_; (first | rw [h1] | rw [h4]); rintro e w' ⟨rfl, rfl⟩)
                        | (go_at_call 40; refine (cI_NumberOk _ _).mono ?_; rw [hNO]; rintro e w' ⟨rfl, rfl⟩)
                        | (go_at_call 41; refine HC.mono ?_; rintro e w2 ⟨rfl, hb2⟩; have R2 := R1.all hb2; have S2 := S1.all hb2; have s0 := S2.cell 0 rfl; have s1 := S2.cell 1 rfl; have s2 := S2.cell 2 rfl; have s3 := S2.cell 3 rfl; have s4 := S2.cell 4 rfl; have r2 := R2.cell 0 rfl)
                        | (go_at_call 43; refine (cI_isKind _ _).mono ?_; rw [hK]; rintro e w' ⟨rfl, rfl⟩)
                        | (go_at_call 44; refine (cI_Numeric _ _).mono ?_; rw [hN5]; rintro e w' ⟨rfl, rfl⟩)
                        | (go_at_call 45; refine (cI_hasMsg (some ⟨b, off, none⟩) n c ms xf _ hn hle (by omega) (hf0.below (hb1.trans (hb2.mono hb1.size)))).mono ?_; rw [hH]; rintro e w3 ⟨rfl, hb3⟩; have R3 := R2.all hb3; have S3 := S2.all hb3; have t0 := S3.cell 0 rfl; have t1 := S3.cell 1 rfl; have t2 := S3.cell 2 rfl; have t3 := S3.cell 3 rfl; have t4 := S3.cell 4 rfl; have r3 := R3.cell 0 rfl))
                      go_ret
                      exact ⟨by rw [HE.out]; rfl, ((hb1.trans (hb2.mono hb1.size)).trans (hb3.mono (hb1.trans (hb2.mono hb1.size)).size))⟩
        · rw [hHN] at HC
          have HE : Hid (fieldCode ms (I : Int) (J : Int) = 6) := Lib.hid (by rw [HX.out]; unfold fldCode; simp [hNO, hHN])
          clear HX
          go_enter Try.func17, Try.ntmps17
          go_wp2_with (first
            | (go_at_call 33; refine (cI_within _ _ _ _).mono ?_; (first | rw [h1] | rw [h4]); rintro e w' ⟨rfl, rfl⟩)
            | (go_at_call 40; refine (cI_NumberOk _ _).mono ?_; rw [hNO]; rintro e w' ⟨rfl, rfl⟩)
            | (go_at_call 41; refine HC.mono ?_; rintro e w2 ⟨rfl, hb2⟩; have R2 := R1.all hb2; have S2 := S1.all hb2; have s0 := S2.cell 0 rfl; have s1 := S2.cell 1 rfl; have s2 := S2.cell 2 rfl; have s3 := S2.cell 3 rfl; have s4 := S2.cell 4 rfl; have r2 := R2.cell 0 rfl)
            | (go_at_call 43; refine (cI_isKind _ _).mono ?_; rw [hK]; rintro e w' ⟨rfl, rfl⟩)
            | (go_at_call 44; refine (cI_Numeric _ _).mono ?_; rw [hN5]; rintro e w' ⟨rfl, rfl⟩))
          go_ret
          exact ⟨by rw [HE.out]; rfl, (hb1.trans (hb2.mono hb1.size))⟩
end Go.Proofs.Ytcoghgpgfaifaaa
