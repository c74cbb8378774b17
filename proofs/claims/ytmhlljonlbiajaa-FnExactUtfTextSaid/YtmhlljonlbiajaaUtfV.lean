/- Contracts of UtfGood and UtfState, and the walks of the exact laws over states. Conditions: integers fit their kinds; a bound on the string. -/
import Derived.Test.YtmhlljonlbiajaaUtfU
import Derived.Test.YtmhlljonlbiajaaUtfS
namespace Go.Proofs.Ytmhlljonlbiajaa
open Go.RowKit Plain
set_option linter.unusedVariables false
set_option linter.unusedSimpArgs false
theorem good_cases (l : List Nat) : (utfText (0, 0, 0) l = ((0, 0, 0), -1) ∧ utfGood l = true) ∨ (∃ W L H : Int, utfText (0, 0, 0) l = ((W, L, H), -1) ∧ (W == 0) = false ∧ utfGood l = false) ∨
    (∃ W L H p : Int, utfText (0, 0, 0) l = ((W, L, H), p) ∧ 0 ≤ p ∧ utfGood l = false) := by
  have h1 : okSt (utfText (0, 0, 0) l).1 = true := runU_ok (by decide)
  have h2 : (utfText (0, 0, 0) l).2 = -1 ∨ ((0 : Int) ≤ (utfText (0, 0, 0) l).2 ∧ _) := runU_at (l := l) (u := (0, 0, 0)) (i := 0)
  obtain ⟨⟨⟨W, L, H⟩, p⟩, hq⟩ : ∃ q, q = utfText (0, 0, 0) l := ⟨_, rfl⟩
  rw [← hq] at h1 h2
  have hg : utfGood l = decide (((W, L, H), p) = (((0, 0, 0), -1) : (Int × Int × Int) × Int)) := by unfold utfGood; rw [hq]
  rw [hg, ← hq]
  rcases h2 with h2 | ⟨h2, _⟩
  · simp only at h2
    subst h2
    have hc := ok_cases h1
    simp only [Prod.mk.injEq] at hc
    by_cases w0 : W = 0
    · obtain ⟨rfl, rfl⟩ : L = 0 ∧ H = 0 := by omega
      subst w0
      exact .inl ⟨rfl, by decide⟩
    · exact .inr (.inl ⟨W, L, H, rfl, by rw [beq_eq_false_iff_ne]; exact w0, by simp [w0]⟩)
  · simp only at h2
    exact .inr (.inr ⟨W, L, H, p, rfl, h2, by simp; omega⟩)
theorem cL_toUtf (a b c : Int) (w : World) : Calls Try.prog 16 #[.agg #[.int .i64 a, .int .i64 b, .int .i64 c]] w fun e w' => e = .returned (.agg #[.int .i64 a, .int .i64 b, .int .i64 c]) ∧ Below w.heap.size w w' := by
  go_enter Try.func16, Try.ntmps16
  go_wp2
  exact bodyPost_ret (v := .agg #[.int .i64 a, .int .i64 b, .int .i64 c]) (by simp [results, Try.results16, go_sem]) rfl ⟨rfl, by repeat (first | exact Below.refl _ _ | refine Below.setCell ?_ (by simp) _ | refine Below.alloc ?_ (by simp; omega) _ | refine Below.alloc ?_ (by simp) _)⟩
theorem cL_eqUtf (a b c : Int) (w : World) : Calls Try.prog 20 #[.agg #[.int .i64 a, .int .i64 b, .int .i64 c], .agg #[.int .i64 a, .int .i64 b, .int .i64 c]] w fun e w' => e = .returned (.bool true) ∧ Below w.heap.size w w' := by
  go_enter Try.func20, Try.ntmps20
  go_wp2
  go_ret
  exact ⟨rfl, by repeat (first | exact Below.refl _ _ | refine Below.setCell ?_ (by simp) _ | refine Below.alloc ?_ (by simp; omega) _ | refine Below.alloc ?_ (by simp) _)⟩
set_option maxHeartbeats 1000000 in
theorem cI_UtfGood (s : ByteArray) (w : World) (hs : s.size ≤ 1048576) : Calls Try.prog 23 #[.string s] w fun e w' => e = .returned (.bool (utfGood (bl s))) ∧ Below w.heap.size w w' := by
  have hT := fun w => cI_UtfText 0 0 0 s w hs
  rcases good_cases (bl s) with ⟨e1, e2⟩ | ⟨W, L, H, e1, h1, e2⟩ | ⟨W, L, H, p, e1, h1, e2⟩
  · rw [e1] at hT
    rw [e2]
    clear e1 e2
    unfold textV at hT
    go_enter Try.func23, Try.ntmps23
    go_wp2_with fail
    refine (hT _).mono ?_
    rintro e w1 ⟨rfl, hb1⟩
    go_wp2
    go_ret
    exact ⟨rfl, by repeat (first | exact hb1 | refine Below.alloc ?_ (by first | exact hb1.size | (have := hb1.size; simp; omega)) _)⟩
  · rw [e1] at hT
    rw [e2]
    clear e1 e2
    unfold textV at hT
    go_enter Try.func23, Try.ntmps23
    go_wp2_with fail
    refine (hT _).mono ?_
    rintro e w1 ⟨rfl, hb1⟩
    go_wp2
    go_ret
    exact ⟨rfl, by repeat (first | exact hb1 | refine Below.alloc ?_ (by first | exact hb1.size | (have := hb1.size; simp; omega)) _)⟩
  · rw [e1] at hT
    rw [e2]
    clear e1 e2
    unfold textV at hT
    have h2 : ¬ p < 0 := by omega
    go_enter Try.func23, Try.ntmps23
    go_wp2_with fail
    refine (hT _).mono ?_
    rintro e w1 ⟨rfl, hb1⟩
    go_wp2
    go_ret
    exact ⟨rfl, by repeat (first | exact hb1 | refine Below.alloc ?_ (by first | exact hb1.size | (have := hb1.size; simp; omega)) _)⟩
theorem cI_UtfState (s : ByteArray) (w : World) (hs : s.size ≤ 1048576) : Calls Try.prog 24 #[.string s] w fun e w' => e = .returned (stV (utfText (0, 0, 0) (bl s)).1) ∧ Below w.heap.size w w' := by
  have hT := fun w => cI_UtfText 0 0 0 s w hs
  obtain ⟨⟨⟨W, L, H⟩, p⟩, hq⟩ : ∃ q, q = utfText (0, 0, 0) (bl s) := ⟨_, rfl⟩
  rw [← hq] at hT ⊢
  clear hq
  unfold textV at hT
  have X0 := Box.new w 27 #[.int .i64 0, .int .i64 0, .int .i64 0]
  go_enter Try.func24, Try.ntmps24
  go_wp2_with fail
  refine (hT _).mono ?_
  rintro e w1 ⟨rfl, hb1⟩
  have X1 := X0.all hb1
  have c0 := X1.cell 0 rfl; have c1 := X1.cell 1 rfl; have c2 := X1.cell 2 rfl
  have f0 := X1.free 0; have f1 := X1.free 1; have f2 := X1.free 2
  have xl := X1.lt
  have B1 := ((Below.refl w.heap.size w).alloc (Nat.le_refl _) (.cells #[.int .i64 0, .int .i64 0, .int .i64 0] 27)).trans (hb1.mono (by simp))
  have Z := ((X1.set_ 0 (.int .i64 W)).set_ 1 (.int .i64 L)).set_ 2 (.int .i64 H)
  have z0 : World.cell? _ ⟨w.heap.size, 0, none⟩ = some (.int .i64 W) := Z.cell 0 rfl
  have z1 : World.cell? _ ⟨w.heap.size, 1, none⟩ = some (.int .i64 L) := Z.cell 1 rfl
  have z2 : World.cell? _ ⟨w.heap.size, 2, none⟩ = some (.int .i64 H) := Z.cell 2 rfl
  have Z' := Z.alloc (.cells #[.int .i64 W, .int .i64 L, .int .i64 H] 27)
  have y0 : World.cell? _ ⟨w.heap.size, 0, none⟩ = some (.int .i64 W) := Z'.cell 0 rfl
  have y1 : World.cell? _ ⟨w.heap.size, 1, none⟩ = some (.int .i64 L) := Z'.cell 1 rfl
  have y2 : World.cell? _ ⟨w.heap.size, 2, none⟩ = some (.int .i64 H) := Z'.cell 2 rfl
  go_wp2
  exact bodyPost_ret (v := .agg #[.int .i64 W, .int .i64 L, .int .i64 H]) (by simp [results, Try.results24, go_sem, c0, c1, c2, z0, z1, z2, y0, y1, y2]) rfl ⟨rfl, by repeat (first | exact B1 | refine Below.setCell ?_ (by first | (simp; done) | (simp; omega)) _ | refine Below.alloc ?_ (by first | exact B1.size | (have := B1.size; simp; omega)) _)⟩
set_option maxHeartbeats 1000000 in
theorem cP_UtfGood (s : ByteArray) (w : World) (hs : s.size ≤ 1048576) : Calls Try.prog 25 #[.string s] w fun e w' => e = .returned (.bool (utfGood (bl s))) ∧ Below w.heap.size w w' := by
  have hT := fun w => cP_UtfText 0 0 0 s w hs
  rcases good_cases (bl s) with ⟨e1, e2⟩ | ⟨W, L, H, e1, h1, e2⟩ | ⟨W, L, H, p, e1, h1, e2⟩
  · rw [e1] at hT
    rw [e2]
    clear e1 e2
    unfold textV at hT
    go_enter Try.func25, Try.ntmps25
    go_wp2_with fail
    refine (hT _).mono ?_
    rintro e w1 ⟨rfl, hb1⟩
    go_wp2
    go_ret
    exact ⟨rfl, by repeat (first | exact hb1 | refine Below.alloc ?_ (by first | exact hb1.size | (have := hb1.size; simp; omega)) _)⟩
  · rw [e1] at hT
    rw [e2]
    clear e1 e2
    unfold textV at hT
    go_enter Try.func25, Try.ntmps25
    go_wp2_with fail
    refine (hT _).mono ?_
    rintro e w1 ⟨rfl, hb1⟩
    go_wp2
    go_ret
    exact ⟨rfl, by repeat (first | exact hb1 | refine Below.alloc ?_ (by first | exact hb1.size | (have := hb1.size; simp; omega)) _)⟩
  · rw [e1] at hT
    rw [e2]
    clear e1 e2
    unfold textV at hT
    have h2 : ¬ p < 0 := by omega
    go_enter Try.func25, Try.ntmps25
    go_wp2_with fail
    refine (hT _).mono ?_
    rintro e w1 ⟨rfl, hb1⟩
    go_wp2
    go_ret
    exact ⟨rfl, by repeat (first | exact hb1 | refine Below.alloc ?_ (by first | exact hb1.size | (have := hb1.size; simp; omega)) _)⟩
theorem cP_UtfState (s : ByteArray) (w : World) (hs : s.size ≤ 1048576) : Calls Try.prog 28 #[.string s] w fun e w' => e = .returned (stV (utfText (0, 0, 0) (bl s)).1) ∧ Below w.heap.size w w' := by
  have hT := fun w => cP_UtfText 0 0 0 s w hs
  obtain ⟨⟨⟨W, L, H⟩, p⟩, hq⟩ : ∃ q, q = utfText (0, 0, 0) (bl s) := ⟨_, rfl⟩
  rw [← hq] at hT ⊢
  clear hq
  unfold textV at hT
  have X0 := Box.new w 27 #[.int .i64 0, .int .i64 0, .int .i64 0]
  go_enter Try.func28, Try.ntmps28
  go_wp2_with fail
  refine (hT _).mono ?_
  rintro e w1 ⟨rfl, hb1⟩
  have X1 := X0.all hb1
  have c0 := X1.cell 0 rfl; have c1 := X1.cell 1 rfl; have c2 := X1.cell 2 rfl
  have f0 := X1.free 0; have f1 := X1.free 1; have f2 := X1.free 2
  have xl := X1.lt
  have B1 := ((Below.refl w.heap.size w).alloc (Nat.le_refl _) (.cells #[.int .i64 0, .int .i64 0, .int .i64 0] 27)).trans (hb1.mono (by simp))
  have Z := ((X1.set_ 0 (.int .i64 W)).set_ 1 (.int .i64 L)).set_ 2 (.int .i64 H)
  have z0 : World.cell? _ ⟨w.heap.size, 0, none⟩ = some (.int .i64 W) := Z.cell 0 rfl
  have z1 : World.cell? _ ⟨w.heap.size, 1, none⟩ = some (.int .i64 L) := Z.cell 1 rfl
  have z2 : World.cell? _ ⟨w.heap.size, 2, none⟩ = some (.int .i64 H) := Z.cell 2 rfl
  have Z' := Z.alloc (.cells #[.int .i64 W, .int .i64 L, .int .i64 H] 27)
  have y0 : World.cell? _ ⟨w.heap.size, 0, none⟩ = some (.int .i64 W) := Z'.cell 0 rfl
  have y1 : World.cell? _ ⟨w.heap.size, 1, none⟩ = some (.int .i64 L) := Z'.cell 1 rfl
  have y2 : World.cell? _ ⟨w.heap.size, 2, none⟩ = some (.int .i64 H) := Z'.cell 2 rfl
  go_wp2
  exact bodyPost_ret (v := .agg #[.int .i64 W, .int .i64 L, .int .i64 H]) (by simp [results, Try.results28, go_sem, c0, c1, c2, z0, z1, z2, y0, y1, y2]) rfl ⟨rfl, by repeat (first | exact B1 | refine Below.setCell ?_ (by first | (simp; done) | (simp; omega)) _ | refine Below.alloc ?_ (by first | exact B1.size | (have := B1.size; simp; omega)) _)⟩
theorem walkFnExactUtfOk (a b c : Int) (w : World) (ha : (Lit.int .i64 a).wf = true) (hb : (Lit.int .i64 b).wf = true) (hc : (Lit.int .i64 c).wf = true) : Calls Try.prog 4 #[.agg #[.int .i64 a, .int .i64 b, .int .i64 c]] w fun e w' => e = .returned (.bool true) ∧ Below w.heap.size w w' := by
  clear ha hb hc
  go_enter Try.func4, Try.ntmps4
  go_wp2_with fail
  refine (cL_toUtf _ _ _ _).mono ?_
  rintro e w1 ⟨rfl, hb1⟩
  have X1 := (Box.new w 25 #[.int .i64 a, .int .i64 b, .int .i64 c]).all hb1
  have s1 : w.heap.size < w1.heap.size := X1.lt
  have c1 := X1.cell 0 rfl; have d1 := X1.cell 1 rfl; have e1 := X1.cell 2 rfl
  go_wp2_with fail
  refine (cP_UtfOk _ _ _ _).mono ?_
  rintro e w2 ⟨rfl, hb2⟩
  have X2 := X1.all hb2
  have s2 : w.heap.size < w2.heap.size := X2.lt
  have c2 := X2.cell 0 rfl; have d2 := X2.cell 1 rfl; have e2 := X2.cell 2 rfl
  go_wp2_with fail
  refine (cL_toUtf _ _ _ _).mono ?_
  rintro e w3 ⟨rfl, hb3⟩
  go_wp2_with fail
  refine (cI_UtfOk _ _ _ _).mono ?_
  rintro e w4 ⟨rfl, hb4⟩
  go_wp2
  go_ret
  have B1 := ((Below.refl w.heap.size w).alloc (Nat.le_refl _) _).trans (hb1.mono (by simp))
  have B2 := B1.trans (hb2.mono B1.size)
  have B3 := B2.trans (hb3.mono B2.size)
  exact ⟨rfl, B3.trans (hb4.mono B3.size)⟩
set_option maxHeartbeats 1000000 in
theorem walkFnExactUtfByte (a b c x : Int) (w : World) (ha : (Lit.int .i64 a).wf = true) (hb : (Lit.int .i64 b).wf = true) (hc : (Lit.int .i64 c).wf = true) (hx : (Lit.int .i64 x).wf = true) : Calls Try.prog 5 #[.agg #[.int .i64 a, .int .i64 b, .int .i64 c], .int .i64 x] w fun e w' => e = .returned (.bool true) ∧ Below w.heap.size w w' := by
  clear ha hb hc hx
  have hP := fun w => cP_UtfByte a b c x w
  have hI := fun w => cI_UtfByte a b c x w
  rcases hst : stepU (a, b, c) x with _ | ⟨vW, vL, vH⟩
  all_goals rw [hst] at hP hI
  all_goals clear hst
  all_goals unfold outU stV at hP hI
  · go_enter Try.func5, Try.ntmps5
    go_wp2_with fail
    refine (cL_toUtf _ _ _ _).mono ?_
    rintro e w1 ⟨rfl, hb1⟩
    have X1 := (Box.new w 25 #[.int .i64 a, .int .i64 b, .int .i64 c]).all hb1
    have s1 : w.heap.size < w1.heap.size := X1.lt
    have c1 := X1.cell 0 rfl; have d1 := X1.cell 1 rfl; have e1 := X1.cell 2 rfl
    go_wp2_with fail
    refine (hP _).mono ?_
    rintro e w2 ⟨rfl, hb2⟩
    have X2 := X1.all hb2
    have s2 : w.heap.size < w2.heap.size := X2.lt
    have c2 := X2.cell 0 rfl; have d2 := X2.cell 1 rfl; have e2 := X2.cell 2 rfl
    go_wp2_with fail
    refine (cL_toUtf _ _ _ _).mono ?_
    rintro e w3 ⟨rfl, hb3⟩
    have Y3 := (Box.new w2 27 #[.int .i64 a, .int .i64 b, .int .i64 c]).all hb3
    have s3 : w2.heap.size < w3.heap.size := Y3.lt
    have e3 := Y3.cell 0 rfl; have f3 := Y3.cell 1 rfl; have g3 := Y3.cell 2 rfl
    go_wp2_with fail
    refine (hI _).mono ?_
    rintro e w4 ⟨rfl, hb4⟩
    have Y4 := Y3.all hb4
    have s4 : w2.heap.size < w4.heap.size := Y4.lt
    have e4 := Y4.cell 0 rfl; have f4 := Y4.cell 1 rfl; have g4 := Y4.cell 2 rfl
    go_wp2_with fail
    refine (cL_eqUtf _ _ _ _).mono ?_
    rintro e w5 ⟨rfl, hb5⟩
    go_wp2
    go_ret
    have B1 := ((Below.refl w.heap.size w).alloc (Nat.le_refl _) _).trans (hb1.mono (by simp))
    have B2 := B1.trans (hb2.mono B1.size)
    have B3 := (B2.alloc B2.size _).trans (hb3.mono (by simp; have := B2.size; omega))
    have B4 := B3.trans (hb4.mono B3.size)
    have B5 := (B4.alloc B4.size _).trans (hb5.mono (by simp; have := B4.size; omega))
    exact ⟨rfl, B5⟩
  · go_enter Try.func5, Try.ntmps5
    go_wp2_with fail
    refine (cL_toUtf _ _ _ _).mono ?_
    rintro e w1 ⟨rfl, hb1⟩
    have X1 := (Box.new w 25 #[.int .i64 a, .int .i64 b, .int .i64 c]).all hb1
    have s1 : w.heap.size < w1.heap.size := X1.lt
    have c1 := X1.cell 0 rfl; have d1 := X1.cell 1 rfl; have e1 := X1.cell 2 rfl
    go_wp2_with fail
    refine (hP _).mono ?_
    rintro e w2 ⟨rfl, hb2⟩
    have X2 := X1.all hb2
    have s2 : w.heap.size < w2.heap.size := X2.lt
    have c2 := X2.cell 0 rfl; have d2 := X2.cell 1 rfl; have e2 := X2.cell 2 rfl
    go_wp2_with fail
    refine (cL_toUtf _ _ _ _).mono ?_
    rintro e w3 ⟨rfl, hb3⟩
    have Y3 := (Box.new w2 27 #[.int .i64 vW, .int .i64 vL, .int .i64 vH]).all hb3
    have s3 : w2.heap.size < w3.heap.size := Y3.lt
    have e3 := Y3.cell 0 rfl; have f3 := Y3.cell 1 rfl; have g3 := Y3.cell 2 rfl
    go_wp2_with fail
    refine (hI _).mono ?_
    rintro e w4 ⟨rfl, hb4⟩
    have Y4 := Y3.all hb4
    have s4 : w2.heap.size < w4.heap.size := Y4.lt
    have e4 := Y4.cell 0 rfl; have f4 := Y4.cell 1 rfl; have g4 := Y4.cell 2 rfl
    go_wp2_with fail
    refine (cL_eqUtf _ _ _ _).mono ?_
    rintro e w5 ⟨rfl, hb5⟩
    go_wp2
    go_ret
    have B1 := ((Below.refl w.heap.size w).alloc (Nat.le_refl _) _).trans (hb1.mono (by simp))
    have B2 := B1.trans (hb2.mono B1.size)
    have B3 := (B2.alloc B2.size _).trans (hb3.mono (by simp; have := B2.size; omega))
    have B4 := B3.trans (hb4.mono B3.size)
    have B5 := (B4.alloc B4.size _).trans (hb5.mono (by simp; have := B4.size; omega))
    exact ⟨rfl, B5⟩
set_option maxHeartbeats 1000000 in
theorem walkFnExactUtfText (a b c : Int) (s : ByteArray) (w : World) (ha : (Lit.int .i64 a).wf = true) (hb : (Lit.int .i64 b).wf = true) (hc : (Lit.int .i64 c).wf = true) (hs : s.size ≤ maxLen) : Calls Try.prog 8 #[.agg #[.int .i64 a, .int .i64 b, .int .i64 c], .string s] w fun e w' => e = .returned (.bool true) ∧ Below w.heap.size w w' := by
  clear ha hb hc
  by_cases hbig : 1048576 < s.size
  · go_enter Try.func8, Try.ntmps8
    go_wp2
    go_ret
    exact ⟨rfl, (Below.refl _ _).alloc (Nat.le_refl _) _⟩
  · have hP := fun w => cP_UtfText a b c s w (by omega)
    have hI := fun w => cI_UtfText a b c s w (by omega)
    obtain ⟨⟨⟨vW, vL, vH⟩, p⟩, hq⟩ : ∃ q, q = utfText (a, b, c) (bl s) := ⟨_, rfl⟩
    rw [← hq] at hP hI
    clear hq
    unfold textV at hP hI
    go_enter Try.func8, Try.ntmps8
    go_wp2_with fail
    refine (cL_toUtf _ _ _ _).mono ?_
    rintro e w1 ⟨rfl, hb1⟩
    have X1 := (Box.new w 25 #[.int .i64 a, .int .i64 b, .int .i64 c]).all hb1
    have s1 : w.heap.size < w1.heap.size := X1.lt
    have c1 := X1.cell 0 rfl; have d1 := X1.cell 1 rfl; have e1 := X1.cell 2 rfl
    go_wp2_with fail
    refine (hP _).mono ?_
    rintro e w2 ⟨rfl, hb2⟩
    have X2 := X1.all hb2
    have s2 : w.heap.size < w2.heap.size := X2.lt
    have c2 := X2.cell 0 rfl; have d2 := X2.cell 1 rfl; have e2 := X2.cell 2 rfl
    go_wp2_with fail
    refine (cL_toUtf _ _ _ _).mono ?_
    rintro e w3 ⟨rfl, hb3⟩
    have Y3 := (Box.new w2 27 #[.int .i64 vW, .int .i64 vL, .int .i64 vH]).all hb3
    have s3 : w2.heap.size < w3.heap.size := Y3.lt
    have e3 := Y3.cell 0 rfl; have f3 := Y3.cell 1 rfl; have g3 := Y3.cell 2 rfl
    go_wp2_with fail
    refine (hI _).mono ?_
    rintro e w4 ⟨rfl, hb4⟩
    have Y4 := Y3.all hb4
    have s4 : w2.heap.size < w4.heap.size := Y4.lt
    have e4 := Y4.cell 0 rfl; have f4 := Y4.cell 1 rfl; have g4 := Y4.cell 2 rfl
    go_wp2_with fail
    refine (cL_eqUtf _ _ _ _).mono ?_
    rintro e w5 ⟨rfl, hb5⟩
    go_wp2
    go_ret
    have B1 := ((Below.refl w.heap.size w).alloc (Nat.le_refl _) _).trans (hb1.mono (by simp))
    have B2 := B1.trans (hb2.mono B1.size)
    have B3 := (B2.alloc B2.size _).trans (hb3.mono (by simp; have := B2.size; omega))
    have B4 := B3.trans (hb4.mono B3.size)
    have B5 := (B4.alloc B4.size _).trans (hb5.mono (by simp; have := B4.size; omega))
    exact ⟨rfl, B5⟩
theorem walkFnExactUtfGood (s : ByteArray) (w : World) (hs : s.size ≤ maxLen) : Calls Try.prog 7 #[.string s] w fun e w' => e = .returned (.bool true) ∧ Below w.heap.size w w' := by
  by_cases hbig : 1048576 < s.size
  · go_enter Try.func7, Try.ntmps7
    go_wp2
    go_ret
    exact ⟨rfl, Below.refl _ _⟩
  · go_enter Try.func7, Try.ntmps7
    go_wp2_with fail
    refine (cP_UtfGood _ _ (by omega)).mono ?_
    rintro e w1 ⟨rfl, hb1⟩
    go_wp2_with fail
    refine (cI_UtfGood _ _ (by omega)).mono ?_
    rintro e w2 ⟨rfl, hb2⟩
    go_wp2
    go_ret
    exact ⟨rfl, hb1.trans (hb2.mono hb1.size)⟩
theorem walkFnExactUtfState (s : ByteArray) (w : World) (hs : s.size ≤ maxLen) : Calls Try.prog 9 #[.string s] w fun e w' => e = .returned (.bool true) ∧ Below w.heap.size w w' := by
  by_cases hbig : 1048576 < s.size
  · go_enter Try.func9, Try.ntmps9
    go_wp2
    go_ret
    exact ⟨rfl, Below.refl _ _⟩
  · have hP := fun w => cP_UtfState s w (by omega)
    have hI := fun w => cI_UtfState s w (by omega)
    generalize (utfText (0, 0, 0) (bl s)).1 = q at hP hI
    obtain ⟨vW, vL, vH⟩ := q
    unfold stV at hP hI
    go_enter Try.func9, Try.ntmps9
    go_wp2_with fail
    refine (hP _).mono ?_
    rintro e w1 ⟨rfl, hb1⟩
    go_wp2_with fail
    refine (hI _).mono ?_
    rintro e w2 ⟨rfl, hb2⟩
    have Y := (Box.new w1 27 #[.int .i64 vW, .int .i64 vL, .int .i64 vH]).all hb2
    have sy := Y.lt
    have e4 := Y.cell 0 rfl; have f4 := Y.cell 1 rfl; have g4 := Y.cell 2 rfl
    go_wp2_with fail
    refine (cL_eqUtf _ _ _ _).mono ?_
    rintro e w3 ⟨rfl, hb3⟩
    go_wp2
    go_ret
    have B2 := (hb1.alloc hb1.size _).trans (hb2.mono (by simp; have := hb1.size; omega))
    exact ⟨rfl, (B2.alloc B2.size _).trans (hb3.mono (by simp; have := B2.size; omega))⟩
end Go.Proofs.Ytmhlljonlbiajaa
