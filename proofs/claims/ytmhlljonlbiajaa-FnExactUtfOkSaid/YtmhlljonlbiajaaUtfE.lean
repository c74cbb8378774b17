/- Contracts of UtfByte and of the state behind a first byte. Conditions: none. -/
import Derived.Test.YtmhlljonlbiajaaUtfD
namespace Go.Proofs.Ytmhlljonlbiajaa
open Go.RowKit Plain
set_option linter.unusedVariables false
set_option linter.unusedSimpArgs false
/-- what a step answers -/
def outU (u : (Int × Int × Int)) : Option (Int × Int × Int) → Value
  | none => .tuple #[stV u, .bool false]
  | some v => .tuple #[stV v, .bool true]
theorem first_split (b : Int) : (first b = some (0, 0, 0) ∧ inB b 0 127 = true) ∨
    (first b = some (1, 128, 191) ∧ inB b 0 127 = false ∧ inB b 194 223 = true ∧ (b == 224) = false ∧ (b == 237) = false ∧ (b == 240) = false ∧ (b == 244) = false) ∨
    (b = 224 ∧ first 224 = some (2, 160, 191) ∧ inB 224 0 127 = false ∧ inB 224 194 223 = false ∧ inB 224 224 239 = true) ∨
    (b = 237 ∧ first 237 = some (2, 128, 159) ∧ inB 237 0 127 = false ∧ inB 237 194 223 = false ∧ inB 237 224 239 = true) ∨
    (first b = some (2, 128, 191) ∧ inB b 0 127 = false ∧ inB b 194 223 = false ∧ inB b 224 239 = true ∧ (b == 224) = false ∧ (b == 237) = false ∧ (b == 240) = false ∧ (b == 244) = false) ∨
    (b = 240 ∧ first 240 = some (3, 144, 191) ∧ inB 240 0 127 = false ∧ inB 240 194 223 = false ∧ inB 240 224 239 = false ∧ inB 240 240 244 = true) ∨
    (b = 244 ∧ first 244 = some (3, 128, 143) ∧ inB 244 0 127 = false ∧ inB 244 194 223 = false ∧ inB 244 224 239 = false ∧ inB 244 240 244 = true) ∨
    (first b = some (3, 128, 191) ∧ inB b 0 127 = false ∧ inB b 194 223 = false ∧ inB b 224 239 = false ∧ inB b 240 244 = true ∧ (b == 224) = false ∧ (b == 237) = false ∧ (b == 240) = false ∧ (b == 244) = false) ∨
    (first b = none ∧ inB b 0 127 = false ∧ inB b 194 223 = false ∧ inB b 224 239 = false ∧ inB b 240 244 = false) := by
  have hne : ∀ c : Int, b ≠ c → (b == c) = false := fun c h => by rw [beq_eq_false_iff_ne]; exact h
  by_cases c1 : 0 ≤ b ∧ b ≤ 127
  · exact .inl ⟨by unfold first; rw [if_pos c1], inB_mk c1.1 c1.2⟩
  refine .inr ?_
  have n1 : inB b 0 127 = false := inB_mk_no (by omega)
  by_cases c2 : 194 ≤ b ∧ b ≤ 223
  · exact .inl ⟨by unfold first; rw [if_neg c1, if_pos c2], n1, inB_mk c2.1 c2.2, hne _ (by omega), hne _ (by omega), hne _ (by omega), hne _ (by omega)⟩
  refine .inr ?_
  have n2 : inB b 194 223 = false := inB_mk_no (by omega)
  by_cases c3 : b = 224
  · subst c3; exact .inl ⟨rfl, by decide, by decide, by decide, by decide⟩
  refine .inr ?_
  by_cases c4 : b = 237
  · subst c4; exact .inl ⟨rfl, by decide, by decide, by decide, by decide⟩
  refine .inr ?_
  by_cases c5 : 224 ≤ b ∧ b ≤ 239
  · exact .inl ⟨by unfold first; rw [if_neg c1, if_neg c2, if_neg c3, if_neg c4, if_pos (by omega)], n1, n2, inB_mk c5.1 c5.2, hne _ c3, hne _ c4, hne _ (by omega), hne _ (by omega)⟩
  refine .inr ?_
  have n3 : inB b 224 239 = false := inB_mk_no (by omega)
  by_cases c6 : b = 240
  · subst c6; exact .inl ⟨rfl, by decide, by decide, by decide, by decide, by decide⟩
  refine .inr ?_
  by_cases c7 : b = 244
  · subst c7; exact .inl ⟨rfl, by decide, by decide, by decide, by decide, by decide⟩
  refine .inr ?_
  by_cases c8 : 240 ≤ b ∧ b ≤ 244
  · exact .inl ⟨by unfold first; rw [if_neg c1, if_neg c2, if_neg c3, if_neg c4, if_neg (by omega), if_neg c6, if_neg c7, if_pos (by omega)], n1, n2, n3, inB_mk c8.1 c8.2, hne _ c3, hne _ c4, hne _ c6, hne _ c7⟩
  · exact .inr ⟨by unfold first; rw [if_neg c1, if_neg c2, if_neg c3, if_neg c4, if_neg (by omega), if_neg c6, if_neg c7, if_neg (by omega)], n1, n2, n3, inB_mk_no (by omega)⟩
theorem step_split (W L H b : Int) : (okSt (W, L, H) = false ∧ stepU (W, L, H) b = none) ∨
    (okSt (W, L, H) = true ∧ W = 0 ∧ L = 0 ∧ H = 0 ∧ stepU (0, 0, 0) b = first b) ∨
    (okSt (W, L, H) = true ∧ (W == 0) = false ∧ inB b L H = false ∧ stepU (W, L, H) b = none) ∨
    (okSt (W, L, H) = true ∧ W = 1 ∧ inB b L H = true ∧ stepU (1, L, H) b = some (0, 0, 0)) ∨
    (okSt (W, L, H) = true ∧ 2 ≤ W ∧ W ≤ 3 ∧ (W == 0) = false ∧ (W == 1) = false ∧ inB b L H = true ∧ stepU (W, L, H) b = some (W - 1, 128, 191)) := by
  cases ho : okSt (W, L, H)
  · exact .inl ⟨rfl, by unfold stepU; rw [if_pos ho]⟩
  · refine .inr ?_
    have hc := ok_cases ho
    simp only [Prod.mk.injEq] at hc
    by_cases w0 : W = 0
    · obtain ⟨rfl, rfl⟩ : L = 0 ∧ H = 0 := by omega
      exact .inl ⟨rfl, w0, rfl, rfl, step0 b⟩
    · refine .inr ?_
      by_cases hb : b < L ∨ H < b
      · exact .inl ⟨rfl, by rw [beq_eq_false_iff_ne]; exact w0, inB_mk_no hb, stepX w0 hb⟩
      · refine .inr ?_
        have hi : inB b L H = true := inB_mk (by omega) (by omega)
        by_cases w1 : W = 1
        · subst w1; exact .inl ⟨rfl, rfl, hi, step1 ho (by omega) (by omega)⟩
        · have w2 : 2 ≤ W ∧ W ≤ 3 := by omega
          exact .inr ⟨rfl, w2.1, w2.2, by rw [beq_eq_false_iff_ne]; exact w0, by rw [beq_eq_false_iff_ne]; exact w1, hi, stepN ho w2.1 (by omega) (by omega)⟩
set_option maxRecDepth 20000 in
set_option maxHeartbeats 4000000 in
theorem cI_first (b : Int) (w : World) : Calls Try.prog 35 #[.int .i64 b] w fun e w' => e = .returned (outU (0, 0, 0) (first b)) ∧ Below w.heap.size w w' := by
  rcases first_split b with ⟨e0, q1⟩ | ⟨e0, q1, q2, q3, q4, q5, q6⟩ | ⟨rfl, e0, q1, q2, q3⟩ | ⟨rfl, e0, q1, q2, q3⟩ | ⟨e0, q1, q2, q3, q4, q5, q6, q7⟩ | ⟨rfl, e0, q1, q2, q3, q4⟩ | ⟨rfl, e0, q1, q2, q3, q4⟩ | ⟨e0, q1, q2, q3, q4, q5, q6, q7, q8⟩ | ⟨e0, q1, q2, q3, q4⟩
  · rw [e0]
    clear e0
    go_enter Try.func35, Try.ntmps35
    go_wp2_with (go_at_call 33; refine (cI_within _ _ _ _).mono ?_; rintro e w' ⟨rfl, rfl⟩)
    exact bodyPost_ret (v := .tuple #[.agg #[.int .i64 0, .int .i64 0, .int .i64 0], .bool true]) (by simp [results, Try.results35, go_sem]) rfl ⟨rfl, by repeat (first | exact Below.refl _ _ | assumption | refine Below.setCell ?_ (by simp) _ | refine Below.alloc ?_ (by simp; omega) _ | refine Below.alloc ?_ (by simp) _)⟩
  · rw [e0]
    clear e0
    go_enter Try.func35, Try.ntmps35
    go_wp2_with (go_at_call 33; refine (cI_within _ _ _ _).mono ?_; rintro e w' ⟨rfl, rfl⟩)
    exact bodyPost_ret (v := .tuple #[.agg #[.int .i64 1, .int .i64 128, .int .i64 191], .bool true]) (by simp [results, Try.results35, go_sem]) rfl ⟨rfl, by repeat (first | exact Below.refl _ _ | assumption | refine Below.setCell ?_ (by simp) _ | refine Below.alloc ?_ (by simp; omega) _ | refine Below.alloc ?_ (by simp) _)⟩
  · rw [e0]
    clear e0
    go_enter Try.func35, Try.ntmps35
    go_wp2_with (go_at_call 33; refine (cI_within _ _ _ _).mono ?_; rintro e w' ⟨rfl, rfl⟩)
    exact bodyPost_ret (v := .tuple #[.agg #[.int .i64 2, .int .i64 160, .int .i64 191], .bool true]) (by simp [results, Try.results35, go_sem]) rfl ⟨rfl, by repeat (first | exact Below.refl _ _ | assumption | refine Below.setCell ?_ (by simp) _ | refine Below.alloc ?_ (by simp; omega) _ | refine Below.alloc ?_ (by simp) _)⟩
  · rw [e0]
    clear e0
    go_enter Try.func35, Try.ntmps35
    go_wp2_with (go_at_call 33; refine (cI_within _ _ _ _).mono ?_; rintro e w' ⟨rfl, rfl⟩)
    exact bodyPost_ret (v := .tuple #[.agg #[.int .i64 2, .int .i64 128, .int .i64 159], .bool true]) (by simp [results, Try.results35, go_sem]) rfl ⟨rfl, by repeat (first | exact Below.refl _ _ | assumption | refine Below.setCell ?_ (by simp) _ | refine Below.alloc ?_ (by simp; omega) _ | refine Below.alloc ?_ (by simp) _)⟩
  · rw [e0]
    clear e0
    go_enter Try.func35, Try.ntmps35
    go_wp2_with (go_at_call 33; refine (cI_within _ _ _ _).mono ?_; rintro e w' ⟨rfl, rfl⟩)
    exact bodyPost_ret (v := .tuple #[.agg #[.int .i64 2, .int .i64 128, .int .i64 191], .bool true]) (by simp [results, Try.results35, go_sem]) rfl ⟨rfl, by repeat (first | exact Below.refl _ _ | assumption | refine Below.setCell ?_ (by simp) _ | refine Below.alloc ?_ (by simp; omega) _ | refine Below.alloc ?_ (by simp) _)⟩
  · rw [e0]
    clear e0
    go_enter Try.func35, Try.ntmps35
    go_wp2_with (go_at_call 33; refine (cI_within _ _ _ _).mono ?_; rintro e w' ⟨rfl, rfl⟩)
    exact bodyPost_ret (v := .tuple #[.agg #[.int .i64 3, .int .i64 144, .int .i64 191], .bool true]) (by simp [results, Try.results35, go_sem]) rfl ⟨rfl, by repeat (first | exact Below.refl _ _ | assumption | refine Below.setCell ?_ (by simp) _ | refine Below.alloc ?_ (by simp; omega) _ | refine Below.alloc ?_ (by simp) _)⟩
  · rw [e0]
    clear e0
    go_enter Try.func35, Try.ntmps35
    go_wp2_with (go_at_call 33; refine (cI_within _ _ _ _).mono ?_; rintro e w' ⟨rfl, rfl⟩)
    exact bodyPost_ret (v := .tuple #[.agg #[.int .i64 3, .int .i64 128, .int .i64 143], .bool true]) (by simp [results, Try.results35, go_sem]) rfl ⟨rfl, by repeat (first | exact Below.refl _ _ | assumption | refine Below.setCell ?_ (by simp) _ | refine Below.alloc ?_ (by simp; omega) _ | refine Below.alloc ?_ (by simp) _)⟩
  · rw [e0]
    clear e0
    go_enter Try.func35, Try.ntmps35
    go_wp2_with (go_at_call 33; refine (cI_within _ _ _ _).mono ?_; rintro e w' ⟨rfl, rfl⟩)
    exact bodyPost_ret (v := .tuple #[.agg #[.int .i64 3, .int .i64 128, .int .i64 191], .bool true]) (by simp [results, Try.results35, go_sem]) rfl ⟨rfl, by repeat (first | exact Below.refl _ _ | assumption | refine Below.setCell ?_ (by simp) _ | refine Below.alloc ?_ (by simp; omega) _ | refine Below.alloc ?_ (by simp) _)⟩
  · rw [e0]
    clear e0
    go_enter Try.func35, Try.ntmps35
    go_wp2_with (go_at_call 33; refine (cI_within _ _ _ _).mono ?_; rintro e w' ⟨rfl, rfl⟩)
    exact bodyPost_ret (v := .tuple #[.agg #[.int .i64 0, .int .i64 0, .int .i64 0], .bool false]) (by simp [results, Try.results35, go_sem]) rfl ⟨rfl, by repeat (first | exact Below.refl _ _ | assumption | refine Below.setCell ?_ (by simp) _ | refine Below.alloc ?_ (by simp; omega) _ | refine Below.alloc ?_ (by simp) _)⟩
set_option maxRecDepth 20000 in
set_option maxHeartbeats 4000000 in
theorem cI_UtfByte (W L H b : Int) (w : World) : Calls Try.prog 19 #[.agg #[.int .i64 W, .int .i64 L, .int .i64 H], .int .i64 b] w fun e w' => e = .returned (outU (W, L, H) (stepU (W, L, H) b)) ∧ Below w.heap.size w w' := by
  have hok := fun w => cI_UtfOk W L H w
  rcases step_split W L H b with ⟨q1, e0⟩ | ⟨q1, rfl, rfl, rfl, e0⟩ | ⟨q1, q2, q3, e0⟩ | ⟨q1, rfl, q3, e0⟩ | ⟨q1, q2, q3, q4, q5, q6, e0⟩
  · rw [e0]
    rw [q1] at hok
    clear e0 q1
    go_enter Try.func19, Try.ntmps19
    have X0 := (Box.new w 27 #[.int .i64 W, .int .i64 L, .int .i64 H]).alloc (.cells #[.int .i64 0, .int .i64 0, .int .i64 0] 27)
    have B0 := ((Below.refl w.heap.size w).alloc (Nat.le_refl _) (.cells #[.int .i64 W, .int .i64 L, .int .i64 H] 27)).alloc (by simp) (.cells #[.int .i64 0, .int .i64 0, .int .i64 0] 27)
    have Y0 := Box.new (w.alloc (.cells #[.int .i64 W, .int .i64 L, .int .i64 H] 27)) 27 #[.int .i64 0, .int .i64 0, .int .i64 0]
    rw [show (w.alloc (.cells #[.int .i64 W, .int .i64 L, .int .i64 H] 27)).heap.size = w.heap.size + 1 from by simp] at Y0
    go_wp2_with fail
    refine (hok _).mono ?_
    rintro e w1 ⟨rfl, hb1⟩
    have X1 := X0.all hb1
    have B1 := B0.trans (hb1.mono B0.size)
    have c0 := X1.cell 0 rfl; have c1 := X1.cell 1 rfl; have c2 := X1.cell 2 rfl
    have xl : w.heap.size < w1.heap.size := X1.lt
    have Y1 := Y0.all hb1
    have y0 := Y1.cell 0 rfl; have y1 := Y1.cell 1 rfl; have y2 := Y1.cell 2 rfl
    have yl : w.heap.size + 1 < w1.heap.size := Y1.lt
    have yf0 := Y1.free 0; have yf1 := Y1.free 1; have yf2 := Y1.free 2
    go_wp2_with (go_at_call 33; refine (cI_within _ _ _ _).mono ?_; rintro e w' ⟨rfl, rfl⟩)
    exact bodyPost_ret (v := .tuple #[.agg #[.int .i64 W, .int .i64 L, .int .i64 H], .bool false]) (by simp [results, Try.results19, go_sem, c0, c1, c2, y0, y1, y2]) rfl ⟨rfl, by repeat (first | exact B1 | refine Below.setCell ?_ (by first | (simp; done) | (simp; omega)) _ | refine Below.alloc ?_ (by first | (simp; done) | (simp; omega)) _)⟩
  · rw [e0]
    rw [q1] at hok
    clear e0 q1
    have hf := fun w => cI_first b w
    generalize first b = o at hf ⊢
    go_enter Try.func19, Try.ntmps19
    have X0 := (Box.new w 27 #[.int .i64 0, .int .i64 0, .int .i64 0]).alloc (.cells #[.int .i64 0, .int .i64 0, .int .i64 0] 27)
    have B0 := ((Below.refl w.heap.size w).alloc (Nat.le_refl _) (.cells #[.int .i64 0, .int .i64 0, .int .i64 0] 27)).alloc (by simp) (.cells #[.int .i64 0, .int .i64 0, .int .i64 0] 27)
    have Y0 := Box.new (w.alloc (.cells #[.int .i64 0, .int .i64 0, .int .i64 0] 27)) 27 #[.int .i64 0, .int .i64 0, .int .i64 0]
    rw [show (w.alloc (.cells #[.int .i64 0, .int .i64 0, .int .i64 0] 27)).heap.size = w.heap.size + 1 from by simp] at Y0
    go_wp2_with fail
    refine (hok _).mono ?_
    rintro e w1 ⟨rfl, hb1⟩
    have X1 := X0.all hb1
    have B1 := B0.trans (hb1.mono B0.size)
    have c0 := X1.cell 0 rfl; have c1 := X1.cell 1 rfl; have c2 := X1.cell 2 rfl
    have xl : w.heap.size < w1.heap.size := X1.lt
    have Y1 := Y0.all hb1
    have y0 := Y1.cell 0 rfl; have y1 := Y1.cell 1 rfl; have y2 := Y1.cell 2 rfl
    have yl : w.heap.size + 1 < w1.heap.size := Y1.lt
    have yf0 := Y1.free 0; have yf1 := Y1.free 1; have yf2 := Y1.free 2
    go_wp2_with fail
    refine (hf _).mono ?_
    rintro e w2 ⟨rfl, hb2⟩
    have X2 := X1.all hb2
    have B2 := B1.trans (hb2.mono B1.size)
    have d0 := X2.cell 0 rfl; have d1 := X2.cell 1 rfl; have d2 := X2.cell 2 rfl
    have xl2 : w.heap.size < w2.heap.size := X2.lt
    have Y2 := Y1.all hb2
    have e0 := Y2.cell 0 rfl; have e1 := Y2.cell 1 rfl; have e2 := Y2.cell 2 rfl
    have yl2 : w.heap.size + 1 < w2.heap.size := Y2.lt
    have zf0 := Y2.free 0; have zf1 := Y2.free 1; have zf2 := Y2.free 2
    rcases o with _ | ⟨vW, vL, vH⟩
    · unfold outU stV
      have Z := (((Y2.set_ 0 (.int .i64 0)).set_ 1 (.int .i64 0)).set_ 2 (.int .i64 0)).alloc (.cells #[.int .i64 0, .int .i64 0, .int .i64 0] 27)
      have z0 : World.cell? _ ⟨w.heap.size + 1, 0, none⟩ = some (.int .i64 0) := Z.cell 0 rfl
      have z1 : World.cell? _ ⟨w.heap.size + 1, 1, none⟩ = some (.int .i64 0) := Z.cell 1 rfl
      have z2 : World.cell? _ ⟨w.heap.size + 1, 2, none⟩ = some (.int .i64 0) := Z.cell 2 rfl
      go_wp2
      exact bodyPost_ret (v := .tuple #[.agg #[.int .i64 0, .int .i64 0, .int .i64 0], .bool false]) (by simp [results, Try.results19, go_sem, d0, d1, d2, e0, e1, e2, z0, z1, z2]) rfl ⟨rfl, by repeat (first | exact B2 | refine Below.setCell ?_ (by first | (simp; done) | (simp; omega)) _ | refine Below.alloc ?_ (by first | (simp; done) | (simp; omega)) _)⟩
    · unfold outU stV
      have Z := (((Y2.set_ 0 (.int .i64 vW)).set_ 1 (.int .i64 vL)).set_ 2 (.int .i64 vH)).alloc (.cells #[.int .i64 vW, .int .i64 vL, .int .i64 vH] 27)
      have z0 : World.cell? _ ⟨w.heap.size + 1, 0, none⟩ = some (.int .i64 vW) := Z.cell 0 rfl
      have z1 : World.cell? _ ⟨w.heap.size + 1, 1, none⟩ = some (.int .i64 vL) := Z.cell 1 rfl
      have z2 : World.cell? _ ⟨w.heap.size + 1, 2, none⟩ = some (.int .i64 vH) := Z.cell 2 rfl
      go_wp2
      exact bodyPost_ret (v := .tuple #[.agg #[.int .i64 vW, .int .i64 vL, .int .i64 vH], .bool true]) (by simp [results, Try.results19, go_sem, d0, d1, d2, e0, e1, e2, z0, z1, z2]) rfl ⟨rfl, by repeat (first | exact B2 | refine Below.setCell ?_ (by first | (simp; done) | (simp; omega)) _ | refine Below.alloc ?_ (by first | (simp; done) | (simp; omega)) _)⟩
  · rw [e0]
    rw [q1] at hok
    clear e0 q1
    go_enter Try.func19, Try.ntmps19
    have X0 := (Box.new w 27 #[.int .i64 W, .int .i64 L, .int .i64 H]).alloc (.cells #[.int .i64 0, .int .i64 0, .int .i64 0] 27)
    have B0 := ((Below.refl w.heap.size w).alloc (Nat.le_refl _) (.cells #[.int .i64 W, .int .i64 L, .int .i64 H] 27)).alloc (by simp) (.cells #[.int .i64 0, .int .i64 0, .int .i64 0] 27)
    have Y0 := Box.new (w.alloc (.cells #[.int .i64 W, .int .i64 L, .int .i64 H] 27)) 27 #[.int .i64 0, .int .i64 0, .int .i64 0]
    rw [show (w.alloc (.cells #[.int .i64 W, .int .i64 L, .int .i64 H] 27)).heap.size = w.heap.size + 1 from by simp] at Y0
    go_wp2_with fail
    refine (hok _).mono ?_
    rintro e w1 ⟨rfl, hb1⟩
    have X1 := X0.all hb1
    have B1 := B0.trans (hb1.mono B0.size)
    have c0 := X1.cell 0 rfl; have c1 := X1.cell 1 rfl; have c2 := X1.cell 2 rfl
    have xl : w.heap.size < w1.heap.size := X1.lt
    have Y1 := Y0.all hb1
    have y0 := Y1.cell 0 rfl; have y1 := Y1.cell 1 rfl; have y2 := Y1.cell 2 rfl
    have yl : w.heap.size + 1 < w1.heap.size := Y1.lt
    have yf0 := Y1.free 0; have yf1 := Y1.free 1; have yf2 := Y1.free 2
    go_wp2_with (go_at_call 33; refine (cI_within _ _ _ _).mono ?_; rintro e w' ⟨rfl, rfl⟩)
    exact bodyPost_ret (v := .tuple #[.agg #[.int .i64 W, .int .i64 L, .int .i64 H], .bool false]) (by simp [results, Try.results19, go_sem, c0, c1, c2, y0, y1, y2]) rfl ⟨rfl, by repeat (first | exact B1 | refine Below.setCell ?_ (by first | (simp; done) | (simp; omega)) _ | refine Below.alloc ?_ (by first | (simp; done) | (simp; omega)) _)⟩
  · rw [e0]
    rw [q1] at hok
    clear e0 q1
    go_enter Try.func19, Try.ntmps19
    have X0 := (Box.new w 27 #[.int .i64 1, .int .i64 L, .int .i64 H]).alloc (.cells #[.int .i64 0, .int .i64 0, .int .i64 0] 27)
    have B0 := ((Below.refl w.heap.size w).alloc (Nat.le_refl _) (.cells #[.int .i64 1, .int .i64 L, .int .i64 H] 27)).alloc (by simp) (.cells #[.int .i64 0, .int .i64 0, .int .i64 0] 27)
    have Y0 := Box.new (w.alloc (.cells #[.int .i64 1, .int .i64 L, .int .i64 H] 27)) 27 #[.int .i64 0, .int .i64 0, .int .i64 0]
    rw [show (w.alloc (.cells #[.int .i64 1, .int .i64 L, .int .i64 H] 27)).heap.size = w.heap.size + 1 from by simp] at Y0
    go_wp2_with fail
    refine (hok _).mono ?_
    rintro e w1 ⟨rfl, hb1⟩
    have X1 := X0.all hb1
    have B1 := B0.trans (hb1.mono B0.size)
    have c0 := X1.cell 0 rfl; have c1 := X1.cell 1 rfl; have c2 := X1.cell 2 rfl
    have xl : w.heap.size < w1.heap.size := X1.lt
    have Y1 := Y0.all hb1
    have y0 := Y1.cell 0 rfl; have y1 := Y1.cell 1 rfl; have y2 := Y1.cell 2 rfl
    have yl : w.heap.size + 1 < w1.heap.size := Y1.lt
    have yf0 := Y1.free 0; have yf1 := Y1.free 1; have yf2 := Y1.free 2
    go_wp2_with (go_at_call 33; refine (cI_within _ _ _ _).mono ?_; rintro e w' ⟨rfl, rfl⟩)
    exact bodyPost_ret (v := .tuple #[.agg #[.int .i64 0, .int .i64 0, .int .i64 0], .bool true]) (by simp [results, Try.results19, go_sem, c0, c1, c2, y0, y1, y2]) rfl ⟨rfl, by repeat (first | exact B1 | refine Below.setCell ?_ (by first | (simp; done) | (simp; omega)) _ | refine Below.alloc ?_ (by first | (simp; done) | (simp; omega)) _)⟩
  · rw [e0]
    rw [q1] at hok
    clear e0 q1
    go_enter Try.func19, Try.ntmps19
    have X0 := (Box.new w 27 #[.int .i64 W, .int .i64 L, .int .i64 H]).alloc (.cells #[.int .i64 0, .int .i64 0, .int .i64 0] 27)
    have B0 := ((Below.refl w.heap.size w).alloc (Nat.le_refl _) (.cells #[.int .i64 W, .int .i64 L, .int .i64 H] 27)).alloc (by simp) (.cells #[.int .i64 0, .int .i64 0, .int .i64 0] 27)
    have Y0 := Box.new (w.alloc (.cells #[.int .i64 W, .int .i64 L, .int .i64 H] 27)) 27 #[.int .i64 0, .int .i64 0, .int .i64 0]
    rw [show (w.alloc (.cells #[.int .i64 W, .int .i64 L, .int .i64 H] 27)).heap.size = w.heap.size + 1 from by simp] at Y0
    go_wp2_with fail
    refine (hok _).mono ?_
    rintro e w1 ⟨rfl, hb1⟩
    have X1 := X0.all hb1
    have B1 := B0.trans (hb1.mono B0.size)
    have c0 := X1.cell 0 rfl; have c1 := X1.cell 1 rfl; have c2 := X1.cell 2 rfl
    have xl : w.heap.size < w1.heap.size := X1.lt
    have Y1 := Y0.all hb1
    have y0 := Y1.cell 0 rfl; have y1 := Y1.cell 1 rfl; have y2 := Y1.cell 2 rfl
    have yl : w.heap.size + 1 < w1.heap.size := Y1.lt
    have yf0 := Y1.free 0; have yf1 := Y1.free 1; have yf2 := Y1.free 2
    go_wp2_with (go_at_call 33; refine (cI_within _ _ _ _).mono ?_; rintro e w' ⟨rfl, rfl⟩)
    exact bodyPost_ret (v := .tuple #[.agg #[.int .i64 (W - 1), .int .i64 128, .int .i64 191], .bool true]) (by simp [results, Try.results19, go_sem, c0, c1, c2, y0, y1, y2]) rfl ⟨rfl, by repeat (first | exact B1 | refine Below.setCell ?_ (by first | (simp; done) | (simp; omega)) _ | refine Below.alloc ?_ (by first | (simp; done) | (simp; omega)) _)⟩
set_option maxRecDepth 20000 in
set_option maxHeartbeats 4000000 in
theorem cP_first (b : Int) (w : World) : Calls Try.prog 34 #[.int .i64 b] w fun e w' => e = .returned (outU (0, 0, 0) (first b)) ∧ Below w.heap.size w w' := by
  rcases first_split b with ⟨e0, q1⟩ | ⟨e0, q1, q2, q3, q4, q5, q6⟩ | ⟨rfl, e0, q1, q2, q3⟩ | ⟨rfl, e0, q1, q2, q3⟩ | ⟨e0, q1, q2, q3, q4, q5, q6, q7⟩ | ⟨rfl, e0, q1, q2, q3, q4⟩ | ⟨rfl, e0, q1, q2, q3, q4⟩ | ⟨e0, q1, q2, q3, q4, q5, q6, q7, q8⟩ | ⟨e0, q1, q2, q3, q4⟩
  · rw [e0]
    clear e0
    go_enter Try.func34, Try.ntmps34
    go_wp2_with (go_at_call 32; refine (cP_in _ _ _ _).mono ?_; rintro e w' ⟨rfl, rfl⟩)
    exact bodyPost_ret (v := .tuple #[.agg #[.int .i64 0, .int .i64 0, .int .i64 0], .bool true]) (by simp [results, Try.results34, go_sem]) rfl ⟨rfl, by repeat (first | exact Below.refl _ _ | assumption | refine Below.setCell ?_ (by simp) _ | refine Below.alloc ?_ (by simp; omega) _ | refine Below.alloc ?_ (by simp) _)⟩
  · rw [e0]
    clear e0
    go_enter Try.func34, Try.ntmps34
    go_wp2_with (go_at_call 32; refine (cP_in _ _ _ _).mono ?_; rintro e w' ⟨rfl, rfl⟩)
    exact bodyPost_ret (v := .tuple #[.agg #[.int .i64 1, .int .i64 128, .int .i64 191], .bool true]) (by simp [results, Try.results34, go_sem]) rfl ⟨rfl, by repeat (first | exact Below.refl _ _ | assumption | refine Below.setCell ?_ (by simp) _ | refine Below.alloc ?_ (by simp; omega) _ | refine Below.alloc ?_ (by simp) _)⟩
  · rw [e0]
    clear e0
    go_enter Try.func34, Try.ntmps34
    go_wp2_with (go_at_call 32; refine (cP_in _ _ _ _).mono ?_; rintro e w' ⟨rfl, rfl⟩)
    exact bodyPost_ret (v := .tuple #[.agg #[.int .i64 2, .int .i64 160, .int .i64 191], .bool true]) (by simp [results, Try.results34, go_sem]) rfl ⟨rfl, by repeat (first | exact Below.refl _ _ | assumption | refine Below.setCell ?_ (by simp) _ | refine Below.alloc ?_ (by simp; omega) _ | refine Below.alloc ?_ (by simp) _)⟩
  · rw [e0]
    clear e0
    go_enter Try.func34, Try.ntmps34
    go_wp2_with (go_at_call 32; refine (cP_in _ _ _ _).mono ?_; rintro e w' ⟨rfl, rfl⟩)
    exact bodyPost_ret (v := .tuple #[.agg #[.int .i64 2, .int .i64 128, .int .i64 159], .bool true]) (by simp [results, Try.results34, go_sem]) rfl ⟨rfl, by repeat (first | exact Below.refl _ _ | assumption | refine Below.setCell ?_ (by simp) _ | refine Below.alloc ?_ (by simp; omega) _ | refine Below.alloc ?_ (by simp) _)⟩
  · rw [e0]
    clear e0
    go_enter Try.func34, Try.ntmps34
    go_wp2_with (go_at_call 32; refine (cP_in _ _ _ _).mono ?_; rintro e w' ⟨rfl, rfl⟩)
    exact bodyPost_ret (v := .tuple #[.agg #[.int .i64 2, .int .i64 128, .int .i64 191], .bool true]) (by simp [results, Try.results34, go_sem]) rfl ⟨rfl, by repeat (first | exact Below.refl _ _ | assumption | refine Below.setCell ?_ (by simp) _ | refine Below.alloc ?_ (by simp; omega) _ | refine Below.alloc ?_ (by simp) _)⟩
  · rw [e0]
    clear e0
    go_enter Try.func34, Try.ntmps34
    go_wp2_with (go_at_call 32; refine (cP_in _ _ _ _).mono ?_; rintro e w' ⟨rfl, rfl⟩)
    exact bodyPost_ret (v := .tuple #[.agg #[.int .i64 3, .int .i64 144, .int .i64 191], .bool true]) (by simp [results, Try.results34, go_sem]) rfl ⟨rfl, by repeat (first | exact Below.refl _ _ | assumption | refine Below.setCell ?_ (by simp) _ | refine Below.alloc ?_ (by simp; omega) _ | refine Below.alloc ?_ (by simp) _)⟩
  · rw [e0]
    clear e0
    go_enter Try.func34, Try.ntmps34
    go_wp2_with (go_at_call 32; refine (cP_in _ _ _ _).mono ?_; rintro e w' ⟨rfl, rfl⟩)
    exact bodyPost_ret (v := .tuple #[.agg #[.int .i64 3, .int .i64 128, .int .i64 143], .bool true]) (by simp [results, Try.results34, go_sem]) rfl ⟨rfl, by repeat (first | exact Below.refl _ _ | assumption | refine Below.setCell ?_ (by simp) _ | refine Below.alloc ?_ (by simp; omega) _ | refine Below.alloc ?_ (by simp) _)⟩
  · rw [e0]
    clear e0
    go_enter Try.func34, Try.ntmps34
    go_wp2_with (go_at_call 32; refine (cP_in _ _ _ _).mono ?_; rintro e w' ⟨rfl, rfl⟩)
    exact bodyPost_ret (v := .tuple #[.agg #[.int .i64 3, .int .i64 128, .int .i64 191], .bool true]) (by simp [results, Try.results34, go_sem]) rfl ⟨rfl, by repeat (first | exact Below.refl _ _ | assumption | refine Below.setCell ?_ (by simp) _ | refine Below.alloc ?_ (by simp; omega) _ | refine Below.alloc ?_ (by simp) _)⟩
  · rw [e0]
    clear e0
    go_enter Try.func34, Try.ntmps34
    go_wp2_with (go_at_call 32; refine (cP_in _ _ _ _).mono ?_; rintro e w' ⟨rfl, rfl⟩)
    exact bodyPost_ret (v := .tuple #[.agg #[.int .i64 0, .int .i64 0, .int .i64 0], .bool false]) (by simp [results, Try.results34, go_sem]) rfl ⟨rfl, by repeat (first | exact Below.refl _ _ | assumption | refine Below.setCell ?_ (by simp) _ | refine Below.alloc ?_ (by simp; omega) _ | refine Below.alloc ?_ (by simp) _)⟩
set_option maxRecDepth 20000 in
set_option maxHeartbeats 4000000 in
theorem cP_UtfByte (W L H b : Int) (w : World) : Calls Try.prog 18 #[.agg #[.int .i64 W, .int .i64 L, .int .i64 H], .int .i64 b] w fun e w' => e = .returned (outU (W, L, H) (stepU (W, L, H) b)) ∧ Below w.heap.size w w' := by
  have hok := fun w => cP_UtfOk W L H w
  rcases step_split W L H b with ⟨q1, e0⟩ | ⟨q1, rfl, rfl, rfl, e0⟩ | ⟨q1, q2, q3, e0⟩ | ⟨q1, rfl, q3, e0⟩ | ⟨q1, q2, q3, q4, q5, q6, e0⟩
  · rw [e0]
    rw [q1] at hok
    clear e0 q1
    go_enter Try.func18, Try.ntmps18
    have X0 := (Box.new w 27 #[.int .i64 W, .int .i64 L, .int .i64 H]).alloc (.cells #[.int .i64 0, .int .i64 0, .int .i64 0] 27)
    have B0 := ((Below.refl w.heap.size w).alloc (Nat.le_refl _) (.cells #[.int .i64 W, .int .i64 L, .int .i64 H] 27)).alloc (by simp) (.cells #[.int .i64 0, .int .i64 0, .int .i64 0] 27)
    have Y0 := Box.new (w.alloc (.cells #[.int .i64 W, .int .i64 L, .int .i64 H] 27)) 27 #[.int .i64 0, .int .i64 0, .int .i64 0]
    rw [show (w.alloc (.cells #[.int .i64 W, .int .i64 L, .int .i64 H] 27)).heap.size = w.heap.size + 1 from by simp] at Y0
    go_wp2_with fail
    refine (hok _).mono ?_
    rintro e w1 ⟨rfl, hb1⟩
    have X1 := X0.all hb1
    have B1 := B0.trans (hb1.mono B0.size)
    have c0 := X1.cell 0 rfl; have c1 := X1.cell 1 rfl; have c2 := X1.cell 2 rfl
    have xl : w.heap.size < w1.heap.size := X1.lt
    have Y1 := Y0.all hb1
    have y0 := Y1.cell 0 rfl; have y1 := Y1.cell 1 rfl; have y2 := Y1.cell 2 rfl
    have yl : w.heap.size + 1 < w1.heap.size := Y1.lt
    have yf0 := Y1.free 0; have yf1 := Y1.free 1; have yf2 := Y1.free 2
    go_wp2_with (go_at_call 32; refine (cP_in _ _ _ _).mono ?_; rintro e w' ⟨rfl, rfl⟩)
    exact bodyPost_ret (v := .tuple #[.agg #[.int .i64 W, .int .i64 L, .int .i64 H], .bool false]) (by simp [results, Try.results18, go_sem, c0, c1, c2, y0, y1, y2]) rfl ⟨rfl, by repeat (first | exact B1 | refine Below.setCell ?_ (by first | (simp; done) | (simp; omega)) _ | refine Below.alloc ?_ (by first | (simp; done) | (simp; omega)) _)⟩
  · rw [e0]
    rw [q1] at hok
    clear e0 q1
    have hf := fun w => cP_first b w
    generalize first b = o at hf ⊢
    go_enter Try.func18, Try.ntmps18
    have X0 := (Box.new w 27 #[.int .i64 0, .int .i64 0, .int .i64 0]).alloc (.cells #[.int .i64 0, .int .i64 0, .int .i64 0] 27)
    have B0 := ((Below.refl w.heap.size w).alloc (Nat.le_refl _) (.cells #[.int .i64 0, .int .i64 0, .int .i64 0] 27)).alloc (by simp) (.cells #[.int .i64 0, .int .i64 0, .int .i64 0] 27)
    have Y0 := Box.new (w.alloc (.cells #[.int .i64 0, .int .i64 0, .int .i64 0] 27)) 27 #[.int .i64 0, .int .i64 0, .int .i64 0]
    rw [show (w.alloc (.cells #[.int .i64 0, .int .i64 0, .int .i64 0] 27)).heap.size = w.heap.size + 1 from by simp] at Y0
    go_wp2_with fail
    refine (hok _).mono ?_
    rintro e w1 ⟨rfl, hb1⟩
    have X1 := X0.all hb1
    have B1 := B0.trans (hb1.mono B0.size)
    have c0 := X1.cell 0 rfl; have c1 := X1.cell 1 rfl; have c2 := X1.cell 2 rfl
    have xl : w.heap.size < w1.heap.size := X1.lt
    have Y1 := Y0.all hb1
    have y0 := Y1.cell 0 rfl; have y1 := Y1.cell 1 rfl; have y2 := Y1.cell 2 rfl
    have yl : w.heap.size + 1 < w1.heap.size := Y1.lt
    have yf0 := Y1.free 0; have yf1 := Y1.free 1; have yf2 := Y1.free 2
    go_wp2_with fail
    refine (hf _).mono ?_
    rintro e w2 ⟨rfl, hb2⟩
    have X2 := X1.all hb2
    have B2 := B1.trans (hb2.mono B1.size)
    have d0 := X2.cell 0 rfl; have d1 := X2.cell 1 rfl; have d2 := X2.cell 2 rfl
    have xl2 : w.heap.size < w2.heap.size := X2.lt
    have Y2 := Y1.all hb2
    have e0 := Y2.cell 0 rfl; have e1 := Y2.cell 1 rfl; have e2 := Y2.cell 2 rfl
    have yl2 : w.heap.size + 1 < w2.heap.size := Y2.lt
    have zf0 := Y2.free 0; have zf1 := Y2.free 1; have zf2 := Y2.free 2
    rcases o with _ | ⟨vW, vL, vH⟩
    · unfold outU stV
      have Z := (((Y2.set_ 0 (.int .i64 0)).set_ 1 (.int .i64 0)).set_ 2 (.int .i64 0)).alloc (.cells #[.int .i64 0, .int .i64 0, .int .i64 0] 27)
      have z0 : World.cell? _ ⟨w.heap.size + 1, 0, none⟩ = some (.int .i64 0) := Z.cell 0 rfl
      have z1 : World.cell? _ ⟨w.heap.size + 1, 1, none⟩ = some (.int .i64 0) := Z.cell 1 rfl
      have z2 : World.cell? _ ⟨w.heap.size + 1, 2, none⟩ = some (.int .i64 0) := Z.cell 2 rfl
      go_wp2
      exact bodyPost_ret (v := .tuple #[.agg #[.int .i64 0, .int .i64 0, .int .i64 0], .bool false]) (by simp [results, Try.results18, go_sem, d0, d1, d2, e0, e1, e2, z0, z1, z2]) rfl ⟨rfl, by repeat (first | exact B2 | refine Below.setCell ?_ (by first | (simp; done) | (simp; omega)) _ | refine Below.alloc ?_ (by first | (simp; done) | (simp; omega)) _)⟩
    · unfold outU stV
      have Z := (((Y2.set_ 0 (.int .i64 vW)).set_ 1 (.int .i64 vL)).set_ 2 (.int .i64 vH)).alloc (.cells #[.int .i64 vW, .int .i64 vL, .int .i64 vH] 27)
      have z0 : World.cell? _ ⟨w.heap.size + 1, 0, none⟩ = some (.int .i64 vW) := Z.cell 0 rfl
      have z1 : World.cell? _ ⟨w.heap.size + 1, 1, none⟩ = some (.int .i64 vL) := Z.cell 1 rfl
      have z2 : World.cell? _ ⟨w.heap.size + 1, 2, none⟩ = some (.int .i64 vH) := Z.cell 2 rfl
      go_wp2
      exact bodyPost_ret (v := .tuple #[.agg #[.int .i64 vW, .int .i64 vL, .int .i64 vH], .bool true]) (by simp [results, Try.results18, go_sem, d0, d1, d2, e0, e1, e2, z0, z1, z2]) rfl ⟨rfl, by repeat (first | exact B2 | refine Below.setCell ?_ (by first | (simp; done) | (simp; omega)) _ | refine Below.alloc ?_ (by first | (simp; done) | (simp; omega)) _)⟩
  · rw [e0]
    rw [q1] at hok
    clear e0 q1
    go_enter Try.func18, Try.ntmps18
    have X0 := (Box.new w 27 #[.int .i64 W, .int .i64 L, .int .i64 H]).alloc (.cells #[.int .i64 0, .int .i64 0, .int .i64 0] 27)
    have B0 := ((Below.refl w.heap.size w).alloc (Nat.le_refl _) (.cells #[.int .i64 W, .int .i64 L, .int .i64 H] 27)).alloc (by simp) (.cells #[.int .i64 0, .int .i64 0, .int .i64 0] 27)
    have Y0 := Box.new (w.alloc (.cells #[.int .i64 W, .int .i64 L, .int .i64 H] 27)) 27 #[.int .i64 0, .int .i64 0, .int .i64 0]
    rw [show (w.alloc (.cells #[.int .i64 W, .int .i64 L, .int .i64 H] 27)).heap.size = w.heap.size + 1 from by simp] at Y0
    go_wp2_with fail
    refine (hok _).mono ?_
    rintro e w1 ⟨rfl, hb1⟩
    have X1 := X0.all hb1
    have B1 := B0.trans (hb1.mono B0.size)
    have c0 := X1.cell 0 rfl; have c1 := X1.cell 1 rfl; have c2 := X1.cell 2 rfl
    have xl : w.heap.size < w1.heap.size := X1.lt
    have Y1 := Y0.all hb1
    have y0 := Y1.cell 0 rfl; have y1 := Y1.cell 1 rfl; have y2 := Y1.cell 2 rfl
    have yl : w.heap.size + 1 < w1.heap.size := Y1.lt
    have yf0 := Y1.free 0; have yf1 := Y1.free 1; have yf2 := Y1.free 2
    go_wp2_with (go_at_call 32; refine (cP_in _ _ _ _).mono ?_; rintro e w' ⟨rfl, rfl⟩)
    exact bodyPost_ret (v := .tuple #[.agg #[.int .i64 W, .int .i64 L, .int .i64 H], .bool false]) (by simp [results, Try.results18, go_sem, c0, c1, c2, y0, y1, y2]) rfl ⟨rfl, by repeat (first | exact B1 | refine Below.setCell ?_ (by first | (simp; done) | (simp; omega)) _ | refine Below.alloc ?_ (by first | (simp; done) | (simp; omega)) _)⟩
  · rw [e0]
    rw [q1] at hok
    clear e0 q1
    go_enter Try.func18, Try.ntmps18
    have X0 := (Box.new w 27 #[.int .i64 1, .int .i64 L, .int .i64 H]).alloc (.cells #[.int .i64 0, .int .i64 0, .int .i64 0] 27)
    have B0 := ((Below.refl w.heap.size w).alloc (Nat.le_refl _) (.cells #[.int .i64 1, .int .i64 L, .int .i64 H] 27)).alloc (by simp) (.cells #[.int .i64 0, .int .i64 0, .int .i64 0] 27)
    have Y0 := Box.new (w.alloc (.cells #[.int .i64 1, .int .i64 L, .int .i64 H] 27)) 27 #[.int .i64 0, .int .i64 0, .int .i64 0]
    rw [show (w.alloc (.cells #[.int .i64 1, .int .i64 L, .int .i64 H] 27)).heap.size = w.heap.size + 1 from by simp] at Y0
    go_wp2_with fail
    refine (hok _).mono ?_
    rintro e w1 ⟨rfl, hb1⟩
    have X1 := X0.all hb1
    have B1 := B0.trans (hb1.mono B0.size)
    have c0 := X1.cell 0 rfl; have c1 := X1.cell 1 rfl; have c2 := X1.cell 2 rfl
    have xl : w.heap.size < w1.heap.size := X1.lt
    have Y1 := Y0.all hb1
    have y0 := Y1.cell 0 rfl; have y1 := Y1.cell 1 rfl; have y2 := Y1.cell 2 rfl
    have yl : w.heap.size + 1 < w1.heap.size := Y1.lt
    have yf0 := Y1.free 0; have yf1 := Y1.free 1; have yf2 := Y1.free 2
    go_wp2_with (go_at_call 32; refine (cP_in _ _ _ _).mono ?_; rintro e w' ⟨rfl, rfl⟩)
    exact bodyPost_ret (v := .tuple #[.agg #[.int .i64 0, .int .i64 0, .int .i64 0], .bool true]) (by simp [results, Try.results18, go_sem, c0, c1, c2, y0, y1, y2]) rfl ⟨rfl, by repeat (first | exact B1 | refine Below.setCell ?_ (by first | (simp; done) | (simp; omega)) _ | refine Below.alloc ?_ (by first | (simp; done) | (simp; omega)) _)⟩
  · rw [e0]
    rw [q1] at hok
    clear e0 q1
    go_enter Try.func18, Try.ntmps18
    have X0 := (Box.new w 27 #[.int .i64 W, .int .i64 L, .int .i64 H]).alloc (.cells #[.int .i64 0, .int .i64 0, .int .i64 0] 27)
    have B0 := ((Below.refl w.heap.size w).alloc (Nat.le_refl _) (.cells #[.int .i64 W, .int .i64 L, .int .i64 H] 27)).alloc (by simp) (.cells #[.int .i64 0, .int .i64 0, .int .i64 0] 27)
    have Y0 := Box.new (w.alloc (.cells #[.int .i64 W, .int .i64 L, .int .i64 H] 27)) 27 #[.int .i64 0, .int .i64 0, .int .i64 0]
    rw [show (w.alloc (.cells #[.int .i64 W, .int .i64 L, .int .i64 H] 27)).heap.size = w.heap.size + 1 from by simp] at Y0
    go_wp2_with fail
    refine (hok _).mono ?_
    rintro e w1 ⟨rfl, hb1⟩
    have X1 := X0.all hb1
    have B1 := B0.trans (hb1.mono B0.size)
    have c0 := X1.cell 0 rfl; have c1 := X1.cell 1 rfl; have c2 := X1.cell 2 rfl
    have xl : w.heap.size < w1.heap.size := X1.lt
    have Y1 := Y0.all hb1
    have y0 := Y1.cell 0 rfl; have y1 := Y1.cell 1 rfl; have y2 := Y1.cell 2 rfl
    have yl : w.heap.size + 1 < w1.heap.size := Y1.lt
    have yf0 := Y1.free 0; have yf1 := Y1.free 1; have yf2 := Y1.free 2
    go_wp2_with (go_at_call 32; refine (cP_in _ _ _ _).mono ?_; rintro e w' ⟨rfl, rfl⟩)
    exact bodyPost_ret (v := .tuple #[.agg #[.int .i64 (W - 1), .int .i64 128, .int .i64 191], .bool true]) (by simp [results, Try.results18, go_sem, c0, c1, c2, y0, y1, y2]) rfl ⟨rfl, by repeat (first | exact B1 | refine Below.setCell ?_ (by first | (simp; done) | (simp; omega)) _ | refine Below.alloc ?_ (by first | (simp; done) | (simp; omega)) _)⟩
end Go.Proofs.Ytmhlljonlbiajaa
