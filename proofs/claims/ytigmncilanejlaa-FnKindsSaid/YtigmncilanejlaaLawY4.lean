/- The walk of FnKinds. Conditions: the code's bytes can be read. -/
import Derived.Test.YtigmncilanejlaaYDraw
namespace Go.Proofs.Ytigmncilanejlaa
open Go.RowKit Plain
set_option linter.unusedVariables false
set_option linter.unusedSimpArgs false
theorem kinds_law (k u : Int) (h0 : 0 ≤ u) :
    (fits k u = false ∧ (inB k 1 5 = false ∨ (k = 3 ∧ inB 3 1 5 = true) ∨ (k = 4 ∧ inB 4 1 5 = true))) ∨
    (fits k u = true ∧ inB k 1 5 = true ∧ wireOk (wireOf k) = true ∧ ((wireOf k = 0 ∧ widthOf 0 = 0) ∨ ∃ W : Int, ∃ n : Nat, wireOf k = W ∧ 0 < n ∧ widthOf W = n ∧ (bs (putFix u.toNat n)).size = n)) := by
  by_cases hk : k < 1 ∨ 5 < k
  · refine .inl ⟨by simp [fits]; omega, .inl (inB_mk_no hk)⟩
  · have : k = 1 ∨ k = 2 ∨ k = 3 ∨ k = 4 ∨ k = 5 := by omega
    rcases this with rfl | rfl | rfl | rfl | rfl
    · exact .inr ⟨by simp [fits], by decide, by decide, .inl ⟨by decide, by decide⟩⟩
    · exact .inr ⟨by simp [fits], by decide, by decide, .inl ⟨by decide, by decide⟩⟩
    · by_cases hu : u ≤ 1
      · exact .inr ⟨by simp [fits, hu], by decide, by decide, .inl ⟨by decide, by decide⟩⟩
      · exact .inl ⟨by simp [fits]; omega, .inr (.inl ⟨rfl, by decide⟩)⟩
    · by_cases hu : u ≤ 4294967295
      · exact .inr ⟨by simp [fits, hu], by decide, by decide, .inr ⟨5, 4, by decide, by decide, by decide, by rw [bs_size]; rw [show ((4 : Nat) : Int) = 4 from rfl, putFix4 (by omega)]; exact fixL_length _ _⟩⟩
      · exact .inl ⟨by simp [fits]; omega, .inr (.inr ⟨rfl, by decide⟩)⟩
    · exact .inr ⟨by simp [fits], by decide, by decide, .inr ⟨1, 8, by decide, by decide, by decide, by rw [bs_size]; rw [show ((8 : Nat) : Int) = 8 from rfl, putFix8]; exact fixL_length _ _⟩⟩
set_option maxHeartbeats 2000000 in
theorem walkFnKinds (a : Option Addr) (len cap : Nat) (z : List Int) (w : World) (hr : IsRow .u8 w a len cap z) : Calls Try.prog 6 #[.slice a len cap] w fun e w' => e = .returned (.bool true) ∧ Below w.heap.size w w' := by
  have hcode := Lib.hid (code_of_row hr)
  clear hr
  rcases hbig : decide (1048576 < len) with _ | _
  · have hl : len ≤ 1048576 := by simp at hbig; omega
    go_enter Try.func6, Try.ntmps6
    go_wp2_with (go_at_call 7; refine (c_big _ _ _ _).mono ?_; rintro e w' ⟨rfl, rfl⟩; rw [hbig])
    refine (d_DrawBitsFit _ hl hcode.out).mono ?_
    rintro e w1 ⟨k, u, k0, k1, u0, u1, rfl, hb1⟩
    have hWI := fun w => cI_WireOf k w
    have hWP := fun w => cP_WireOf k w
    have hBI := fun w => cI_BitsFit k u w u0 u1
    have hBP := fun w => cP_BitsFit k u w u0 u1
    have hN := fun w => cI_Numeric k w
    have hK := fun w => cI_WireOk (wireOf k) w
    have hD := fun w => cI_WidthOf (wireOf k) w
    have hF := fun (n : Int) w => cI_PutFix u n w u0 u1
    rcases kinds_law k u u0 with ⟨e1, h⟩ | ⟨e1, e2, e3, h⟩
    · rw [e1] at hBI hBP
      clear hD hK hF e1
      generalize wireOf k = W at hWI hWP
      rcases h with e2 | ⟨rfl, e2⟩ | ⟨rfl, e2⟩
      all_goals rw [e2] at hN
      all_goals clear e2
      all_goals go_wp2_with (first | (go_at_call 23; refine (hWI _).mono ?_; rintro e w' ⟨rfl, rfl⟩) | (go_at_call 24; refine (hWP _).mono ?_; rintro e w' ⟨rfl, rfl⟩) | (go_at_call 25; refine (hBI _).mono ?_; rintro e w' ⟨rfl, rfl⟩) | (go_at_call 26; refine (hBP _).mono ?_; rintro e w' ⟨rfl, rfl⟩) | (go_at_call 27; refine (hN _).mono ?_; rintro e w' ⟨rfl, rfl⟩))
      all_goals go_ret
      all_goals exact ⟨ret_bool (by first | rfl | simp), hb1⟩
    · rw [e1] at hBI hBP
      rw [e2] at hN
      rw [e3] at hK
      clear e1 e2 e3
      rcases h with ⟨e4, e5⟩ | ⟨W, n, e4, hn, e5, e6⟩
      · rw [e4] at hWI hWP hK hD
        rw [e5] at hD
        clear e4 e5 hF
        go_wp2_with (first | (go_at_call 23; refine (hWI _).mono ?_; rintro e w' ⟨rfl, rfl⟩) | (go_at_call 24; refine (hWP _).mono ?_; rintro e w' ⟨rfl, rfl⟩) | (go_at_call 25; refine (hBI _).mono ?_; rintro e w' ⟨rfl, rfl⟩) | (go_at_call 26; refine (hBP _).mono ?_; rintro e w' ⟨rfl, rfl⟩) | (go_at_call 27; refine (hN _).mono ?_; rintro e w' ⟨rfl, rfl⟩) | (go_at_call 28; refine (hD _).mono ?_; rintro e w' ⟨rfl, rfl⟩) | (go_at_call 13; refine (hK _).mono ?_; rintro e w' ⟨rfl, rfl⟩))
        all_goals go_ret
        all_goals exact ⟨ret_bool (by first | rfl | simp), hb1⟩
      · rw [e4] at hWI hWP hK hD
        rw [e5] at hD
        have hF' := fun w => hF n w
        clear hF
        generalize bs (putFix u.toNat n) = s at hF' e6
        clear e4 e5
        have hn0 : (0 : Int) < (n : Int) := by omega
        have hn1 : ((n : Int) == 0) = false := by simp; omega
        go_wp2_with (first | (go_at_call 23; refine (hWI _).mono ?_; rintro e w' ⟨rfl, rfl⟩) | (go_at_call 24; refine (hWP _).mono ?_; rintro e w' ⟨rfl, rfl⟩) | (go_at_call 25; refine (hBI _).mono ?_; rintro e w' ⟨rfl, rfl⟩) | (go_at_call 26; refine (hBP _).mono ?_; rintro e w' ⟨rfl, rfl⟩) | (go_at_call 27; refine (hN _).mono ?_; rintro e w' ⟨rfl, rfl⟩) | (go_at_call 28; refine (hD _).mono ?_; rintro e w' ⟨rfl, rfl⟩) | (go_at_call 13; refine (hK _).mono ?_; rintro e w' ⟨rfl, rfl⟩) | (go_at_call 18; refine (hF' _).mono ?_; rintro e w9 ⟨rfl, hb9⟩))
        all_goals go_ret
        all_goals exact ⟨ret_bool (by first | rfl | (simp [e6]; done) | (simp [e6]; omega)), hb1.trans (hb9.mono hb1.size)⟩
  · go_enter Try.func6, Try.ntmps6
    go_wp2_with (go_at_call 7; refine (c_big _ _ _ _).mono ?_; rintro e w' ⟨rfl, rfl⟩; rw [hbig])
    go_ret
    exact ⟨rfl, Below.refl _ _⟩
end Go.Proofs.Ytigmncilanejlaa
