/- The walks of FnRuneText and FnUtfRight. Conditions: the code's bytes can be read. -/
import Derived.Test.YtmhlljonlbiajaaLawU2
namespace Go.Proofs.Ytmhlljonlbiajaa
open Go.RowKit Plain
set_option linter.unusedVariables false
set_option linter.unusedSimpArgs false
theorem enc_good {n : Int} (hs : scalar n = true) : utfGood (encR n) = true := by
  have h := good_enc hs []
  rw [List.append_nil] at h
  have h2 : goodU (0, 0, 0) (encR n) = true := by rw [h]; decide
  exact h2
theorem enc_short {n : Int} (hs : scalar n = true) (h : 128 ≤ n) : ∃ p q : Int, utfText (0, 0, 0) (encR n).dropLast = ((1, p, q), -1) ∧ utfGood (encR n).dropLast = false := by
  obtain ⟨⟨v1, p, q⟩, h1, h2⟩ := run_short hs h
  simp only at h2
  subst h2
  exact ⟨p, q, h1, by unfold utfGood; rw [h1]; simp⟩
theorem rune_facts (n : Int) : (encR n = [] ∧ ((n < 0 ∨ 1114111 < n) ∨ (0 ≤ n ∧ n ≤ 1114111 ∧ 55296 ≤ n ∧ n ≤ 57343))) ∨
    (∃ s : ByteArray, bs (encR n) = s ∧ utfGood (bl s) = true ∧ 0 ≤ n ∧ n ≤ 127 ∧ s.size = 1) ∨
    (∃ (s : ByteArray) (k : Nat) (p q : Int), bs (encR n) = s ∧ utfGood (bl s) = true ∧ utfGood (bl (s.extract 0 (k - 1))) = false ∧ utfText (0, 0, 0) (bl (s.extract 0 (k - 1))) = ((1, p, q), -1) ∧ s.size = k ∧
      ((k = 2 ∧ 128 ≤ n ∧ n ≤ 2047) ∨ (k = 3 ∧ 2048 ≤ n ∧ n ≤ 65535) ∨ (k = 4 ∧ 65536 ≤ n ∧ n ≤ 1114111))) := by
  cases hs : scalar n
  · exact .inl ⟨encR_no hs, scalar_no hs⟩
  · obtain ⟨h0, h1, h2⟩ := scalar_iff.1 hs
    have hb : bl (bs (encR n)) = encR n := bl_bs _ (encR_lt n)
    have hg := enc_good hs
    by_cases a1 : n < 128
    · exact .inr (.inl ⟨_, rfl, by rw [hb]; exact hg, h0, by omega, by rw [bs_size, encR_1 h0 a1]; rfl⟩)
    · obtain ⟨p, q, e1, e2⟩ := enc_short hs (by omega)
      have key : ∀ k : Nat, (encR n).length = k → bl ((bs (encR n)).extract 0 (k - 1)) = (encR n).dropLast := fun k hk => by
        rw [bl_extract, hb, List.drop_zero, List.dropLast_eq_take, hk]
      by_cases a2 : n < 2048
      · have hk : (encR n).length = 2 := by rw [encR_2 (by omega) a2]; rfl
        exact .inr (.inr ⟨_, 2, p, q, rfl, by rw [hb]; exact hg, by rw [key 2 hk]; exact e2, by rw [key 2 hk]; exact e1, by rw [bs_size, hk], .inl ⟨rfl, by omega, by omega⟩⟩)
      · by_cases a3 : n < 65536
        · have hk : (encR n).length = 3 := by rw [encR_3 hs (by omega) a3]; rfl
          exact .inr (.inr ⟨_, 3, p, q, rfl, by rw [hb]; exact hg, by rw [key 3 hk]; exact e2, by rw [key 3 hk]; exact e1, by rw [bs_size, hk], .inr (.inl ⟨rfl, by omega, by omega⟩)⟩)
        · have hk : (encR n).length = 4 := by rw [encR_4 hs (by omega)]; rfl
          exact .inr (.inr ⟨_, 4, p, q, rfl, by rw [hb]; exact hg, by rw [key 4 hk]; exact e2, by rw [key 4 hk]; exact e1, by rw [bs_size, hk], .inr (.inr ⟨rfl, by omega, by omega⟩)⟩)
set_option maxHeartbeats 2000000 in
theorem walkFnRuneText (a : Option Addr) (len cap : Nat) (z : List Int) (w : World) (hr : IsRow .u8 w a len cap z) : Calls Try.prog 6 #[.slice a len cap] w fun e w' => e = .returned (.bool true) ∧ Below w.heap.size w w' := by
  have hcode := Lib.hid (code_of_row hr)
  clear hr
  rcases hbig : decide (1048576 < len) with _ | _
  · have hl : len ≤ 1048576 := by simp at hbig; omega
    go_enter Try.func6, Try.ntmps6
    go_wp2_with (go_at_call 21; refine (c_big _ _ _ _).mono ?_; rintro e w' ⟨rfl, rfl⟩; rw [hbig])
    refine (d_DrawRuneText _ hl hcode.out).mono ?_
    rintro e w1 ⟨n, n0, n1, rfl, hb1⟩
    have hI := fun w => cI_RuneText n w n0 n1
    have hP := fun w => cP_RuneText n w n0 n1
    rcases rune_facts n with ⟨e1, h⟩ | ⟨s, e1, hg, h0, h1, hsz⟩ | ⟨s, k, p, q, e1, hg, hg2, hs2, hsz, h⟩
    · rw [e1] at hI hP
      rw [show bs [] = (⟨#[]⟩ : ByteArray) from rfl] at hI hP
      clear e1
      rcases h with (h | h) | ⟨h1, h2, h3, h4⟩
      all_goals go_wp2_with fail
      all_goals refine (hI _).mono ?_
      all_goals rintro e w2 ⟨rfl, rfl⟩
      all_goals go_wp2_with fail
      all_goals refine (hP _).mono ?_
      all_goals rintro e w3 ⟨rfl, hb3⟩
      all_goals go_wp2
      all_goals go_ret
      all_goals exact ⟨ret_bool (by first | rfl | (simp; done) | (simp; omega)), hb1.trans (hb3.mono hb1.size)⟩
    · rw [e1] at hI hP
      have hG := fun w => cI_UtfGood s w (by omega)
      rw [hg] at hG
      have he : s.toList.isEmpty = false := by rw [isEmpty_of]; simp [hsz]
      have hsz' : (s.size : Int) = 1 := by omega
      clear e1 hg
      go_wp2_with fail
      refine (hI _).mono ?_
      rintro e w2 ⟨rfl, rfl⟩
      go_wp2_with fail
      refine (hP _).mono ?_
      rintro e w3 ⟨rfl, hb3⟩
      have B3 := hb1.trans (hb3.mono hb1.size)
      go_wp2_with fail
      refine (hG _).mono ?_
      rintro e w4 ⟨rfl, hb4⟩
      go_wp2
      go_ret
      exact ⟨ret_bool (by first | rfl | (simp; done) | (simp; omega)), B3.trans (hb4.mono B3.size)⟩
    · rw [e1] at hI hP
      have hG := fun w => cI_UtfGood s w (by omega)
      have hG2 := fun w => cI_UtfGood (s.extract 0 (k - 1)) w (by rw [ByteArray.size_extract]; omega)
      have hS2 := fun w => cI_UtfState (s.extract 0 (k - 1)) w (by rw [ByteArray.size_extract]; omega)
      rw [hg] at hG
      rw [hg2] at hG2
      rw [hs2] at hS2
      unfold stV at hS2
      have he : s.toList.isEmpty = false := by rw [isEmpty_of]; exact decide_eq_false (by omega)
      have hsz' : (s.size : Int) = k := by omega
      have hfd : ∀ w : World, (Instr.field 27 (.agg #[.int .i64 1, .int .i64 p, .int .i64 q]) 0).run Try.prog w = .ok (.int .i64 1) w := fun _ => by kernel_rfl
      clear e1 hg hg2 hs2
      rcases h with ⟨rfl, h1, h2⟩ | ⟨rfl, h1, h2⟩ | ⟨rfl, h1, h2⟩
      all_goals simp only [Nat.reduceSub] at hG2 hS2
      all_goals go_wp2_with fail
      all_goals refine (hI _).mono ?_
      all_goals rintro e w2 ⟨rfl, rfl⟩
      all_goals go_wp2_with fail
      all_goals refine (hP _).mono ?_
      all_goals rintro e w3 ⟨rfl, hb3⟩
      all_goals have B3 := hb1.trans (hb3.mono hb1.size)
      all_goals go_wp2_with fail
      all_goals refine (hG _).mono ?_
      all_goals rintro e w4 ⟨rfl, hb4⟩
      all_goals have B4 := B3.trans (hb4.mono B3.size)
      all_goals go_wp2_with fail
      all_goals refine (hG2 _).mono ?_
      all_goals rintro e w5 ⟨rfl, hb5⟩
      all_goals have B5 := B4.trans (hb5.mono B4.size)
      all_goals go_wp2_with fail
      all_goals refine (hS2 _).mono ?_
      all_goals rintro e w6 ⟨rfl, hb6⟩
      all_goals go_wp2
      all_goals go_ret
      all_goals exact ⟨ret_bool (by first | rfl | (simp; done) | (simp; omega)), B5.trans (hb6.mono B5.size)⟩
  · go_enter Try.func6, Try.ntmps6
    go_wp2_with (go_at_call 21; refine (c_big _ _ _ _).mono ?_; rintro e w' ⟨rfl, rfl⟩; rw [hbig])
    go_ret
    exact ⟨rfl, Below.refl _ _⟩
end Go.Proofs.Ytmhlljonlbiajaa
