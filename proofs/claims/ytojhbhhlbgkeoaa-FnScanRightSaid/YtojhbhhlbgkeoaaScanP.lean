/- Plain laws of scans: byte by byte a varint is what it is at once. Conditions: none. -/
import Derived.Test.YtojhbhhlbgkeoaaScanT
namespace Go.Proofs.Ytojhbhhlbgkeoaa
open Go.RowKit Plain
set_option linter.unusedVariables false
set_option linter.unusedSimpArgs false
theorem putF_fit_le (f n u : Nat) (hn : 0 < n) (h : u < 128 ^ n) : (putF f u).length ≤ n := by
  induction f generalizing n u with
  | zero => simp [putF]
  | succ f ih =>
    simp only [putF]
    by_cases h1 : 127 < u
    · rw [if_pos h1]
      have h2 : 2 ≤ n := by
        rcases Nat.lt_or_ge n 2 with h' | h'
        · have : n = 1 := by omega
          subst this; simp at h; omega
        · exact h'
      obtain ⟨m, rfl⟩ : ∃ m, n = m + 1 := ⟨n - 1, by omega⟩
      have := ih m (u / 128) (by omega) (by rw [Nat.pow_succ] at h; exact Nat.div_lt_of_lt_mul (by omega))
      simp only [List.length_cons]; omega
    · rw [if_neg h1]; simp; omega
theorem vlen_fit_le {u n : Nat} (hn : 0 < n) (h : u < 128 ^ n) : vlen u ≤ n := putF_fit_le 10 n u hn h
theorem scanOk_mk {u k : Nat} (hk : k ≤ 9) (hu : u < 2 ^ (7 * k)) : scanOk (u : Int) (k : Int) = true := by
  simp only [scanOk, Bool.and_eq_true, beq_iff_eq]
  refine ⟨inB_mk (by omega) (by omega), ?_⟩
  rw [show (7 * (k : Int)).toNat = 7 * k from by omega, cast_pow]
  have : u / 2 ^ (7 * k) = 0 := Nat.div_eq_of_lt hu
  have h2 : ((u / 2 ^ (7 * k) : Nat) : Int) = (u : Int) / ((2 ^ (7 * k) : Nat) : Int) := by simp
  rw [← h2, this]; rfl
/-- one byte from a valid state -/
theorem sb_step {u k x : Nat} (hk : k ≤ 9) (hu : u < 2 ^ (7 * k)) (hx : x < 256) (hn : ¬ (k = 9 ∧ 1 < x)) :
    sbBits u k x = ((u + x % 128 * 2 ^ (7 * k) : Nat) : Int) ∧ sbHave u k x = ((k + 1 : Nat) : Int) ∧ sbCode u k x = if x < 128 then 1 else 0 := by
  have ho : sbOver (u : Int) (k : Int) (x : Int) = false := by
    simp only [sbOver, scanOk_mk hk hu, inB_mk (show (0 : Int) ≤ x by omega) (show (x : Int) ≤ 255 by omega)]
    simp; omega
  obtain ⟨h1, h2, h3, h4⟩ := no_eqs ho
  refine ⟨?_, ?_, ?_⟩
  · rw [← h1, show (7 * (k : Int)).toNat = 7 * k from by omega, cast_pow, mod128]; simp
  · rw [← h2]; simp
  · by_cases hx1 : x < 128
    · rw [if_pos hx1, ← h3 (by omega)]
    · rw [if_neg hx1, ← h4 (by omega)]
theorem sb_over {u x : Nat} (hx : 1 < x) : sbBits u 9 x = u ∧ sbHave u 9 x = 9 ∧ sbCode u 9 x = 2 := by
  have ho : sbOver (u : Int) 9 (x : Int) = true := by simp [sbOver]; omega
  obtain ⟨h1, h2, h3⟩ := over_eqs ho
  exact ⟨h1.symm, h2.symm, h3.symm⟩
theorem scan_gv (l : List Nat) (k u : Nat) (hk : k ≤ 9) (hu : u < 2 ^ (7 * k)) (hl : ∀ b ∈ l, b < 256) :
    (∃ v n, gv l k u = (v, k + n, 0) ∧ scanL l (u : Int) (k : Int) = ((v : Int), ((k + n : Nat) : Int), n, 1) ∧ n ≤ l.length) ∨
    (∃ v : Nat, gv l k u = (0, 9, 2) ∧ scanL l (u : Int) (k : Int) = ((v : Int), 9, 10 - k, 2)) ∨
    (∃ v : Nat, gv l k u = (0, k + l.length, 1) ∧ scanL l (u : Int) (k : Int) = ((v : Int), ((k + l.length : Nat) : Int), l.length, 0) ∧ k + l.length ≤ 9 ∧ v < 2 ^ (7 * (k + l.length))) := by
  induction l generalizing k u with
  | nil => exact .inr (.inr ⟨u, by simp [gv], by simp [scanL], by simpa using hk, by simpa using hu⟩)
  | cons b r ih =>
    have hb := hl b (by simp)
    by_cases h9 : k = 9 ∧ 1 < b
    · obtain ⟨rfl, hb1⟩ := h9
      obtain ⟨e1, e2, e3⟩ := sb_over (u := u) hb1
      refine .inr (.inl ⟨u, by simp [gv, hb1], ?_⟩)
      show scanL (b :: r) (u : Int) 9 = _
      rw [scanL, e1, e2, e3, if_neg (by decide)]
    · obtain ⟨e1, e2, e3⟩ := sb_step hk hu hb h9
      by_cases h1 : b < 128
      · refine .inl ⟨u + b * 2 ^ (7 * k), 1, by rw [gv, if_neg h9, if_pos h1], ?_, by simp⟩
        rw [scanL, e1, e2, e3, if_pos h1, if_neg (by decide), Nat.mod_eq_of_lt h1]
      · have hk8 : k ≤ 8 := by omega
        have hm : b % 128 = b - 128 := by omega
        have hu' : u + (b - 128) * 2 ^ (7 * k) < 2 ^ (7 * (k + 1)) := by
          have e7 : 2 ^ (7 * (k + 1)) = 128 * 2 ^ (7 * k) := by rw [← pow7, ← pow7, Nat.pow_succ, Nat.mul_comm]
          rw [e7]
          calc u + (b - 128) * 2 ^ (7 * k) < 2 ^ (7 * k) + (b - 128) * 2 ^ (7 * k) := by omega
            _ = (b - 128 + 1) * 2 ^ (7 * k) := by rw [Nat.add_comm]; exact (Nat.succ_mul _ _).symm
            _ ≤ 128 * 2 ^ (7 * k) := Nat.mul_le_mul_right _ (by omega)
        have hgv : gv (b :: r) k u = gv r (k + 1) (u + (b - 128) * 2 ^ (7 * k)) := by rw [gv, if_neg h9, if_neg h1]
        have hsc : scanL (b :: r) (u : Int) (k : Int) = ((scanL r ((u + (b - 128) * 2 ^ (7 * k) : Nat) : Int) ((k + 1 : Nat) : Int)).1, (scanL r ((u + (b - 128) * 2 ^ (7 * k) : Nat) : Int) ((k + 1 : Nat) : Int)).2.1, (scanL r ((u + (b - 128) * 2 ^ (7 * k) : Nat) : Int) ((k + 1 : Nat) : Int)).2.2.1 + 1, (scanL r ((u + (b - 128) * 2 ^ (7 * k) : Nat) : Int) ((k + 1 : Nat) : Int)).2.2.2) := by
          rw [scanL, e1, e2, e3, if_neg h1, if_pos rfl, hm]
        rcases ih (k + 1) _ (by omega) hu' (fun x hx => hl x (by simp [hx])) with ⟨v, n, g1, g2, g3⟩ | ⟨v, g1, g2⟩ | ⟨v, g1, g2, g3, g4⟩
        · refine .inl ⟨v, n + 1, by rw [hgv, g1, show k + 1 + n = k + (n + 1) from by omega], by rw [hsc, g2, show k + 1 + n = k + (n + 1) from by omega], by simp; omega⟩
        · refine .inr (.inl ⟨v, by rw [hgv, g1], ?_⟩)
          rw [hsc, g2]
          simp only [Prod.mk.injEq, true_and, and_true]; omega
        · refine .inr (.inr ⟨v, by rw [hgv, g1]; simp; omega, ?_, by simp; omega, ?_⟩)
          · rw [hsc, g2]; simp; omega
          · rw [show k + (b :: r).length = k + 1 + r.length from by simp; omega]; exact g4
end Go.Proofs.Ytojhbhhlbgkeoaa
