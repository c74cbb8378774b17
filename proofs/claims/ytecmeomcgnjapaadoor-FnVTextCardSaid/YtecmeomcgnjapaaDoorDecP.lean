/- Plain laws of decimal numerals: what is parsed back, and that the reference's fold agrees with the library's. Conditions: numbers of 64 bits. -/
import Derived.Lib.ItoaNum
import Derived.Lib.ItoaMem
import Derived.Lib.ParseIntBCases
namespace Go.Proofs.YtecmeomcgnjapaaDoor
open Go.Lib
theorem puM_append (M : Nat) : ∀ (l : List UInt8) (acc a : Nat) (r : List UInt8), parseUintM M acc l = .ok a → parseUintM M acc (l ++ r) = parseUintM M a r
  | [], acc, a, r, h => by
    simp only [parseUintM] at h
    injection h with h
    rw [h]; rfl
  | c :: l, acc, a, r, h => by
    simp only [parseUintM] at h
    simp only [List.cons_append, parseUintM]
    split at h
    · rename_i h1
      rw [if_pos h1]
      split at h
      · cases h
      · rename_i h2
        rw [if_neg h2]
        split at h
        · cases h
        · rename_i h3
          rw [if_neg h3]
          exact puM_append M l _ a r h
    · cases h
theorem digit_byte (d : Nat) (h : d < 10) : (UInt8.ofNat (48 + d)).toNat = 48 + d := by
  rw [UInt8.toNat_ofNat']; omega
theorem puM_dec (u : Nat) (h : u < 18446744073709551616) : parseUintM 18446744073709551615 0 (decDigits u) = .ok u := by
  induction u using Nat.strongRecOn with
  | ind u ih =>
    rw [decDigits]
    split
    · rename_i h10
      have e := digit_byte u h10
      simp only [parseUintM, e]
      rw [if_pos (by omega), if_neg (by omega), if_neg (by omega)]
      congr 1; omega
    · rename_i h10
      have h1 := ih (u / 10) (by omega) (by omega)
      rw [puM_append _ _ _ _ _ h1]
      have e := digit_byte (u % 10) (by omega)
      simp only [parseUintM, e]
      rw [if_pos (by omega), if_neg (by omega), if_neg (by omega)]
      congr 1; omega
theorem dec_ne_nil (u : Nat) : decDigits u ≠ [] := by
  rw [decDigits]; split <;> simp
theorem puB_dec (u : Nat) (h : u < 18446744073709551616) : parseUintB 64 (decDigits u) = .ok u := by
  unfold parseUintB
  rw [if_neg (dec_ne_nil u)]
  exact puM_dec u h
/-- the number that a list of bytes spells without waste -/
def longOf (l : List UInt8) : Option Nat := match parseUintB 64 l with
  | .ok u => if decDigits u = l then some u else none
  | _ => none
theorem longOf_dec (u : Nat) (h : u < 18446744073709551616) : longOf (decDigits u) = some u := by
  unfold longOf; rw [puB_dec u h]; simp
theorem longOf_some {l : List UInt8} {u : Nat} (h : longOf l = some u) : l = decDigits u ∧ u < 18446744073709551616 := by
  unfold longOf at h
  split at h
  · rename_i v hv
    split at h
    · rename_i he
      injection h with h
      subst h
      have := parseUintB_le hv
      exact ⟨he.symm, by have e : (2 : Nat) ^ 64 - 1 = 18446744073709551615 := by decide
                         omega⟩
    · cases h
  · cases h
theorem longOf_ok {l : List UInt8} {u : Nat} (h : parseUintB 64 l = .ok u) (he : decDigits u = l) : longOf l = some u := by
  unfold longOf; rw [h]; simp [he]
theorem longOf_ne {l : List UInt8} {u : Nat} (h : parseUintB 64 l = .ok u) (he : decDigits u ≠ l) : longOf l = none := by
  unfold longOf; rw [h]; simp [he]
theorem longOf_syntax {l : List UInt8} (h : parseUintB 64 l = .«syntax») : longOf l = none := by
  unfold longOf; rw [h]
theorem longOf_range {l : List UInt8} (h : parseUintB 64 l = .range) : longOf l = none := by
  unfold longOf; rw [h]
/-- the reference's fold -/
def lfold : Nat → List UInt8 → Option Nat
  | acc, [] => some acc
  | acc, c :: r => if 48 ≤ c.toNat ∧ c.toNat ≤ 57 then (if (18446744073709551615 - (c.toNat - 48)) / 10 < acc then none else lfold (10 * acc + (c.toNat - 48)) r) else none
theorem lfold_eq : ∀ (l : List UInt8) (acc : Nat), lfold acc l = match parseUintM 18446744073709551615 acc l with | .ok u => some u | _ => none
  | [], acc => rfl
  | c :: r, acc => by
    simp only [lfold, parseUintM]
    by_cases h : 48 ≤ c.toNat ∧ c.toNat ≤ 57
    · rw [if_pos h, if_pos h]
      by_cases h1 : 18446744073709551615 < acc * 10 + (c.toNat - 48)
      · rw [if_pos (by omega)]
        by_cases h2 : 1844674407370955162 ≤ acc
        · rw [if_pos h2]
        · rw [if_neg h2, if_pos h1]
      · rw [if_neg (by omega), if_neg (by omega), if_neg h1, lfold_eq r, Nat.mul_comm 10 acc]
    · rw [if_neg h, if_neg h]
theorem puB_cons {l : List UInt8} (h : l ≠ []) : parseUintB 64 l = parseUintM 18446744073709551615 0 l := by
  unfold parseUintB; rw [if_neg h]
theorem longOf_fold_none {l : List UInt8} (h : l ≠ []) (hf : lfold 0 l = none) : longOf l = none := by
  rw [lfold_eq, ← puB_cons h] at hf
  cases hp : parseUintB 64 l with
  | ok u => rw [hp] at hf; cases hf
  | «syntax» => exact longOf_syntax hp
  | range => exact longOf_range hp
theorem longOf_fold {l : List UInt8} {u : Nat} (h : l ≠ []) (hf : lfold 0 l = some u) : parseUintB 64 l = .ok u := by
  rw [lfold_eq, ← puB_cons h] at hf
  cases hp : parseUintB 64 l with
  | ok v => rw [hp] at hf; injection hf with hf; rw [hf]
  | «syntax» => rw [hp] at hf; cases hf
  | range => rw [hp] at hf; cases hf
theorem dec_len_pos (u : Nat) : 1 ≤ (decDigits u).length := by
  have := dec_ne_nil u
  cases h : decDigits u with
  | nil => exact absurd h this
  | cons a b => simp
theorem dec_len_le (n : Nat) : ∀ k : Nat, n < 10 ^ (k + 1) → (decDigits n).length ≤ k + 1 := by
  intro k
  induction k generalizing n with
  | zero => intro h; rw [decDigits, dif_pos (by simpa using h)]; simp
  | succ k ih =>
    intro h
    rw [decDigits]
    split
    · simp
    · rw [List.length_append]
      have := ih (n / 10) (by rw [Nat.pow_succ] at h; omega)
      simp; omega
theorem longOf_long {l : List UInt8} (h : l.length < 1 ∨ 20 < l.length) : longOf l = none := by
  cases hl : longOf l with
  | none => rfl
  | some u =>
    obtain ⟨he, hu⟩ := longOf_some hl
    have h1 := dec_len_pos u
    have h2 := dec_len_le u 19 (by omega)
    rw [he] at h; omega
/-- the small number that a list of bytes spells without waste -/
def numOf (l : List UInt8) : Option Nat := match longOf l with
  | some u => if u ≤ 999999999 then some u else none
  | none => none
theorem numOf_some {l : List UInt8} {u : Nat} (h : longOf l = some u) (hu : u ≤ 999999999) : numOf l = some u := by
  unfold numOf; rw [h]; simp [hu]
theorem numOf_big {l : List UInt8} {u : Nat} (h : longOf l = some u) (hu : ¬ u ≤ 999999999) : numOf l = none := by
  unfold numOf; rw [h]; simp [hu]
theorem numOf_none {l : List UInt8} (h : longOf l = none) : numOf l = none := by
  unfold numOf; rw [h]
theorem numOf_dec (u : Nat) (h : u ≤ 999999999) : numOf (decDigits u) = some u := numOf_some (longOf_dec u (by omega)) h
theorem numOf_inv {l : List UInt8} {u : Nat} (h : numOf l = some u) : l = decDigits u ∧ u ≤ 999999999 := by
  unfold numOf at h
  split at h
  · rename_i v hv
    split at h
    · injection h with h; subst h; exact ⟨(longOf_some hv).1, by assumption⟩
    · cases h
  · cases h
theorem dec_head (u : Nat) : ∃ c r, decDigits u = c :: r ∧ 48 ≤ c.toNat ∧ c.toNat ≤ 57 := by
  induction u using Nat.strongRecOn with
  | ind u ih =>
    rw [decDigits]
    split
    · exact ⟨_, _, rfl, by rw [digit_byte u (by assumption)]; omega, by rw [digit_byte u (by assumption)]; omega⟩
    · obtain ⟨c, r, h, h1, h2⟩ := ih (u / 10) (by omega)
      exact ⟨c, r ++ [UInt8.ofNat (48 + u % 10)], by rw [h]; rfl, h1, h2⟩
theorem atoi_dec (u : Nat) (h : u ≤ 999999999) : atoiAll (decDigits u) = .ok (u : Int) := by
  obtain ⟨c, r, hc, h1, h2⟩ := dec_head u
  have hp : parseMag (c :: r) = .ok u := by
    have := puB_dec u (by omega)
    rw [parseUintB_64, hc] at this
    exact this
  rw [hc]
  simp only [atoiAll]
  rw [if_neg (by omega), hp]
  simp only
  rw [if_neg (by omega), if_neg (by omega), if_neg (by omega)]
/-- what the program's Number finds, by how Atoi ends -/
theorem num_atoi_no {l : List UInt8} (h : ∀ v, atoiAll l ≠ .ok v) : numOf l = none := by
  cases hn : numOf l with
  | none => rfl
  | some u =>
    obtain ⟨he, hu⟩ := numOf_inv hn
    exact absurd (by rw [he]; exact atoi_dec u hu) (h u)
theorem num_atoi_out {l : List UInt8} {v : Int} (h : atoiAll l = .ok v) (hv : v < 0 ∨ 999999999 < v) : numOf l = none := by
  cases hn : numOf l with
  | none => rfl
  | some u =>
    obtain ⟨he, hu⟩ := numOf_inv hn
    rw [he, atoi_dec u hu] at h
    injection h with h; omega
theorem num_atoi_ne {l : List UInt8} {v : Int} (h : atoiAll l = .ok v) (hv : itoa v ≠ l) : numOf l = none := by
  cases hn : numOf l with
  | none => rfl
  | some u =>
    obtain ⟨he, hu⟩ := numOf_inv hn
    have h' := h
    rw [he, atoi_dec u hu] at h'
    injection h' with h'
    subst h'
    exact absurd (by rw [itoa_nonneg]; exact he.symm) hv
theorem num_atoi_eq {l : List UInt8} {v : Int} (h0 : 0 ≤ v) (h1 : v ≤ 999999999) (hv : itoa v = l) : numOf l = some v.toNat := by
  obtain ⟨u, rfl⟩ := Int.eq_ofNat_of_zero_le h0
  rw [itoa_nonneg] at hv
  rw [← hv]
  exact numOf_dec u (by omega)
theorem num_itoa {v : Int} (h0 : 0 ≤ v) (h1 : v ≤ 999999999) : numOf (itoa v) = some v.toNat := num_atoi_eq h0 h1 rfl
theorem num_itoa_out {v : Int} (h : v < 0 ∨ 999999999 < v) : numOf (itoa v) = none := by
  cases hn : numOf (itoa v) with
  | none => rfl
  | some u =>
    obtain ⟨he, hu⟩ := numOf_inv hn
    by_cases hneg : v < 0
    · obtain ⟨c, r, hc, h1, h2⟩ := dec_head u
      unfold itoa at he
      rw [if_pos hneg, hc] at he
      injection he with he _
      rw [← he] at h1
      exact absurd h1 (by decide)
    · obtain ⟨m, rfl⟩ := Int.eq_ofNat_of_zero_le (show 0 ≤ v by omega)
      rw [itoa_nonneg] at he
      by_cases hm : m < 18446744073709551616
      · have h3 := longOf_dec m hm
        rw [he, longOf_dec u (by omega)] at h3
        injection h3 with h3; omega
      · have h4 := congrArg List.length he
        have h5 := dec_len_le u 8 (by omega)
        have h6 : ∀ k m : Nat, 10 ^ k ≤ m → k + 1 ≤ (decDigits m).length := by
          intro k
          induction k with
          | zero => intro m _; exact dec_len_pos m
          | succ k ih =>
            intro m hm
            rw [decDigits]
            rw [Nat.pow_succ] at hm
            have := Nat.one_le_two_pow (n := 0)
            have hk : 1 ≤ 10 ^ k := Nat.one_le_pow _ _ (by decide)
            rw [dif_neg (by omega), List.length_append]
            have := ih (m / 10) (by omega)
            simp; omega
        have := h6 10 m (by omega)
        omega
end Go.Proofs.YtecmeomcgnjapaaDoor
