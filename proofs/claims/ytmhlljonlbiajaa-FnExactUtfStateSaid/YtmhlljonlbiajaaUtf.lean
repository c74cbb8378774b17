/- Plain facts on the states of a validator of UTF-8 and on the encodings of code points. Conditions: none. -/
import Derived.Test.YtmhlljonlbiajaaBase
namespace Go.Proofs.Ytmhlljonlbiajaa.Plain

/-- a state: how many bytes are wanted, and the range of the next -/
def okSt (u : (Int × Int × Int)) : Bool :=
  decide (u = (0, 0, 0) ∨ u = (1, 128, 191) ∨ u = (2, 128, 191) ∨ u = (3, 128, 191) ∨ u = (2, 160, 191) ∨ u = (2, 128, 159) ∨ u = (3, 144, 191) ∨ u = (3, 128, 143))
def first (b : Int) : Option (Int × Int × Int) :=
  if 0 ≤ b ∧ b ≤ 127 then some (0, 0, 0)
  else if 194 ≤ b ∧ b ≤ 223 then some (1, 128, 191)
  else if b = 224 then some (2, 160, 191)
  else if b = 237 then some (2, 128, 159)
  else if 225 ≤ b ∧ b ≤ 239 then some (2, 128, 191)
  else if b = 240 then some (3, 144, 191)
  else if b = 244 then some (3, 128, 143)
  else if 241 ≤ b ∧ b ≤ 243 then some (3, 128, 191)
  else none
def stepU (u : (Int × Int × Int)) (b : Int) : Option (Int × Int × Int) :=
  if okSt u = false then none
  else if u.1 = 0 then first b
  else if b < u.2.1 ∨ u.2.2 < b then none
  else if u.1 = 1 then some (0, 0, 0)
  else some (u.1 - 1, 128, 191)
theorem ok_cases {u : (Int × Int × Int)} (h : okSt u = true) : u = (0, 0, 0) ∨ u = (1, 128, 191) ∨ u = (2, 128, 191) ∨ u = (3, 128, 191) ∨ u = (2, 160, 191) ∨ u = (2, 128, 159) ∨ u = (3, 144, 191) ∨ u = (3, 128, 143) := by simpa [okSt] using h
theorem first_ok {b : Int} {v : (Int × Int × Int)} (h : first b = some v) : okSt v = true := by
  unfold first at h
  repeat' split at h
  all_goals first | (injection h with h; subst h; decide) | cases h
theorem step_ok {u v : (Int × Int × Int)} {b : Int} (h : stepU u b = some v) : okSt v = true := by
  by_cases hu : okSt u = true
  · unfold stepU at h
    rw [if_neg (by simp [hu])] at h
    split at h
    · exact first_ok h
    · split at h
      · cases h
      · split at h
        · injection h with h; subst h; decide
        · injection h with h; subst h
          rcases ok_cases hu with rfl | rfl | rfl | rfl | rfl | rfl | rfl | rfl <;> first | decide | simp_all
  · simp only [Bool.not_eq_true] at hu
    simp [stepU, hu] at h
/-- the state behind a text from index i on, and the index of the byte that is refused, or -1 -/
def runU (u : (Int × Int × Int)) : List Nat → Nat → (Int × Int × Int) × Int
  | [], _ => (u, -1)
  | b :: r, i => match stepU u (b : Int) with
    | none => (u, (i : Int))
    | some v => runU v r (i + 1)
theorem runU_none {u : (Int × Int × Int)} {b i : Nat} {r : List Nat} (h : stepU u (b : Int) = none) : runU u (b :: r) i = (u, (i : Int)) := by
  rw [runU]; rw [h]
theorem runU_some {u v : (Int × Int × Int)} {b i : Nat} {r : List Nat} (h : stepU u (b : Int) = some v) : runU u (b :: r) i = runU v r (i + 1) := by
  rw [runU]; rw [h]
def utfText (u : (Int × Int × Int)) (l : List Nat) : (Int × Int × Int) × Int := runU u l 0
def utfGood (l : List Nat) : Bool := decide (utfText (0, 0, 0) l = ((0, 0, 0), -1))
theorem runU_ok {l : List Nat} {u : (Int × Int × Int)} {i : Nat} (h : okSt u = true) : okSt (runU u l i).1 = true := by
  induction l generalizing u i with
  | nil => exact h
  | cons b r ih =>
    unfold runU
    split
    · exact h
    · next v hv => exact ih (step_ok hv)
theorem runU_at {l : List Nat} {u : (Int × Int × Int)} {i : Nat} : (runU u l i).2 = -1 ∨ ((i : Int) ≤ (runU u l i).2 ∧ (runU u l i).2 < i + l.length) := by
  induction l generalizing u i with
  | nil => exact .inl rfl
  | cons b r ih =>
    unfold runU
    split
    · right; simp only [List.length_cons]; omega
    · next v hv =>
      have := @ih v (i + 1)
      simp only [List.length_cons]; omega
/-- the run over a whole, cut -/
theorem runU_append (l m : List Nat) (u : (Int × Int × Int)) (i : Nat) : runU u (l ++ m) i = if (runU u l i).2 < 0 then runU (runU u l i).1 m (i + l.length) else runU u l i := by
  induction l generalizing u i with
  | nil => simp [runU]
  | cons b r ih =>
    simp only [List.cons_append]
    cases hs : stepU u (b : Int) with
    | none => rw [runU_none hs, runU_none hs, if_neg (by simp only; omega)]
    | some v =>
      rw [runU_some hs, runU_some hs, ih]
      simp only [List.length_cons]
      rw [show i + 1 + r.length = i + (r.length + 1) by omega]
/-- the index moves along -/
theorem runU_shift (l : List Nat) (u : (Int × Int × Int)) (i : Nat) : (runU u l i).1 = (runU u l 0).1 ∧ ((runU u l i).2 = -1 ∧ (runU u l 0).2 = -1 ∨ (0 ≤ (runU u l 0).2 ∧ (runU u l i).2 = i + (runU u l 0).2)) := by
  induction l generalizing u i with
  | nil => exact ⟨rfl, .inl ⟨rfl, rfl⟩⟩
  | cons b r ih =>
    cases hs : stepU u (b : Int) with
    | none => rw [runU_none hs, runU_none hs]; exact ⟨rfl, .inr ⟨by simp, by simp⟩⟩
    | some v =>
      have h1 := ih v (i + 1)
      have h2 := ih v 1
      rw [runU_some hs, runU_some hs]
      simp only [Nat.zero_add]
      refine ⟨h1.1.trans h2.1.symm, ?_⟩
      omega
/-- the code points that have an encoding -/
def scalar (n : Int) : Bool := decide (0 ≤ n ∧ n ≤ 1114111 ∧ ¬ (55296 ≤ n ∧ n ≤ 57343))
/-- the encoding of a code point; nothing for another number -/
def encR (n : Int) : List Nat :=
  if scalar n = false then []
  else if n < 128 then [n.toNat]
  else if n < 2048 then [192 + n.toNat / 64, 128 + n.toNat % 64]
  else if n < 65536 then [224 + n.toNat / 4096, 128 + n.toNat / 64 % 64, 128 + n.toNat % 64]
  else [240 + n.toNat / 262144, 128 + n.toNat / 4096 % 64, 128 + n.toNat / 64 % 64, 128 + n.toNat % 64]
theorem encR_lt (n : Int) : ∀ b ∈ encR n, b < 256 := by
  intro b hb
  unfold encR at hb
  by_cases hs : scalar n = true
  · rw [if_neg (by simp [hs])] at hb
    simp only [scalar, decide_eq_true_eq] at hs
    split at hb
    · simp at hb; omega
    · split at hb
      · simp at hb; omega
      · split at hb
        · simp at hb; omega
        · simp at hb; omega
  · simp only [Bool.not_eq_true] at hs
    rw [if_pos hs] at hb; simp at hb
end Go.Proofs.Ytmhlljonlbiajaa.Plain
