/- Plain facts: encodings of code points are valid, their truncations are not, and valid texts are made of them. Conditions: none. -/
import Derived.Test.YtmhlljonlbiajaaUtf
namespace Go.Proofs.Ytmhlljonlbiajaa.Plain

theorem first_lo {b : Nat} (h : b ≤ 127) : first (b : Int) = some (0, 0, 0) := by unfold first; rw [if_pos (by omega)]
theorem step0 (b : Int) : stepU (0, 0, 0) b = first b := by
  unfold stepU
  rw [if_neg (by decide), if_pos rfl]
theorem step1 {a c b : Int} (hu : okSt (1, a, c) = true) (h1 : a ≤ b) (h2 : b ≤ c) : stepU (1, a, c) b = some (0, 0, 0) := by
  unfold stepU
  rw [if_neg (by simp [hu]), if_neg (by simp), if_neg (by simp; omega), if_pos rfl]
theorem stepN {w a c b : Int} (hu : okSt (w, a, c) = true) (hw : 2 ≤ w) (h1 : a ≤ b) (h2 : b ≤ c) : stepU (w, a, c) b = some (w - 1, 128, 191) := by
  unfold stepU
  rw [if_neg (by simp [hu]), if_neg (by simp; omega), if_neg (by simp; omega), if_neg (by simp; omega)]
theorem stepX {w a c b : Int} (hw : w ≠ 0) (h : b < a ∨ c < b) : stepU (w, a, c) b = none := by
  unfold stepU
  by_cases ho : okSt (w, a, c) = false
  · rw [if_pos ho]
  · rw [if_neg ho, if_neg (by simpa using hw), if_pos (by simpa using h)]
/-- the number of bytes by the first one -/
def sizeB (b : Nat) : Nat := if 240 ≤ b then 4 else if 224 ≤ b then 3 else if 192 ≤ b then 2 else 1
def baseB (b : Nat) : Int := if 240 ≤ b then (b : Int) - 240 else if 224 ≤ b then (b : Int) - 224 else if 192 ≤ b then (b : Int) - 192 else b
/-- the number of a first byte and those behind it -/
def decB (n : Int) : List Nat → Int
  | [] => n
  | x :: r => decB (64 * n + x - 128) r
theorem decB_snoc (n : Int) (l : List Nat) (x : Nat) : decB n (l ++ [x]) = 64 * decB n l + x - 128 := by
  induction l generalizing n with
  | nil => rfl
  | cons y r ih => simp only [List.cons_append, decB, ih]
/-- where the first byte leads to -/
theorem run_cons (u : (Int × Int × Int)) (b : Nat) (r : List Nat) : utfText u (b :: r) = match stepU u (b : Int) with | none => (u, 0) | some v => ((utfText v r).1, if (utfText v r).2 < 0 then -1 else 1 + (utfText v r).2) := by
  unfold utfText
  cases hs : stepU u (b : Int) with
  | none => rw [runU_none hs]; rfl
  | some v =>
    have h := runU_shift r v 1
    rw [runU_some hs]
    simp only [Nat.zero_add]
    refine Prod.ext h.1 ?_
    rcases h.2 with ⟨h1, h2⟩ | ⟨h1, h2⟩
    · rw [h1, h2]; rfl
    · rw [h2]; simp only; rw [if_neg (by omega)]; rfl
/-- ends well from a state -/
def goodU (u : (Int × Int × Int)) (l : List Nat) : Bool := decide (utfText u l = ((0, 0, 0), -1))
theorem goodU_nil (u : (Int × Int × Int)) : goodU u [] = decide (u = (0, 0, 0)) := by
  unfold goodU utfText runU
  simp
theorem goodU_cons (u : (Int × Int × Int)) (b : Nat) (r : List Nat) : goodU u (b :: r) = match stepU u (b : Int) with | none => false | some v => goodU v r := by
  unfold goodU
  rw [run_cons]
  cases hs : stepU u (b : Int) with
  | none => simp
  | some v =>
    have h : (utfText v r).2 = -1 ∨ (0 : Int) ≤ (utfText v r).2 ∧ (utfText v r).2 < (0 : Int) + r.length := runU_at (l := r) (u := v) (i := 0)
    have key : ∀ q : (Int × Int × Int) × Int, (q.2 = -1 ∨ (0 : Int) ≤ q.2 ∧ q.2 < (0 : Int) + r.length) → (((q.1, if q.2 < 0 then (-1 : Int) else 1 + q.2) : (Int × Int × Int) × Int) = ((0, 0, 0), -1) ↔ q = ((0, 0, 0), -1)) := by
      rintro ⟨q1, q2⟩ h
      simp only [Prod.mk.injEq] at h ⊢
      rcases h with rfl | ⟨h, _⟩
      · simp
      · rw [if_neg (by omega)]
        exact ⟨fun h2 => absurd h2.2 (by omega), fun h2 => absurd h2.2 (by omega)⟩
    exact decide_eq_decide.2 (key _ h)
theorem first_none {b : Nat} (h : (128 ≤ b ∧ b ≤ 193) ∨ 245 ≤ b) : first (b : Int) = none := by
  unfold first
  repeat' rw [if_neg (by omega)]
theorem first_two {b : Nat} (h1 : 194 ≤ b) (h2 : b ≤ 223) : first (b : Int) = some (1, 128, 191) := by
  unfold first
  rw [if_neg (by omega), if_pos (by omega)]
theorem first_three {b : Nat} (h1 : 224 ≤ b) (h2 : b ≤ 239) : ∃ lo hi : Nat, first (b : Int) = some (2, (lo : Int), (hi : Int)) ∧ okSt (2, (lo : Int), (hi : Int)) = true ∧ ((b = 224 ∧ lo = 160 ∧ hi = 191) ∨ (b = 237 ∧ lo = 128 ∧ hi = 159) ∨ (b ≠ 224 ∧ b ≠ 237 ∧ lo = 128 ∧ hi = 191)) := by
  by_cases e : b = 224
  · subst e; exact ⟨160, 191, by decide, by decide, .inl ⟨rfl, rfl, rfl⟩⟩
  · by_cases e' : b = 237
    · subst e'; exact ⟨128, 159, by decide, by decide, .inr (.inl ⟨rfl, rfl, rfl⟩)⟩
    · refine ⟨128, 191, ?_, by decide, .inr (.inr ⟨e, e', rfl, rfl⟩)⟩
      unfold first
      rw [if_neg (by omega), if_neg (by omega), if_neg (by omega), if_neg (by omega), if_pos (by omega)]; rfl
theorem first_four {b : Nat} (h1 : 240 ≤ b) (h2 : b ≤ 244) : ∃ lo hi : Nat, first (b : Int) = some (3, (lo : Int), (hi : Int)) ∧ okSt (3, (lo : Int), (hi : Int)) = true ∧ ((b = 240 ∧ lo = 144 ∧ hi = 191) ∨ (b = 244 ∧ lo = 128 ∧ hi = 143) ∨ (b ≠ 240 ∧ b ≠ 244 ∧ lo = 128 ∧ hi = 191)) := by
  have : b = 240 ∨ b = 241 ∨ b = 242 ∨ b = 243 ∨ b = 244 := by omega
  rcases this with rfl | rfl | rfl | rfl | rfl
  · exact ⟨144, 191, by decide, by decide, .inl ⟨rfl, rfl, rfl⟩⟩
  · exact ⟨128, 191, by decide, by decide, by omega⟩
  · exact ⟨128, 191, by decide, by decide, by omega⟩
  · exact ⟨128, 191, by decide, by decide, by omega⟩
  · exact ⟨128, 143, by decide, by decide, by omega⟩
theorem scalar_iff {n : Int} : scalar n = true ↔ 0 ≤ n ∧ n ≤ 1114111 ∧ ¬ (55296 ≤ n ∧ n ≤ 57343) := by simp only [scalar, decide_eq_true_eq]
theorem encR_no {n : Int} (h : scalar n = false) : encR n = [] := by unfold encR; rw [if_pos h]
theorem encR_1 {n : Int} (h0 : 0 ≤ n) (h : n < 128) : encR n = [n.toNat] := by
  unfold encR; rw [if_neg (by rw [scalar_iff.2 ⟨by omega, by omega, by omega⟩]; simp), if_pos h]
theorem encR_2 {n : Int} (h0 : 128 ≤ n) (h : n < 2048) : encR n = [192 + n.toNat / 64, 128 + n.toNat % 64] := by
  unfold encR; rw [if_neg (by rw [scalar_iff.2 ⟨by omega, by omega, by omega⟩]; simp), if_neg (by omega), if_pos h]
theorem encR_3 {n : Int} (hs : scalar n = true) (h0 : 2048 ≤ n) (h : n < 65536) : encR n = [224 + n.toNat / 4096, 128 + n.toNat / 64 % 64, 128 + n.toNat % 64] := by
  unfold encR; rw [if_neg (by rw [hs]; simp), if_neg (by omega), if_neg (by omega), if_pos h]
theorem encR_4 {n : Int} (hs : scalar n = true) (h0 : 65536 ≤ n) : encR n = [240 + n.toNat / 262144, 128 + n.toNat / 4096 % 64, 128 + n.toNat / 64 % 64, 128 + n.toNat % 64] := by
  unfold encR; rw [if_neg (by rw [hs]; simp), if_neg (by omega), if_neg (by omega), if_neg (by omega)]
theorem ok1 : okSt (1, 128, 191) = true := by decide
theorem ok2 : okSt (2, 128, 191) = true := by decide
/-- behind an encoding one is where one began -/
theorem good_enc {n : Int} (hs : scalar n = true) (r : List Nat) : goodU (0, 0, 0) (encR n ++ r) = goodU (0, 0, 0) r := by
  obtain ⟨h0, h1, h2⟩ := scalar_iff.1 hs
  by_cases a1 : n < 128
  · rw [encR_1 h0 a1]
    simp only [List.cons_append, List.nil_append]
    rw [goodU_cons, step0, first_lo (by omega)]
  · by_cases a2 : n < 2048
    · rw [encR_2 (by omega) a2]
      simp only [List.cons_append, List.nil_append]
      rw [goodU_cons, step0, first_two (by omega) (by omega)]
      simp only
      rw [goodU_cons, step1 ok1 (by omega) (by omega)]
    · by_cases a3 : n < 65536
      · rw [encR_3 hs (by omega) a3]
        simp only [List.cons_append, List.nil_append]
        obtain ⟨lo, hi, e1, e2, e3⟩ := first_three (b := 224 + n.toNat / 4096) (by omega) (by omega)
        rw [goodU_cons, step0, e1]
        simp only
        rw [goodU_cons, stepN e2 (by omega) (by omega) (by omega)]
        simp only
        rw [goodU_cons, show ((2 : Int) - 1) = 1 from rfl, step1 ok1 (by omega) (by omega)]
      · rw [encR_4 hs (by omega)]
        simp only [List.cons_append, List.nil_append]
        obtain ⟨lo, hi, e1, e2, e3⟩ := first_four (b := 240 + n.toNat / 262144) (by omega) (by omega)
        rw [goodU_cons, step0, e1]
        simp only
        rw [goodU_cons, stepN e2 (by omega) (by omega) (by omega)]
        simp only
        rw [goodU_cons, show ((3 : Int) - 1) = 2 from rfl, stepN ok2 (by omega) (by omega) (by omega)]
        simp only
        rw [goodU_cons, show ((2 : Int) - 1) = 1 from rfl, step1 ok1 (by omega) (by omega)]
/-- an encoding less its last byte leaves one byte wanted -/
theorem run_short {n : Int} (hs : scalar n = true) (h : 128 ≤ n) : ∃ v : (Int × Int × Int), utfText (0, 0, 0) (encR n).dropLast = (v, -1) ∧ v.1 = 1 := by
  obtain ⟨h0, h1, h2⟩ := scalar_iff.1 hs
  by_cases a2 : n < 2048
  · rw [encR_2 h a2]
    refine ⟨(1, 128, 191), ?_, rfl⟩
    simp only [List.dropLast]
    rw [run_cons, step0, first_two (by omega) (by omega)]; rfl
  · by_cases a3 : n < 65536
    · rw [encR_3 hs (by omega) a3]
      obtain ⟨lo, hi, e1, e2, e3⟩ := first_three (b := 224 + n.toNat / 4096) (by omega) (by omega)
      refine ⟨(1, 128, 191), ?_, rfl⟩
      simp only [List.dropLast]
      rw [run_cons, step0, e1]
      simp only
      rw [run_cons, stepN e2 (by omega) (by omega) (by omega)]; rfl
    · rw [encR_4 hs (by omega)]
      obtain ⟨lo, hi, e1, e2, e3⟩ := first_four (b := 240 + n.toNat / 262144) (by omega) (by omega)
      refine ⟨(1, 128, 191), ?_, rfl⟩
      simp only [List.dropLast]
      rw [run_cons, step0, e1]
      simp only
      rw [run_cons, stepN e2 (by omega) (by omega) (by omega)]
      simp only
      rw [run_cons, show ((3 : Int) - 1) = 2 from rfl, stepN ok2 (by omega) (by omega) (by omega)]; rfl
/-- a text that ends well begins with an encoding -/
theorem good_head {b : Nat} {r : List Nat} (hb : b < 256) (hg : goodU (0, 0, 0) (b :: r) = true) :
    sizeB b ≤ r.length + 1 ∧ encR (decB (baseB b) (r.take (sizeB b - 1))) = (b :: r).take (sizeB b) := by
  rw [goodU_cons, step0] at hg
  by_cases c1 : b ≤ 127
  · have e : sizeB b = 1 := by unfold sizeB; rw [if_neg (by omega), if_neg (by omega), if_neg (by omega)]
    have e' : baseB b = b := by unfold baseB; rw [if_neg (by omega), if_neg (by omega), if_neg (by omega)]
    rw [e, e']
    refine ⟨by omega, ?_⟩
    show encR (b : Int) = [b]
    rw [encR_1 (by omega) (by omega)]; simp
  · by_cases c2 : b ≤ 193 ∨ 245 ≤ b
    · rw [first_none (by omega)] at hg; cases hg
    · by_cases c3 : b ≤ 223
      · have e : sizeB b = 2 := by unfold sizeB; rw [if_neg (by omega), if_neg (by omega), if_pos (by omega)]
        have e' : baseB b = (b : Int) - 192 := by unfold baseB; rw [if_neg (by omega), if_neg (by omega), if_pos (by omega)]
        rw [first_two (by omega) c3] at hg
        simp only at hg
        rcases r with _ | ⟨x, r⟩
        · rw [goodU_nil] at hg; simp at hg
        · by_cases d : x < 128 ∨ 191 < x
          · rw [goodU_cons, stepX (by decide) (by omega)] at hg; cases hg
          · rw [e, e']
            refine ⟨by simp, ?_⟩
            show encR (64 * ((b : Int) - 192) + x - 128) = [b, x]
            rw [encR_2 (by omega) (by omega)]
            simp only [List.cons.injEq, and_true]; omega
      · by_cases c4 : b ≤ 239
        · have e : sizeB b = 3 := by unfold sizeB; rw [if_neg (by omega), if_pos (by omega)]
          have e' : baseB b = (b : Int) - 224 := by unfold baseB; rw [if_neg (by omega), if_pos (by omega)]
          obtain ⟨lo, hi, e1, e2, e3⟩ := first_three (b := b) (by omega) c4
          rw [e1] at hg
          simp only at hg
          rcases r with _ | ⟨x, r⟩
          · rw [goodU_nil] at hg; simp at hg
          · by_cases d : x < lo ∨ hi < x
            · rw [goodU_cons, stepX (by decide) (by omega)] at hg; cases hg
            · rw [goodU_cons, stepN e2 (by omega) (by omega) (by omega), show ((2 : Int) - 1) = 1 from rfl] at hg
              simp only at hg
              rcases r with _ | ⟨y, r⟩
              · rw [goodU_nil] at hg; simp at hg
              · by_cases d2 : y < 128 ∨ 191 < y
                · rw [goodU_cons, stepX (by decide) (by omega)] at hg; cases hg
                · rw [e, e']
                  refine ⟨by simp, ?_⟩
                  show encR (64 * (64 * ((b : Int) - 224) + x - 128) + y - 128) = [b, x, y]
                  rw [encR_3 (scalar_iff.2 ⟨by omega, by omega, by omega⟩) (by omega) (by omega)]
                  simp only [List.cons.injEq, and_true]; omega
        · have e : sizeB b = 4 := by unfold sizeB; rw [if_pos (by omega)]
          have e' : baseB b = (b : Int) - 240 := by unfold baseB; rw [if_pos (by omega)]
          obtain ⟨lo, hi, e1, e2, e3⟩ := first_four (b := b) (by omega) (by omega)
          rw [e1] at hg
          simp only at hg
          rcases r with _ | ⟨x, r⟩
          · rw [goodU_nil] at hg; simp at hg
          · by_cases d : x < lo ∨ hi < x
            · rw [goodU_cons, stepX (by decide) (by omega)] at hg; cases hg
            · rw [goodU_cons, stepN e2 (by omega) (by omega) (by omega), show ((3 : Int) - 1) = 2 from rfl] at hg
              simp only at hg
              rcases r with _ | ⟨y, r⟩
              · rw [goodU_nil] at hg; simp at hg
              · by_cases d2 : y < 128 ∨ 191 < y
                · rw [goodU_cons, stepX (by decide) (by omega)] at hg; cases hg
                · rw [goodU_cons, stepN ok2 (by omega) (by omega) (by omega), show ((2 : Int) - 1) = 1 from rfl] at hg
                  simp only at hg
                  rcases r with _ | ⟨t, r⟩
                  · rw [goodU_nil] at hg; simp at hg
                  · by_cases d3 : t < 128 ∨ 191 < t
                    · rw [goodU_cons, stepX (by decide) (by omega)] at hg; cases hg
                    · rw [e, e']
                      refine ⟨by simp, ?_⟩
                      show encR (64 * (64 * (64 * ((b : Int) - 240) + x - 128) + y - 128) + t - 128) = [b, x, y, t]
                      rw [encR_4 (scalar_iff.2 ⟨by omega, by omega, by omega⟩) (by omega)]
                      simp only [List.cons.injEq, and_true]; omega
end Go.Proofs.Ytmhlljonlbiajaa.Plain
