/- Plain facts on hexadecimal digits. Conditions: none. -/
import Derived.Test.YtaleihkgfalinaaRow
namespace Go.Proofs.Ytaleihkgfalinaa.Plain
open Go.Proofs.Ytaleihkgfalinaa

def hexD (x : Nat) : Nat := if x < 10 then 48 + x else 87 + x
def hexL : List Nat → List Nat
  | [] => []
  | b :: r => hexD (b / 16) :: hexD (b % 16) :: hexL r
theorem hexL_length (l : List Nat) : (hexL l).length = 2 * l.length := by
  induction l with
  | nil => rfl
  | cons b r ih => simp only [hexL, List.length_cons, ih]; omega
theorem hexL_append (l m : List Nat) : hexL (l ++ m) = hexL l ++ hexL m := by
  induction l with
  | nil => rfl
  | cons b r ih => simp only [List.cons_append, hexL, ih]
theorem hexL_snoc (l : List Nat) (b : Nat) : hexL (l ++ [b]) = hexL l ++ [hexD (b / 16), hexD (b % 16)] := by
  rw [hexL_append]; rfl
theorem hexL_lt (l : List Nat) (h : ∀ b ∈ l, b < 256) : ∀ b ∈ hexL l, b < 256 := by
  induction l with
  | nil => simp [hexL]
  | cons b r ih =>
    have hb := h b (by simp)
    intro x hx
    simp only [hexL, List.mem_cons] at hx
    rcases hx with rfl | rfl | hx
    · unfold hexD; split <;> omega
    · unfold hexD; split <;> omega
    · exact ih (fun y hy => h y (by simp [hy])) x hx
def half (x : Nat) : Int := if 48 ≤ x ∧ x ≤ 57 then (x : Int) - 48 else if 97 ≤ x ∧ x ≤ 102 then (x : Int) - 87 else -1
theorem half_hexD {x : Nat} (h : x < 16) : half (hexD x) = x := by
  unfold hexD half
  split
  · rw [if_pos (by omega)]; omega
  · rw [if_neg (by omega), if_pos (by omega)]; omega
theorem half_bd (x : Nat) : -1 ≤ half x ∧ half x ≤ 15 := by unfold half; split; omega; split <;> omega
theorem hexD_half {x : Nat} (h : 0 ≤ half x) : hexD (half x).toNat = x := by
  unfold half at h ⊢
  unfold hexD
  split at h
  · rename_i h1
    rw [if_pos h1, if_pos (by omega)]; omega
  · split at h
    · rename_i h1 h2
      rw [if_neg h1, if_pos h2, if_neg (by omega)]; omega
    · omega
def unhexL : List Nat → Option (List Nat)
  | [] => some []
  | [_] => none
  | a :: b :: r => if half a < 0 ∨ half b < 0 then none else (unhexL r).map ((16 * (half a).toNat + (half b).toNat) :: ·)
theorem unhexL_odd : ∀ (l : List Nat), l.length % 2 = 1 → unhexL l = none
  | [], h => by simp at h
  | [_], _ => rfl
  | a :: b :: r, h => by
    simp only [List.length_cons] at h
    simp only [unhexL]
    split
    · rfl
    · rw [unhexL_odd r (by omega)]; rfl
theorem unhexL_hexL (l : List Nat) (h : ∀ b ∈ l, b < 256) : unhexL (hexL l) = some l := by
  induction l with
  | nil => rfl
  | cons b r ih =>
    have hb := h b (by simp)
    simp only [hexL, unhexL]
    rw [half_hexD (by omega), half_hexD (by omega), if_neg (by omega), ih (fun y hy => h y (by simp [hy]))]
    simp only [Option.map_some, Option.some.injEq, List.cons.injEq, and_true]; omega
theorem hexL_unhexL : ∀ (l o : List Nat), unhexL l = some o → hexL o = l
  | [], o, h => by simp [unhexL] at h; subst h; rfl
  | [_], o, h => by simp [unhexL] at h
  | a :: b :: r, o, h => by
    simp only [unhexL] at h
    split at h
    · cases h
    · rename_i hn
      have ha := half_bd a
      have hb := half_bd b
      cases hr : unhexL r with
      | none => rw [hr] at h; cases h
      | some q =>
        rw [hr] at h
        simp only [Option.map_some, Option.some.injEq] at h
        subst h
        simp only [hexL]
        rw [hexL_unhexL r q hr, show (16 * (half a).toNat + (half b).toNat) / 16 = (half a).toNat by omega, show (16 * (half a).toNat + (half b).toNat) % 16 = (half b).toNat by omega, hexD_half (by omega), hexD_half (by omega)]
theorem unhexL_lt : ∀ (l o : List Nat), unhexL l = some o → ∀ b ∈ o, b < 256
  | [], o, h => by simp [unhexL] at h; subst h; simp
  | [_], o, h => by simp [unhexL] at h
  | a :: b :: r, o, h => by
    simp only [unhexL] at h
    split at h
    · cases h
    · have ha := half_bd a
      have hb := half_bd b
      cases hr : unhexL r with
      | none => rw [hr] at h; cases h
      | some q =>
        rw [hr] at h
        simp only [Option.map_some, Option.some.injEq] at h
        subst h
        intro x hx
        rcases List.mem_cons.1 hx with rfl | hx
        · omega
        · exact unhexL_lt r q hr x hx
/-- a step of two bytes -/
theorem unhexL_step : ∀ (l o : List Nat) (i : Nat) (a b : Nat) (r : List Nat), unhexL (l.take (2 * i)) = some o → l.drop (2 * i) = a :: b :: r →
    (half a < 0 ∨ half b < 0 → unhexL l = none) ∧ (¬ (half a < 0 ∨ half b < 0) → unhexL (l.take (2 * (i + 1))) = some (o ++ [16 * (half a).toNat + (half b).toNat]))
  | l, o, 0, a, b, r, h, hd => by
    simp only [Nat.mul_zero, List.take_zero, List.drop_zero, unhexL, Option.some.injEq] at h hd
    subst h hd
    refine ⟨fun h => by simp only [unhexL, if_pos h], fun h => ?_⟩
    show unhexL [a, b] = _
    simp only [unhexL, if_neg h]; rfl
  | [], o, i + 1, a, b, r, h, hd => by simp at hd
  | [x], o, i + 1, a, b, r, h, hd => by
    rw [show 2 * (i + 1) = 2 * i + 1 + 1 by omega] at hd
    simp at hd
  | x :: y :: l, o, i + 1, a, b, r, h, hd => by
    rw [show 2 * (i + 1) = 2 * i + 1 + 1 by omega, List.take_succ_cons, List.take_succ_cons] at h
    rw [show 2 * (i + 1) = 2 * i + 1 + 1 by omega, List.drop_succ_cons, List.drop_succ_cons] at hd
    simp only [unhexL] at h
    split at h
    · cases h
    · rename_i hn
      cases hq : unhexL (l.take (2 * i)) with
      | none => rw [hq] at h; cases h
      | some q =>
        rw [hq] at h
        simp only [Option.map_some, Option.some.injEq] at h
        subst h
        have ih := unhexL_step l q i a b r hq hd
        refine ⟨fun h => ?_, fun h => ?_⟩
        · simp only [unhexL, if_neg hn, ih.1 h, Option.map_none]
        · rw [show 2 * (i + 1 + 1) = 2 * (i + 1) + 1 + 1 by omega, List.take_succ_cons, List.take_succ_cons]
          simp only [unhexL, if_neg hn, ih.2 h, Option.map_some, List.cons_append]
end Go.Proofs.Ytaleihkgfalinaa.Plain
