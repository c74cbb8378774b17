/- Plain facts on fixed-width numbers. Conditions: none. -/
import Derived.Test.YtigmncilanejlaaVar
namespace Go.Proofs.Ytigmncilanejlaa.Plain

def fixL : Nat → Nat → List Nat
  | 0, _ => []
  | n + 1, u => u % 256 :: fixL n (u / 256)
theorem fixL_length (n u : Nat) : (fixL n u).length = n := by
  induction n generalizing u with
  | zero => rfl
  | succ n ih => simp [fixL, ih]
theorem fixL_snoc (n u : Nat) : fixL (n + 1) u = fixL n u ++ [u / 256 ^ n % 256] := by
  induction n generalizing u with
  | zero => simp [fixL]
  | succ n ih =>
    rw [fixL, ih]
    simp only [fixL, List.cons_append]
    rw [Nat.div_div_eq_div_mul, Nat.pow_succ, Nat.mul_comm (256 ^ n) 256]
theorem fixL_lt (n u : Nat) : ∀ b ∈ fixL n u, b < 256 := by
  induction n generalizing u with
  | zero => simp [fixL]
  | succ n ih =>
    intro b hb
    simp only [fixL, List.mem_cons] at hb
    rcases hb with rfl | hb
    · omega
    · exact ih _ b hb
def FixS (n i u : Nat) : List Nat := fixL i u ++ List.replicate (n - i) 0
theorem FixS_length {n i : Nat} (u : Nat) (h : i ≤ n) : (FixS n i u).length = n := by simp [FixS, fixL_length]; omega
theorem FixS_step {n i : Nat} (u : Nat) (h : i < n) : (FixS n i u).set i (u / 256 ^ i % 256) = FixS n (i + 1) u := by
  obtain ⟨m, hm⟩ : ∃ m, n - i = m + 1 := ⟨n - i - 1, by omega⟩
  have hm' : n - (i + 1) = m := by omega
  unfold FixS
  rw [hm, hm', fixL_snoc, List.replicate_succ, List.set_append_right _ _ (by rw [fixL_length]; exact Nat.le_refl _), fixL_length]
  simp
theorem FixS_end (n u : Nat) : FixS n n u = fixL n u := by simp [FixS]
def putFix (u : Nat) (k : Int) : List Nat := if k = 8 then fixL 8 u else if k = 4 ∧ u < 4294967296 then fixL 4 u else []
theorem putFix_lt (u : Nat) (k : Int) : ∀ b ∈ putFix u k, b < 256 := by
  unfold putFix; split
  · exact fixL_lt _ _
  · split
    · exact fixL_lt _ _
    · simp
/-- the number of some bytes, the lowest first -/
def valL : List Nat → Nat
  | [] => 0
  | b :: r => b + 256 * valL r
theorem valL_fixL (n u : Nat) (h : u < 256 ^ n) : valL (fixL n u) = u := by
  induction n generalizing u with
  | zero => simp at h; simp [fixL, valL, h]
  | succ n ih =>
    rw [Nat.pow_succ] at h
    simp only [fixL, valL]
    rw [ih _ (Nat.div_lt_of_lt_mul (by omega))]; omega
theorem valL_lt (l : List Nat) (h : ∀ b ∈ l, b < 256) : valL l < 256 ^ l.length := by
  induction l with
  | nil => simp [valL]
  | cons b r ih =>
    have h1 := h b (by simp)
    have h2 := ih (fun x hx => h x (by simp [hx]))
    simp only [valL, List.length_cons, Nat.pow_succ]; omega
theorem fixL_valL (l : List Nat) (h : ∀ b ∈ l, b < 256) : fixL l.length (valL l) = l := by
  induction l with
  | nil => rfl
  | cons b r ih =>
    have h1 := h b (by simp)
    simp only [List.length_cons, fixL, valL]
    rw [show (b + 256 * valL r) % 256 = b from by omega, show (b + 256 * valL r) / 256 = valL r from by omega, ih (fun x hx => h x (by simp [hx]))]
theorem valL_snoc (l : List Nat) (b : Nat) : valL (l ++ [b]) = valL l + b * 256 ^ l.length := by
  induction l with
  | nil => simp [valL]
  | cons c r ih =>
    simp only [List.cons_append, valL, List.length_cons, ih, Nat.pow_succ]
    rw [Nat.mul_add, Nat.add_assoc, ← Nat.mul_assoc, Nat.mul_comm 256 b, Nat.mul_assoc, Nat.mul_comm 256 (256 ^ r.length)]
theorem pow8 (k : Nat) : (256 : Nat) ^ k = 2 ^ (8 * k) := by rw [Nat.pow_mul]
def fixOk (l : List Nat) (a k : Int) : Bool := (decide (k = 4) || decide (k = 8)) && decide (0 ≤ a) && decide (a ≤ (l.length : Int) - k)
def fixV (l : List Nat) (a k : Int) : Nat := if fixOk l a k = true then valL ((l.drop a.toNat).take k.toNat) else 0
theorem fix_no {l : List Nat} {a k : Int} (h : fixOk l a k = false) : fixV l a k = 0 := by simp [fixV, h]
theorem fix_yes {l : List Nat} {m n : Nat} (h : fixOk l m n = true) : fixV l m n = valL ((l.drop m).take n) := by simp [fixV, h]
theorem take_snoc' {l : List Nat} {i : Nat} (h : i < l.length) : l.take (i + 1) = l.take i ++ [l.getD i 0] := by
  rw [List.take_succ_eq_append_getElem h]; simp [List.getD, List.getElem?_eq_getElem h]
end Go.Proofs.Ytigmncilanejlaa.Plain
