/- Plain facts: seven bits joined above the bits that are there. Conditions: bounds. -/
import Derived.Test.YtigmncilanejlaaBits
import Derived.Test.YtigmncilanejlaaVar
namespace Go.Proofs.Ytigmncilanejlaa
open Go.RowKit Plain
theorem top_bd {u y k : Nat} (hy : y < 128) (hk : k ≤ 9) (h9 : k = 9 → y ≤ 1) (hu : u < 2 ^ (7 * k)) : u + y * 2 ^ (7 * k) < 18446744073709551616 ∧ y * 2 ^ (7 * k) < 18446744073709551616 := by
  have h : u + y * 2 ^ (7 * k) < (y + 1) * 2 ^ (7 * k) := by
    have e := Nat.succ_mul y (2 ^ (7 * k))
    show _ < Nat.succ y * 2 ^ (7 * k)
    rw [e]; omega
  have h2 : (y + 1) * 2 ^ (7 * k) ≤ 18446744073709551616 := by
    by_cases e : k = 9
    · subst e
      have := h9 rfl
      calc (y + 1) * 2 ^ (7 * 9) ≤ 2 * 2 ^ (7 * 9) := Nat.mul_le_mul_right _ (by omega)
        _ = _ := by decide
    · calc (y + 1) * 2 ^ (7 * k) ≤ 128 * 2 ^ (7 * 8) := Nat.mul_le_mul (by omega) (Nat.pow_le_pow_right (by omega) (by omega))
        _ ≤ _ := by decide
  omega
theorem cast_pow (k : Nat) : (2 : Int) ^ k = ((2 ^ k : Nat) : Int) := by simp
theorem sum_top {u y k : Nat} (hy : y < 128) (hk : k ≤ 9) (h9 : k = 9 → y ≤ 1) (hu : u < 2 ^ (7 * k)) :
    IntKind.u64.wrap ((u : Int) + IntKind.u64.wrap ((y : Int) * 2 ^ (7 * k))) = ((u + y * 2 ^ (7 * k) : Nat) : Int) := by
  obtain ⟨h1, h2⟩ := top_bd hy hk h9 hu
  have e : (y : Int) * 2 ^ (7 * k) = ((y * 2 ^ (7 * k) : Nat) : Int) := by rw [cast_pow]; simp
  have e3 : IntKind.u64.wrap ((y * 2 ^ (7 * k) : Nat) : Int) = ((y * 2 ^ (7 * k) : Nat) : Int) := IntWalk.u64_in _ (by omega)
  rw [e, e3, IntWalk.u64_in _ (by omega)]; omega
theorem or_top {u y k : Nat} (hy : y < 128) (hk : k ≤ 9) (h9 : k = 9 → y ≤ 1) (hu : u < 2 ^ (7 * k)) :
    bits .or .u64 (u : Int) (IntKind.u64.wrap ((y : Int) * 2 ^ (7 * k))) = ((u + y * 2 ^ (7 * k) : Nat) : Int) := by
  obtain ⟨h1, h2⟩ := top_bd hy hk h9 hu
  have e : (y : Int) * 2 ^ (7 * k) = (y : Int) * ((2 ^ (7 * k) : Nat) : Int) := by rw [cast_pow]
  have e2 : (y : Int) * ((2 ^ (7 * k) : Nat) : Int) = ((y * 2 ^ (7 * k) : Nat) : Int) := by simp
  have e3 : IntKind.u64.wrap ((y * 2 ^ (7 * k) : Nat) : Int) = ((y * 2 ^ (7 * k) : Nat) : Int) := IntWalk.u64_in _ (by omega)
  rw [e, e2, e3, ← e2, orJoin _ _ _ (by omega) (by omega) (by omega) (by rw [e2]; omega), e2]; omega
theorem sum9 {u x : Nat} (hu : u < 2 ^ (7 * 9)) (hx : x ≤ 1) : IntKind.u64.wrap ((u : Int) + (x : Int) % 128 * 9223372036854775808) = ((u + x * 2 ^ (7 * 9) : Nat) : Int) := by
  have e : (2 : Nat) ^ (7 * 9) = 9223372036854775808 := by decide
  rw [e] at hu ⊢
  rw [IntWalk.u64_in _ (by omega)]; omega
theorem mod128 (x : Nat) : (x : Int) % 128 = ((x % 128 : Nat) : Int) := by omega
theorem sum_top' {u x k : Nat} {a b : Int} (ha : a = (x % 128 : Nat)) (hb : b = 2 ^ (7 * k)) (hk : k ≤ 9) (h9 : k = 9 → x % 128 ≤ 1) (hu : u < 2 ^ (7 * k)) :
    IntKind.u64.wrap ((u : Int) + IntKind.u64.wrap (a * b)) = ((u + x % 128 * 2 ^ (7 * k) : Nat) : Int) := by
  rw [ha, hb]; exact sum_top (Nat.mod_lt _ (by omega)) hk h9 hu
theorem or_top' {u x k : Nat} {a b : Int} (ha : a = (x % 128 : Nat)) (hb : b = 2 ^ (7 * k)) (hk : k ≤ 9) (h9 : k = 9 → x % 128 ≤ 1) (hu : u < 2 ^ (7 * k)) :
    bits .or .u64 (u : Int) (IntKind.u64.wrap (a * b)) = ((u + x % 128 * 2 ^ (7 * k) : Nat) : Int) := by
  rw [ha, hb]; exact or_top (Nat.mod_lt _ (by omega)) hk h9 hu
theorem byteVal (x : Nat) (h : x < 256) : IntKind.u64.wrap (bits .and .u8 (x : Int) 127) = ((x % 128 : Nat) : Int) := by
  rw [and127_u8 _ (by omega) (by omega), IntWalk.u64_in _ (by omega)]; omega

end Go.Proofs.Ytigmncilanejlaa
