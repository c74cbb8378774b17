/- Plain facts on bit operations on 64-bit and 8-bit numbers. Conditions: bounds. -/
import Derived.Laws.BitsAllLaws
import Derived.IntWalk
import Derived.RowKit
import Derived.WalkKit
namespace Go.Proofs.Ytcoghgpgfaifaaa
open Go.RowKit

theorem Lnot64 (x : BitVec 64) : (x ^^^ BitVec.ofInt 64 (-1)).toNat = 18446744073709551615 - x.toNat := by
  have h : BitVec.ofInt 64 (-1) = BitVec.allOnes 64 := by decide
  rw [h, BitVec.xor_allOnes, BitVec.toNat_not]

def zig (a : Int) : Int := if a < 0 then -2 * a - 1 else 2 * a
theorem zig_bd (a : Int) (h1 : -9223372036854775808 ≤ a) (h2 : a ≤ 9223372036854775807) : 0 ≤ zig a ∧ zig a ≤ 18446744073709551615 := by
  unfold zig; split <;> omega
theorem zig_bits (a : Int) (h1 : -9223372036854775808 ≤ a) (h2 : a ≤ 9223372036854775807) :
    bits .xor .u64 (IntKind.u64.wrap (IntKind.u64.wrap a * 2)) (IntKind.u64.wrap (a / 9223372036854775808)) = zig a := by
  unfold zig
  by_cases h : a < 0
  · rw [if_pos h]
    have e1 : a / 9223372036854775808 = -1 := by omega
    have e2 : IntKind.u64.wrap (-1) = 18446744073709551615 := by decide
    have e3 : IntKind.u64.wrap (IntKind.u64.wrap a * 2) = 2 * a + 18446744073709551616 := by simp only [IntKind.wrap_u64]; omega
    rw [e1, e2, e3]
    show IntKind.u64.wrap ((BitVec.ofInt 64 (2 * a + 18446744073709551616) ^^^ BitVec.ofInt 64 18446744073709551615).toNat : Int) = _
    have e4 : BitVec.ofInt 64 18446744073709551615 = BitVec.ofInt 64 (-1) := by decide
    rw [e4, Lnot64]
    obtain ⟨m, hm⟩ : ∃ m : Nat, 2 * a + 18446744073709551616 = (m : Int) := ⟨(2 * a + 18446744073709551616).toNat, by omega⟩
    rw [hm, Go.ofInt_u64 m (by omega)]
    simp only [IntKind.wrap_u64]; omega
  · rw [if_neg h]
    have e1 : a / 9223372036854775808 = 0 := by omega
    have e2 : IntKind.u64.wrap 0 = 0 := by decide
    have e3 : IntKind.u64.wrap (IntKind.u64.wrap a * 2) = 2 * a := by simp only [IntKind.wrap_u64]; omega
    rw [e1, e2, e3, Go.u64_xor _ _ (by omega) (by omega) (by omega) (by omega)]
    simp; omega

def unzig (a : Int) : Int := if a % 2 = 1 then -(a / 2) - 1 else a / 2
theorem unzig_bd (a : Int) (h1 : 0 ≤ a) (h2 : a ≤ 18446744073709551615) : -9223372036854775808 ≤ unzig a ∧ unzig a ≤ 9223372036854775807 := by
  unfold unzig; split <;> omega
theorem unzig_zig (a : Int) : unzig (zig a) = a := by unfold unzig zig; split <;> split <;> omega
theorem zig_unzig (a : Int) (h : 0 ≤ a) : zig (unzig a) = a := by unfold unzig zig; split <;> split <;> omega
theorem and1 (a : Int) (h1 : 0 ≤ a) (h2 : a ≤ 18446744073709551615) : bits .and .u64 a 1 = a % 2 := by
  rw [Go.u64_and a 1 h1 (by omega) (by omega) (by omega)]
  have : (1 : Int).toNat = 1 := rfl
  rw [this, Go.nat_mask1]; omega
theorem unzig_bits (a : Int) (h1 : 0 ≤ a) (h2 : a ≤ 18446744073709551615) :
    bits .xor .i64 (a / 2) (wrap64 (-wrap64 (bits .and .u64 a 1))) = unzig a := by
  rw [and1 a h1 h2]
  unfold unzig
  obtain ⟨m, hm⟩ : ∃ m : Nat, a / 2 = (m : Int) := ⟨(a / 2).toNat, by omega⟩
  have hm2 : m < 9223372036854775808 := by omega
  by_cases h : a % 2 = 1
  · rw [if_pos h, h]
    have e1 : wrap64 (-wrap64 1) = -1 := by unfold wrap64; decide
    rw [e1]
    show IntKind.i64.wrap ((BitVec.ofInt 64 (a / 2) ^^^ BitVec.ofInt 64 (-1)).toNat : Int) = _
    rw [Lnot64, hm, Go.ofInt_u64 m (by omega), IntKind.wrap_i64]; omega
  · have h0 : a % 2 = 0 := by omega
    rw [if_neg h, h0]
    have e1 : wrap64 (-wrap64 0) = 0 := by unfold wrap64; decide
    rw [e1]
    show IntKind.i64.wrap ((BitVec.ofInt 64 (a / 2) ^^^ BitVec.ofInt 64 0).toNat : Int) = _
    have e4 : BitVec.ofInt 64 0 = 0#64 := by decide
    rw [e4, BitVec.xor_zero, hm, Go.ofInt_u64 m (by omega), IntKind.wrap_i64]; omega

theorem and7 (a : Int) (h1 : 0 ≤ a) (h2 : a ≤ 18446744073709551615) : bits .and .u64 a 7 = a % 8 := by
  rw [Go.u64_and a 7 h1 (by omega) (by omega) (by omega)]
  have : (7 : Int).toNat = 7 := rfl
  rw [this, Go.nat_mask3]; omega
theorem and127 (a : Int) (h1 : 0 ≤ a) (h2 : a ≤ 18446744073709551615) : bits .and .u64 a 127 = a % 128 := by
  rw [Go.u64_and a 127 h1 (by omega) (by omega) (by omega)]
  have : (127 : Int).toNat = 127 := rfl
  rw [this, Go.nat_mask7]; omega
theorem or128 (a : Int) (h1 : 0 ≤ a) (h2 : a < 128) : bits .or .u64 a 128 = a + 128 := by
  rw [Go.u64_or a 128 h1 (by omega) (by omega) (by omega)]
  have : (128 : Int).toNat = 128 := rfl
  rw [this, Nat.or_comm, Go.nat_join 7 128 a.toNat (by decide) (by omega)]; omega
theorem and127_u8 (a : Int) (h1 : 0 ≤ a) (h2 : a ≤ 255) : bits .and .u8 a 127 = a % 128 := by
  rw [Go.u8_and a 127 h1 (by omega) (by omega) (by omega)]
  have : (127 : Int).toNat = 127 := rfl
  rw [this, Go.nat_mask7]; omega
theorem and127_i64 (a : Int) (h1 : 0 ≤ a) (h2 : a ≤ 255) : bits .and .i64 a 127 = a % 128 := by
  obtain ⟨m, rfl⟩ : ∃ m : Nat, a = (m : Int) := ⟨a.toNat, by omega⟩
  have ha : (BitVec.ofInt 64 (m : Int)).toNat = m := Go.ofInt_u64 m (by omega)
  show IntKind.i64.wrap ((BitVec.ofInt 64 (m : Int) &&& BitVec.ofInt 64 127).toNat : Int) = _
  have e4 : (BitVec.ofInt 64 127).toNat = 127 := by decide
  rw [BitVec.toNat_and, ha, e4, Go.nat_mask7, IntKind.wrap_i64]; omega
/-- x & 255 lies in 0..255, whatever x. -/
theorem and255 (x : Int) : 0 ≤ bits .and .i64 x 255 ∧ bits .and .i64 x 255 ≤ 255 := by
  have e4 : (BitVec.ofInt 64 255).toNat = 255 := by decide
  have e : bits .and .i64 x 255 = IntKind.i64.wrap ((BitVec.ofInt 64 x &&& BitVec.ofInt 64 255).toNat : Int) := rfl
  rw [e, BitVec.toNat_and, e4, Go.nat_mask8, IntKind.wrap_i64]; omega
/-- bits that do not meet are joined by adding. -/
theorem orJoin (u v : Int) (i : Nat) (hu : 0 ≤ u) (hv : 0 ≤ v) (h1 : u < (2 ^ i : Nat)) (h3 : u + v * (2 ^ i : Nat) ≤ 18446744073709551615) :
    bits .or .u64 u (v * (2 ^ i : Nat)) = u + v * (2 ^ i : Nat) := by
  obtain ⟨m, rfl⟩ : ∃ m : Nat, u = (m : Int) := ⟨u.toNat, by omega⟩
  obtain ⟨n, rfl⟩ : ∃ n : Nat, v = (n : Int) := ⟨v.toNat, by omega⟩
  have e : ((n : Int) * (2 ^ i : Nat)) = ((n * 2 ^ i : Nat) : Int) := by simp
  rw [e] at h3 ⊢
  rw [Go.u64_or_nat m (n * 2 ^ i) (by omega) (by omega), Nat.or_comm, Go.nat_join i (n * 2 ^ i) m (Nat.mul_mod_left _ _) (by omega)]
  omega
end Go.Proofs.Ytcoghgpgfaifaaa
