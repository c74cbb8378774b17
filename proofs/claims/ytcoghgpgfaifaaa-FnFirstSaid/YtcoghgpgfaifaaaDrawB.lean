/- More drawing functions. Conditions: none on the bytes drawn from. -/
import Derived.Test.YtcoghgpgfaifaaaDraw
namespace Go.Proofs.Ytcoghgpgfaifaaa
open Go.RowKit
set_option linter.unusedVariables false
set_option linter.unusedSimpArgs false
theorem u8d : U8s Try.prog 36 5 9 :=
  ⟨Try.underlying36, Try.underlying5, Try.underlying9, info_parts (show (Try.prog.info? 5).map (fun i => (i.zero, i.size, i.bytes)) = some (some (.int .u8 0), 1, 1) by kernel_rfl)⟩
theorem grown_new {w w1 w2 : World} {g q : Nat} (h : w.grownBy w1 (some g)) (h2 : w1.grownBy w2 (some q)) (hq : w.heap.size ≤ q) : w.grownBy w2 (some g) :=
  ⟨h2.os.trans h.os, h2.tape.trans h.tape, h2.output.trans h.output, Nat.le_trans h.size h2.size, fun k hk hne => (h2.block k (by have := h.size; omega) (by simp; omega)).trans (h.block k hk hne)⟩
def wideArr : Array Value := #[.int .u64 0, .int .u64 1, .int .u64 127, .int .u64 128, .int .u64 16383, .int .u64 16384, .int .u64 2147483647, .int .u64 4294967295, .int .u64 4294967296, .int .u64 9223372036854775807, .int .u64 9223372036854775808, .int .u64 18446744073709551615]
theorem wide_get (m : Nat) (h : m < 12) : ∃ v : Int, 0 ≤ v ∧ v ≤ 18446744073709551615 ∧ wideArr[m]? = some (.int .u64 v) := by
  rcases (show m = 0 ∨ m = 1 ∨ m = 2 ∨ m = 3 ∨ m = 4 ∨ m = 5 ∨ m = 6 ∨ m = 7 ∨ m = 8 ∨ m = 9 ∨ m = 10 ∨ m = 11 by omega) with rfl | rfl | rfl | rfl | rfl | rfl | rfl | rfl | rfl | rfl | rfl | rfl
  all_goals exact ⟨_, by decide, by decide, rfl⟩
/-- a row of new bytes -/
def RowPost (B g : Nat) (a : Option Addr) (len cap : Nat) (z : List Int) (n : Nat) (w : World) (e : Ending) (w' : World) : Prop :=
  ∃ (q c : Nat) (l : List Nat), e = .returned (.slice (some ⟨q, 0, none⟩) n c) ∧ l.length = n ∧ RowAt w' q c l ∧ (∀ b ∈ l, b < 256) ∧ w.heap.size ≤ q ∧ Cur w' B g a len cap z ∧ w.grownBy w' (some g)
set_option maxRecDepth 20000 in
set_option maxHeartbeats 1000000 in
theorem d_PickInt {B g : Nat} {a : Option Addr} {len cap : Nat} {z : List Int} (w : World) (hc : Cur w B g a len cap z) (q n : Nat) (hq : g < q) (hql : q < w.heap.size) (h1 : 1 ≤ n) (hn : n ≤ 1000) (lo hi : Int)
    (hv : ∀ j, j < n → ∃ x, lo ≤ x ∧ x ≤ hi ∧ w.cell? ⟨q, j, none⟩ = some (.int .i64 x)) :
    Calls Try.prog 57 #[.pointer (some ⟨g, 0, none⟩), .slice (some ⟨q, 0, none⟩) n n] w (IntPost B g a len cap z .i64 lo hi w) := by
  go_enter Try.func57, Try.ntmps57
  go_wp2_with fail
  refine (d_Below _ hc _ (by omega) (by omega)).mono ?_
  rintro e w1 ⟨x, hx0, hx1, rfl, hc1, hg1⟩
  rw [hiB_pos (by omega)] at hx1
  obtain ⟨m, rfl⟩ := Int.eq_ofNat_of_zero_le hx0
  obtain ⟨v, hv0, hv1, hv2⟩ := hv m (by omega)
  have c1 := hg1.cell hv2 (by simp; omega)
  have hm : (m : Int) < (n : Int) := by omega
  have HV := Lib.hid hv
  clear hv hv2
  go_wp2
  go_ret
  exact ⟨v, hv0, hv1, rfl, hc1, hg1⟩
/-- a string of at most N bytes -/
def StrPost (B g : Nat) (a : Option Addr) (len cap : Nat) (z : List Int) (N : Nat) (w : World) (e : Ending) (w' : World) : Prop :=
  ∃ s : ByteArray, s.size ≤ N ∧ e = .returned (.string s) ∧ Cur w' B g a len cap z ∧ w.grownBy w' (some g)
end Go.Proofs.Ytcoghgpgfaifaaa
