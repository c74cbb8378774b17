/- More drawing functions. Conditions: none on the bytes drawn from. -/
import Derived.Test.YtmhlljonlbiajaaDraw
namespace Go.Proofs.Ytmhlljonlbiajaa
open Go.RowKit
set_option linter.unusedVariables false
set_option linter.unusedSimpArgs false
theorem u8d : U8s Try.prog 34 5 9 :=
  ⟨Try.underlying34, Try.underlying5, Try.underlying9, info_parts (show (Try.prog.info? 5).map (fun i => (i.zero, i.size, i.bytes)) = some (some (.int .u8 0), 1, 1) by kernel_rfl)⟩
theorem grown_new {w w1 w2 : World} {g q : Nat} (h : w.grownBy w1 (some g)) (h2 : w1.grownBy w2 (some q)) (hq : w.heap.size ≤ q) : w.grownBy w2 (some g) :=
  ⟨h2.os.trans h.os, h2.tape.trans h.tape, h2.output.trans h.output, Nat.le_trans h.size h2.size, fun k hk hne => (h2.block k (by have := h.size; omega) (by simp; omega)).trans (h.block k hk hne)⟩
def wideArr : Array Value := #[.int .u64 0, .int .u64 1, .int .u64 127, .int .u64 128, .int .u64 16383, .int .u64 16384, .int .u64 2147483647, .int .u64 4294967295, .int .u64 4294967296, .int .u64 9223372036854775807, .int .u64 9223372036854775808, .int .u64 18446744073709551615]
theorem wide_get (m : Nat) (h : m < 12) : ∃ v : Int, 0 ≤ v ∧ v ≤ 18446744073709551615 ∧ wideArr[m]? = some (.int .u64 v) := by
  rcases (show m = 0 ∨ m = 1 ∨ m = 2 ∨ m = 3 ∨ m = 4 ∨ m = 5 ∨ m = 6 ∨ m = 7 ∨ m = 8 ∨ m = 9 ∨ m = 10 ∨ m = 11 by omega) with rfl | rfl | rfl | rfl | rfl | rfl | rfl | rfl | rfl | rfl | rfl | rfl
  all_goals exact ⟨_, by decide, by decide, rfl⟩
/-- a row of new bytes -/
def RowPost (B g : Nat) (a : Option Addr) (len cap : Nat) (z : List Int) (n : Nat) (w : World) (e : Ending) (w' : World) : Prop :=
  ∃ (q c : Nat) (l : List Nat), e = .returned (.slice (some ⟨q, 0, none⟩) n c) ∧ l.length = n ∧ RowAt w' q c l ∧ (∀ b ∈ l, b < 256) ∧ w.heap.size ≤ q ∧ Cur w' B g a len cap z ∧ w.grownBy w' (some g)
set_option maxRecDepth 20000 in
set_option maxHeartbeats 1000000 in
theorem d_Bytes {B g : Nat} {a : Option Addr} {len cap : Nat} {z : List Int} (w : World) (hc : Cur w B g a len cap z) (n : Int) (hn0 : 0 ≤ n) (hn : n ≤ 1000) :
    Calls Try.prog 47 #[.pointer (some ⟨g, 0, none⟩), .int .i64 n] w (RowPost B g a len cap z n.toNat w) := by
  obtain ⟨m, rfl⟩ := Int.eq_ofNat_of_zero_le hn0
  simp only [Int.toNat_natCast]
  have hz : RowAt (w.alloc (.cells #[] 5)) w.heap.size 0 [] := RowAt.new w #[] 5 [] (fun j hj => absurd hj (by simp)) (by simp) (by simp [maxLen])
  have hgl := hc.lt
  go_enter Try.func47, Try.ntmps47
  go_wp2_with fail
  go_loopw [5, 6] (fun o i wr => ∃ (k q c : Nat) (l : List Nat), k ≤ m ∧ l.length = k ∧ o = .slice (some ⟨q, 0, none⟩) k c ∧ i = .int .i64 k ∧ RowAt wr q c l ∧ (∀ b ∈ l, b < 256) ∧ w.heap.size ≤ q ∧ Cur wr B g a len cap z ∧ w.grownBy wr (some g)) (fun _ i _ => m - (intOf i).toNat)
  case atStart => exact ⟨0, w.heap.size, 0, [], Nat.zero_le _, rfl, rfl, rfl, hz, by simp, Nat.le_refl _, hc.alloc _, World.grownBy_alloc _ _ _⟩
  case round =>
    obtain ⟨k, q, c, l, hk, hl, rfl, rfl, hrow, hlt256, hq, hcr, hgr⟩ := hrel
    have HL := Lib.hid hl
    clear hl
    by_cases hlt : k < m
    · go_wp2_with (first | (go_at_call 43; refine (d_Byte _ hcr).mono ?_; rintro e w2 ⟨y, hy0, hy1, rfl, hc2, hg2⟩; obtain ⟨y, rfl⟩ := Int.eq_ofNat_of_zero_le hy0; have hrow2 := hrow.grown hg2 (by simp; omega); have hgr2 := hgr.trans hg2) | (at_builtin; refine wpList_append_row' rfl _ _ u8d rfl (hrow2.alloc _) k HL.out rfl _ 1 1 [y] rfl rfl (news1 _ _ _ _ (by simp) (by first | rfl | omega)) (by omega) ?_; intro q' c' w3 hrow3 hgr3 hq3))
      go_roundw
      case rel => exact ⟨k + 1, q', c', _, by omega, by rw [List.length_append, HL.out]; rfl, by simp, by go_num, hrow3, by intro b hb; rcases List.mem_append.1 hb with h | h; exact hlt256 b h; simp at h; omega, by rcases hq3 with h | h <;> (try simp at h) <;> have := hgr2.size <;> omega, (hc2.alloc _).grown hgr3 (by omega), grown_new (grown_alloc hgr2 _) hgr3 hq⟩
      case measure => simp [intOf]; omega
    · obtain rfl : m = k := by omega
      go_wp2
      go_ret
      exact ⟨q, c, l, rfl, HL.out, hrow, hlt256, hq, hcr, hgr⟩
set_option maxRecDepth 20000 in
set_option maxHeartbeats 1000000 in
theorem d_PickInt {B g : Nat} {a : Option Addr} {len cap : Nat} {z : List Int} (w : World) (hc : Cur w B g a len cap z) (q n : Nat) (hq : g < q) (hql : q < w.heap.size) (h1 : 1 ≤ n) (hn : n ≤ 1000) (lo hi : Int)
    (hv : ∀ j, j < n → ∃ x, lo ≤ x ∧ x ≤ hi ∧ w.cell? ⟨q, j, none⟩ = some (.int .i64 x)) :
    Calls Try.prog 38 #[.pointer (some ⟨g, 0, none⟩), .slice (some ⟨q, 0, none⟩) n n] w (IntPost B g a len cap z .i64 lo hi w) := by
  go_enter Try.func38, Try.ntmps38
  go_wp2_with fail
  refine (d_Below _ hc _ (by omega) (by omega)).mono ?_
  rintro e w1 ⟨x, hx0, hx1, rfl, hc1, hg1⟩
  rw [hiB_pos (by omega)] at hx1
  obtain ⟨m, rfl⟩ := Int.eq_ofNat_of_zero_le hx0
  obtain ⟨v, hv0, hv1, hv2⟩ := hv m (by omega)
  have c1 := hg1.cell hv2 (by simp; omega)
  have hm : (m : Int) < (n : Int) := by omega
  have HV := Lib.hid hv
  clear hv hv2
  go_wp2
  go_ret
  exact ⟨v, hv0, hv1, rfl, hc1, hg1⟩
/-- a string of at most N bytes -/
def StrPost (B g : Nat) (a : Option Addr) (len cap : Nat) (z : List Int) (N : Nat) (w : World) (e : Ending) (w' : World) : Prop :=
  ∃ s : ByteArray, s.size ≤ N ∧ e = .returned (.string s) ∧ Cur w' B g a len cap z ∧ w.grownBy w' (some g)
set_option maxRecDepth 20000 in
set_option maxHeartbeats 1000000 in
theorem d_Pick {B g : Nat} {a : Option Addr} {len cap : Nat} {z : List Int} (w : World) (hc : Cur w B g a len cap z) (q n : Nat) (hq : g < q) (hql : q < w.heap.size) (h1 : 1 ≤ n) (hn : n ≤ 1000) (N : Nat)
    (hv : ∀ j, j < n → ∃ x : ByteArray, x.size ≤ N ∧ w.cell? ⟨q, j, none⟩ = some (.string x)) :
    Calls Try.prog 46 #[.pointer (some ⟨g, 0, none⟩), .slice (some ⟨q, 0, none⟩) n n] w (StrPost B g a len cap z N w) := by
  go_enter Try.func46, Try.ntmps46
  go_wp2_with fail
  refine (d_Below _ hc _ (by omega) (by omega)).mono ?_
  rintro e w1 ⟨x, hx0, hx1, rfl, hc1, hg1⟩
  rw [hiB_pos (by omega)] at hx1
  obtain ⟨m, rfl⟩ := Int.eq_ofNat_of_zero_le hx0
  obtain ⟨v, hv0, hv2⟩ := hv m (by omega)
  have c1 := hg1.cell hv2 (by simp; omega)
  have hm : (m : Int) < (n : Int) := by omega
  have HV := Lib.hid hv
  clear hv hv2
  go_wp2
  go_ret
  exact ⟨v, hv0, rfl, hc1, hg1⟩
end Go.Proofs.Ytmhlljonlbiajaa
