/- More drawing functions. Conditions: none on the bytes drawn from. -/
import Derived.Test.YtecmeomcgnjapaaDoorDraw
namespace Go.Proofs.YtecmeomcgnjapaaDoor
open Go.RowKit
set_option linter.unusedVariables false
set_option linter.unusedSimpArgs false
theorem u8d : U8s Tryd.prog 32 5 9 :=
  ⟨Tryd.underlying32, Tryd.underlying5, Tryd.underlying9, info_parts (show (Tryd.prog.info? 5).map (fun i => (i.zero, i.size, i.bytes)) = some (some (.int .u8 0), 1, 1) by kernel_rfl)⟩
theorem grown_new {w w1 w2 : World} {g q : Nat} (h : w.grownBy w1 (some g)) (h2 : w1.grownBy w2 (some q)) (hq : w.heap.size ≤ q) : w.grownBy w2 (some g) :=
  ⟨h2.os.trans h.os, h2.tape.trans h.tape, h2.output.trans h.output, Nat.le_trans h.size h2.size, fun k hk hne => (h2.block k (by have := h.size; omega) (by simp; omega)).trans (h.block k hk hne)⟩
def wideArr : Array Value := #[.int .u64 0, .int .u64 1, .int .u64 127, .int .u64 128, .int .u64 16383, .int .u64 16384, .int .u64 2147483647, .int .u64 4294967295, .int .u64 4294967296, .int .u64 9223372036854775807, .int .u64 9223372036854775808, .int .u64 18446744073709551615]
theorem wide_get (m : Nat) (h : m < 12) : ∃ v : Int, 0 ≤ v ∧ v ≤ 18446744073709551615 ∧ wideArr[m]? = some (.int .u64 v) := by
  rcases (show m = 0 ∨ m = 1 ∨ m = 2 ∨ m = 3 ∨ m = 4 ∨ m = 5 ∨ m = 6 ∨ m = 7 ∨ m = 8 ∨ m = 9 ∨ m = 10 ∨ m = 11 by omega) with rfl | rfl | rfl | rfl | rfl | rfl | rfl | rfl | rfl | rfl | rfl | rfl
  all_goals exact ⟨_, by decide, by decide, rfl⟩
set_option maxRecDepth 20000 in
set_option maxHeartbeats 1000000 in
theorem d_Wide {B g : Nat} {a : Option Addr} {len cap : Nat} {z : List Int} (w : World) (hc : Cur w B g a len cap z) :
    Calls Tryd.prog 33 #[.pointer (some ⟨g, 0, none⟩)] w (IntPost B g a len cap z .u64 0 18446744073709551615 w) := by
  go_enter Tryd.func33, Tryd.ntmps33
  go_wp2_with fail
  refine (d_Below _ hc 4 (by omega) (by omega)).mono ?_
  rintro e w1 ⟨x, hx0, hx1, rfl, hc1, hg1⟩
  rw [hiB_pos (by omega)] at hx1
  have hgl := hc1.lt
  rcases (show x = 0 ∨ x = 1 ∨ 2 ≤ x by omega) with rfl | rfl | hx2
  · go_wp2_with fail
    have X := Box.new w1 22 wideArr
    refine (d_Below _ (hc1.alloc _) 12 (by omega) (by omega)).mono ?_
    rintro e w2 ⟨y, hy0, hy1, rfl, hc2, hg2⟩
    rw [hiB_pos (by omega)] at hy1
    obtain ⟨m, rfl⟩ := Int.eq_ofNat_of_zero_le hy0
    obtain ⟨v, hv0, hv1, hv⟩ := wide_get m (by omega)
    have c1 := (X.grown hg2 (by simp; omega)).cell m hv
    have hy2 : (m : Int) < 12 := by omega
    go_wp2
    go_ret
    exact ⟨v, hv0, hv1, rfl, hc2, (grown_alloc hg1 _).trans hg2⟩
  · go_wp2_with fail
    go_loopw [3, 4] (fun u i wr => ∃ (v : Int) (n : Nat), n ≤ 8 ∧ 0 ≤ v ∧ v ≤ 18446744073709551615 ∧ u = .int .u64 v ∧ i = .int .i64 n ∧ Cur wr B g a len cap z ∧ w.grownBy wr (some g)) (fun _ i _ => 8 - (intOf i).toNat)
    case atStart => exact ⟨0, 0, Nat.zero_le _, by omega, by omega, rfl, rfl, hc1, hg1⟩
    case round =>
      obtain ⟨v, n, hn, hv0, hv1, rfl, rfl, hcr, hgr⟩ := hrel
      by_cases hlt : n < 8
      · go_wp2_with (go_at_call 42; refine (d_Byte _ hcr).mono ?_; rintro e w2 ⟨y, hy0, hy1, rfl, hc2, hg2⟩)
        go_roundw
        case rel => exact ⟨_, n + 1, by omega, by rw [IntKind.wrap_u64]; omega, by rw [IntKind.wrap_u64]; omega, rfl, by go_num, hc2, hgr.trans hg2⟩
        case measure => simp [intOf]; omega
      · go_wp2
        go_ret
        exact ⟨v, hv0, hv1, rfl, hcr, hgr⟩
  · have e0 : (x == 0) = false := by simp; omega
    have e1 : (x == 1) = false := by simp; omega
    go_wp2_with fail
    refine (d_Below _ hc1 300 (by omega) (by omega)).mono ?_
    rintro e w2 ⟨y, hy0, hy1, rfl, hc2, hg2⟩
    rw [hiB_pos (by omega)] at hy1
    go_wp2
    go_ret
    exact ⟨y, hy0, by omega, rfl, hc2, hg1.trans hg2⟩
/-- a row of new bytes -/
def RowPost (B g : Nat) (a : Option Addr) (len cap : Nat) (z : List Int) (n : Nat) (w : World) (e : Ending) (w' : World) : Prop :=
  ∃ (q c : Nat) (l : List Nat), e = .returned (.slice (some ⟨q, 0, none⟩) n c) ∧ l.length = n ∧ RowAt w' q c l ∧ (∀ b ∈ l, b < 256) ∧ w.heap.size ≤ q ∧ Cur w' B g a len cap z ∧ w.grownBy w' (some g)
set_option maxRecDepth 20000 in
set_option maxHeartbeats 1000000 in
theorem d_PickInt {B g : Nat} {a : Option Addr} {len cap : Nat} {z : List Int} (w : World) (hc : Cur w B g a len cap z) (q n : Nat) (hq : g < q) (hql : q < w.heap.size) (h1 : 1 ≤ n) (hn : n ≤ 1000) (lo hi : Int)
    (hv : ∀ j, j < n → ∃ x, lo ≤ x ∧ x ≤ hi ∧ w.cell? ⟨q, j, none⟩ = some (.int .i64 x)) :
    Calls Tryd.prog 41 #[.pointer (some ⟨g, 0, none⟩), .slice (some ⟨q, 0, none⟩) n n] w (IntPost B g a len cap z .i64 lo hi w) := by
  go_enter Tryd.func41, Tryd.ntmps41
  go_wp2_with fail
  refine (d_Below _ hc _ (by omega) (by omega)).mono ?_
  rintro e w1 ⟨x, hx0, hx1, rfl, hc1, hg1⟩
  rw [hiB_pos (by omega)] at hx1
  obtain ⟨m, rfl⟩ := Int.eq_ofNat_of_zero_le hx0
  obtain ⟨v, hv0, hv1, hv2⟩ := hv m (by omega)
  have c1 := hg1.cell hv2 (by simp; omega)
  have hm : (m : Int) < (n : Int) := by omega
  have HV := Lib.hid hv
  clear hv hv2
  go_wp2
  go_ret
  exact ⟨v, hv0, hv1, rfl, hc1, hg1⟩
/-- a string of at most N bytes -/
def StrPost (B g : Nat) (a : Option Addr) (len cap : Nat) (z : List Int) (N : Nat) (w : World) (e : Ending) (w' : World) : Prop :=
  ∃ s : ByteArray, s.size ≤ N ∧ e = .returned (.string s) ∧ Cur w' B g a len cap z ∧ w.grownBy w' (some g)
end Go.Proofs.YtecmeomcgnjapaaDoor
