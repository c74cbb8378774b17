/- The draws of the varint and scan laws. Conditions: the bytes drawn from can be read; at most 2^20 of them. -/
import Derived.Test.YtojhbhhlbgkeoaaDrawB
import Derived.Test.YtojhbhhlbgkeoaaVarD
import Derived.Test.YtojhbhhlbgkeoaaScanC
import Derived.Test.YtojhbhhlbgkeoaaScanT
import Derived.Deep.RegionWith
namespace Go.Proofs.Ytojhbhhlbgkeoaa
open Go.RowKit Plain
set_option linter.unusedVariables false
set_option linter.unusedSimpArgs false
theorem code_of_row {w : World} {a : Option Addr} {len cap : Nat} {z : List Int} (h : IsRow .u8 w a len cap z) : CodeAt w w.heap.size a len z := by
  intro hl
  rcases h with ⟨_, h0, _⟩ | ⟨x, rfl, hle, _, hz, hc, _⟩
  · omega
  · obtain ⟨b, off, spot⟩ := x
    have h0 := hc 0 (by omega)
    have hspot : spot = none := by simpa [Addr.add] using World.cell?_spot h0
    subst hspot
    have hadd : ∀ i, (⟨b, off, none⟩ : Addr).add i = ⟨b, off + i, none⟩ := fun i => by unfold Addr.add; split <;> simp_all
    refine ⟨b, off, rfl, ?_, fun i hi => by rw [← hadd]; exact hc i (by omega)⟩
    rw [hadd] at h0
    rcases Nat.lt_or_ge b w.heap.size with h | h
    · exact h
    · simp [World.cell?, Array.getElem?_eq_none h] at h0
/-- a drawn whole number -/
def DInt (k : IntKind) (lo hi : Int) (w : World) (e : Ending) (w' : World) : Prop := ∃ x : Int, lo ≤ x ∧ x ≤ hi ∧ e = .returned (.int k x) ∧ Below w.heap.size w w'
theorem d_DrawPutVar {a : Option Addr} {len cap : Nat} {z : List Int} (w : World) (hl : len ≤ 1048576) (hc : CodeAt w w.heap.size a len z) :
    Calls Try.prog 27 #[.slice a len cap] w (DInt .u64 0 18446744073709551615 w) := by
  go_enter Try.func27, Try.ntmps27
  go_wp2_with fail
  refine (d_New w w.heap.size (Nat.le_refl _) hl hc).mono ?_
  rintro e w1 ⟨rfl, hc1, hb1⟩
  go_wp2_with fail
  refine (d_Wide _ hc1).mono ?_
  rintro e w2 ⟨x, hx0, hx1, rfl, hc2, hg2⟩
  go_wp2
  go_ret
  exact ⟨x, hx0, hx1, rfl, hb1.trans (below_of_grown hg2 (Nat.le_refl _) hb1.size)⟩
/-- two drawn whole numbers -/
def DInt2 (k1 k2 : IntKind) (lo1 hi1 lo2 hi2 : Int) (w : World) (e : Ending) (w' : World) : Prop := ∃ x y : Int, lo1 ≤ x ∧ x ≤ hi1 ∧ lo2 ≤ y ∧ y ≤ hi2 ∧ e = .returned (.tuple #[.int k1 x, .int k2 y]) ∧ Below w.heap.size w w'
theorem d_DrawPadVar {a : Option Addr} {len cap : Nat} {z : List Int} (w : World) (hl : len ≤ 1048576) (hc : CodeAt w w.heap.size a len z) :
    Calls Try.prog 30 #[.slice a len cap] w (DInt2 .u64 .i64 0 18446744073709551615 (-1) 11 w) := by
  go_enter Try.func30, Try.ntmps30
  go_wp2_with fail
  refine (d_New w w.heap.size (Nat.le_refl _) hl hc).mono ?_
  rintro e w1 ⟨rfl, hc1, hb1⟩
  go_wp2_with fail
  refine (d_Wide _ hc1).mono ?_
  rintro e w2 ⟨x, hx0, hx1, rfl, hc2, hg2⟩
  go_wp2_with fail
  refine (d_Below _ hc2 13 (by omega) (by omega)).mono ?_
  rintro e w3 ⟨y, hy0, hy1, rfl, hc3, hg3⟩
  rw [hiB_pos (by omega)] at hy1
  go_wp2
  go_ret2
  exact ⟨x, y - 1, hx0, hx1, by omega, by omega, rfl, hb1.trans (below_of_grown (hg2.trans hg3) (Nat.le_refl _) hb1.size)⟩
theorem padVar_le (u : Nat) (k : Int) : (padVar u k).length ≤ 10 := by
  unfold padVar; split
  · rw [pad_length]; omega
  · simp
theorem pick_cells {w : World} {t : TypeId} {cs : Array Value} {n : Nat} {P : Value → Prop} (h : ∀ j, j < n → ∃ v, P v ∧ cs[j]? = some v) :
    ∀ j, j < n → ∃ v, P v ∧ (w.alloc (.cells cs t)).cell? ⟨w.heap.size, j, none⟩ = some v := fun j hj => by
  obtain ⟨v, h1, h2⟩ := h j hj
  exact ⟨v, h1, (World.cell?_alloc_mark w cs t (0, 0) j).trans h2⟩
set_option maxHeartbeats 1000000 in
theorem d_l2Var {B g : Nat} {a : Option Addr} {len cap : Nat} {z : List Int} (w : World) (hc : Cur w B g a len cap z) (u : Int) (h0 : 0 ≤ u) (h1 : u ≤ 18446744073709551615) :
    Calls Try.prog 45 #[.pointer (some ⟨g, 0, none⟩), .int .u64 u] w (StrPost B g a len cap z 10 w) := by
  go_enter Try.func45, Try.ntmps45
  go_wp2_with fail
  refine (d_Once _ hc 4 (by omega) (by omega)).mono ?_
  rintro e w1 ⟨x, rfl, hc1, hg1⟩
  cases x
  · go_wp2_with fail
    refine (cP_PutVar _ _ h0 h1).mono ?_
    rintro e w2 ⟨rfl, hb2⟩
    go_wp2
    go_ret
    exact ⟨_, by rw [bs_size]; exact vlen_le _, rfl, hc1.below hb2, hg1.trans (grown_of_below hb2 _)⟩
  · go_wp2_with fail
    refine (cP_VarLen _ _ h0 h1).mono ?_
    rintro e w2 ⟨rfl, hb2⟩
    go_wp2_with fail
    have hc2 := hc1.below hb2
    have hg2 := hg1.trans (grown_of_below hb2 (some g))
    refine (d_Below _ hc2 3 (by omega) (by omega)).mono ?_
    rintro e w3 ⟨y, hy0, hy1, rfl, hc3, hg3⟩
    go_wp2_with fail
    refine (cP_PadVar _ _ _ h0 h1).mono ?_
    rintro e w4 ⟨rfl, hb4⟩
    have hc4 := hc3.below hb4
    have hg4 := (hg2.trans hg3).trans (grown_of_below hb4 (some g))
    go_wp2_with (go_at_call 14; refine (cP_PutVar _ _ h0 h1).mono ?_; rintro e w5 ⟨rfl, hb5⟩)
    · go_ret
      exact ⟨_, by rw [bs_size]; exact padVar_le _ _, rfl, hc4, hg4⟩
    · go_ret
      exact ⟨_, by rw [bs_size]; exact vlen_le _, rfl, hc4.below hb5, hg4.trans (grown_of_below hb5 _)⟩
theorem d_l3Byte {B g : Nat} {a : Option Addr} {len cap : Nat} {z : List Int} (w : World) (hc : Cur w B g a len cap z) :
    Calls Try.prog 43 #[.pointer (some ⟨g, 0, none⟩)] w (IntPost B g a len cap z .i64 (-9223372036854775808) 9223372036854775807 w) := by
  go_enter Try.func43, Try.ntmps43
  go_wp2_with fail
  refine (d_Once _ hc 12 (by omega) (by omega)).mono ?_
  rintro e w1 ⟨x, rfl, hc1, hg1⟩
  have hgl := hc1.lt
  cases x
  · go_wp2_with fail
    refine (d_Below _ hc1 256 (by omega) (by omega)).mono ?_
    rintro e w2 ⟨y, hy0, hy1, rfl, hc2, hg2⟩
    rw [hiB_pos (by omega)] at hy1
    go_wp2_with fail
    refine (d_PickInt _ (hc2.alloc _) w2.heap.size 8 hc2.lt (by simp) (by omega) (by omega) (-9223372036854775808) 9223372036854775807 (fun j hj => by
      obtain ⟨v, ⟨x, h1, h2, rfl⟩, h3⟩ := pick_cells (P := fun v => ∃ x : Int, -9223372036854775808 ≤ x ∧ x ≤ 9223372036854775807 ∧ v = .int .i64 x) (w := w2) (t := 3) (cs := #[.int .i64 0, .int .i64 1, .int .i64 2, .int .i64 127, .int .i64 128, .int .i64 129, .int .i64 255, .int .i64 y]) (n := 8) (fun j hj => by
        rcases (show j = 0 ∨ j = 1 ∨ j = 2 ∨ j = 3 ∨ j = 4 ∨ j = 5 ∨ j = 6 ∨ j = 7 by omega) with rfl | rfl | rfl | rfl | rfl | rfl | rfl | rfl
        all_goals exact ⟨_, ⟨_, by omega, by omega, rfl⟩, rfl⟩) j hj
      exact ⟨x, h1, h2, h3⟩)).mono ?_
    rintro e w3 ⟨x, hx0, hx1, rfl, hc3, hg3⟩
    go_wp2
    go_ret
    exact ⟨x, hx0, hx1, rfl, hc3, (grown_alloc (hg1.trans hg2) _).trans hg3⟩
  · go_wp2_with fail
    refine (d_PickInt _ (hc1.alloc _) w1.heap.size 4 hc1.lt (by simp) (by omega) (by omega) (-9223372036854775808) 9223372036854775807 (fun j hj => by
      obtain ⟨v, ⟨x, h1, h2, rfl⟩, h3⟩ := pick_cells (P := fun v => ∃ x : Int, -9223372036854775808 ≤ x ∧ x ≤ 9223372036854775807 ∧ v = .int .i64 x) (w := w1) (t := 3) (cs := #[.int .i64 (-1), .int .i64 256, .int .i64 9223372036854775807, .int .i64 (-9223372036854775808)]) (n := 4) (fun j hj => by
        rcases (show j = 0 ∨ j = 1 ∨ j = 2 ∨ j = 3 by omega) with rfl | rfl | rfl | rfl
        all_goals exact ⟨_, ⟨_, by omega, by omega, rfl⟩, rfl⟩) j hj
      exact ⟨x, h1, h2, h3⟩)).mono ?_
    rintro e w2 ⟨x, hx0, hx1, rfl, hc2, hg2⟩
    go_wp2
    go_ret
    exact ⟨x, hx0, hx1, rfl, hc2, (grown_alloc hg1 _).trans hg2⟩
theorem extract_le (s : ByteArray) (a b : Nat) : (s.extract a b).size ≤ s.size := by rw [ByteArray.size_extract]; omega
theorem size_cat9 (A s D : ByteArray) : (A ++ (⟨#[255, 255, 255, 255, 255, 255, 255, 255, 255]⟩ : ByteArray) ++ s ++ D).size ≤ A.size + 9 + s.size + D.size := by
  rw [ByteArray.size_append, ByteArray.size_append, ByteArray.size_append]
  have : (⟨#[255, 255, 255, 255, 255, 255, 255, 255, 255]⟩ : ByteArray).size = 9 := rfl
  omega
/-- a drawn string and a drawn whole number -/
def DStrInt (N : Nat) (w : World) (e : Ending) (w' : World) : Prop := ∃ (s : ByteArray) (y : Int), s.size ≤ N ∧ -9223372036854775808 ≤ y ∧ y ≤ 9223372036854775807 ∧ e = .returned (.tuple #[.string s, .int .i64 y]) ∧ Below w.heap.size w w'
set_option maxRecDepth 20000 in
set_option maxHeartbeats 2000000 in
theorem d_DrawGetVar {a : Option Addr} {len cap : Nat} {z : List Int} (w : World) (hl : len ≤ 1048576) (hc : CodeAt w w.heap.size a len z) :
    Calls Try.prog 34 #[.slice a len cap] w (DStrInt 1000 w) := by
  go_enter Try.func34, Try.ntmps34
  go_wp2_with fail
  refine (d_New w w.heap.size (Nat.le_refl _) hl hc).mono ?_
  rintro e w1 ⟨rfl, hc1, hb1⟩
  have hgl := hc1.lt
  go_wp2_with fail
  refine (d_Below _ hc1 3 (by omega) (by omega)).mono ?_
  rintro e w2 ⟨y, hy0, hy1, rfl, hc2, hg2⟩
  rw [hiB_pos (by omega)] at hy1
  go_wp2_with fail
  refine (d_Bytes _ hc2 y hy0 (by omega)).mono ?_
  rintro e w3 ⟨q, c, l, rfl, hll, hrow, h256, hq, hc3, hg3⟩
  have hcv := run_string_of_row' u8d hrow y.toNat hll
  have hz0 : (bs l).size ≤ 2 := by rw [bs_size]; omega
  generalize bs l = s0 at hcv hz0
  have hG3 := hg2.trans hg3
  clear hll h256 hrow
  go_wp2_with fail
  refine (d_Wide _ hc3).mono ?_
  rintro e w4 ⟨u, hu0, hu1, rfl, hc4, hg4⟩
  go_wp2_with fail
  refine (d_l2Var _ hc4 u hu0 hu1).mono ?_
  rintro e w5 ⟨s1, hs1, rfl, hc5, hg5⟩
  have hG5 := (hG3.trans hg4).trans hg5
  clear hu0 hu1 hcv
  go_wp2_with fail
  refine (d_Below _ hc5 2 (by omega) (by omega)).mono ?_
  rintro e w6 ⟨y2, hy20, hy21, rfl, hc6, hg6⟩
  rw [hiB_pos (by omega)] at hy21
  go_wp2_with fail
  refine (d_Bytes _ hc6 y2 hy20 (by omega)).mono ?_
  rintro e w7 ⟨q2, c2, l2, rfl, hll2, hrow2, h2562, hq2, hc7, hg7⟩
  have hcv2 := run_string_of_row' u8d hrow2 y2.toNat hll2
  have hz2 : (bs l2).size ≤ 1 := by rw [bs_size]; omega
  generalize bs l2 = s2 at hcv2 hz2
  have hG7 := (hG5.trans hg6).trans hg7
  clear hll2 h2562 hrow2
  go_wp2_with fail
  have hz3 : (s0 ++ s1 ++ s2).size ≤ 13 := by rw [ByteArray.size_append, ByteArray.size_append]; omega
  have hz4 : s0.size ≤ (s0 ++ s1 ++ s2).size := by rw [ByteArray.size_append, ByteArray.size_append]; omega
  generalize s0 ++ s1 ++ s2 = T at hz3 hz4 ⊢
  clear hcv2 hz2 hs1
  refine (d_Below _ hc7 6 (by omega) (by omega)).mono ?_
  rintro e w8 ⟨x, hx0, hx1, rfl, hc8, hg8⟩
  rw [hiB_pos (by omega)] at hx1
  have hG8 := hG7.trans hg8
  have hgl8 := hc8.lt
  have fin : ∀ w9 : World, w1.grownBy w9 (some w.heap.size) → Below w.heap.size w w9 := fun w9 h => hb1.trans (below_of_grown h (Nat.le_refl _) hb1.size)
  have FIN := Lib.hid fin
  clear fin
  rcases (show x = 0 ∨ x = 1 ∨ x = 2 ∨ 3 ≤ x by omega) with rfl | rfl | rfl | hx3
  · go_wp2_with fail
    refine (d_Below _ hc8 _ (by omega) (by omega)).mono ?_
    rintro e w9 ⟨y3, hy30, hy31, rfl, hc9, hg9⟩
    rw [hiB_pos (by omega)] at hy31
    obtain ⟨m3, rfl⟩ := Int.eq_ofNat_of_zero_le hy30
    go_wp2
    go_ret2
    exact ⟨_, _, Nat.le_trans (extract_le _ _ _) (by omega), by omega, by omega, rfl, FIN.out _ (hG8.trans hg9)⟩
  · go_wp2_with fail
    have HPICK := Lib.hid (d_Pick (w8.alloc (.cells #[.string ⟨#[1]⟩, .string ⟨#[2]⟩, .string ⟨#[129]⟩, .string ⟨#[0]⟩, .string ⟨#[]⟩] 9)).drew (hc8.alloc _).drew w8.heap.size 5 hc8.lt (by simp) (by omega) (by omega) 1 (fun j hj => by
      obtain ⟨v, ⟨x, h1, rfl⟩, h3⟩ := pick_cells (P := fun v => ∃ x : ByteArray, x.size ≤ 1 ∧ v = .string x) (w := w8) (t := 9) (cs := #[.string ⟨#[1]⟩, .string ⟨#[2]⟩, .string ⟨#[129]⟩, .string ⟨#[0]⟩, .string ⟨#[]⟩]) (n := 5) (fun j hj => by
        rcases (show j = 0 ∨ j = 1 ∨ j = 2 ∨ j = 3 ∨ j = 4 by omega) with rfl | rfl | rfl | rfl | rfl
        all_goals exact ⟨_, ⟨_, by decide, rfl⟩, rfl⟩) j hj
      exact ⟨x, h1, h3⟩))
    have hE := extract_le T 0 s0.size
    have hE2 := extract_le T s0.size T.size
    have hb0 : (0 : Int) ≤ (s0.size : Int) := by omega
    have hb1' : (s0.size : Int) ≤ (T.size : Int) := by omega
    go_region_with ((go_at_call 46; refine HPICK.out.mono ?_; rintro e w9 ⟨s4, hs4, rfl, hc9, hg9⟩))
    all_goals go_wp2
    all_goals go_ret2
    all_goals exact ⟨_, _, Nat.le_trans (size_cat9 _ _ _) (by omega), by omega, by omega, rfl, FIN.out _ ((grown_drew (grown_alloc hG8 _)).trans hg9)⟩
  · go_wp2_with fail
    refine (d_PickInt _ (hc8.alloc _) w8.heap.size 6 hc8.lt (by simp) (by omega) (by omega) (-9223372036854775808) 9223372036854775807 (fun j hj => by
      obtain ⟨v, ⟨x, h1, h2, rfl⟩, h3⟩ := pick_cells (P := fun v => ∃ x : Int, -9223372036854775808 ≤ x ∧ x ≤ 9223372036854775807 ∧ v = .int .i64 x) (w := w8) (t := 3) (cs := #[.int .i64 0, .int .i64 (-1), .int .i64 T.size, .int .i64 (T.size + 1), .int .i64 9223372036854775807, .int .i64 (-9223372036854775808)]) (n := 6) (fun j hj => by
        rcases (show j = 0 ∨ j = 1 ∨ j = 2 ∨ j = 3 ∨ j = 4 ∨ j = 5 by omega) with rfl | rfl | rfl | rfl | rfl | rfl
        all_goals exact ⟨_, ⟨_, by omega, by omega, rfl⟩, rfl⟩) j hj
      exact ⟨x, h1, h2, h3⟩)).mono ?_
    rintro e w9 ⟨y3, hy30, hy31, rfl, hc9, hg9⟩
    go_wp2
    go_ret2
    exact ⟨_, _, by omega, hy30, hy31, rfl, FIN.out _ ((grown_alloc hG8 _).trans hg9)⟩
  · have e0 : (x == 0) = false := by simp; omega
    have e1 : (x == 1) = false := by simp; omega
    have e2 : (x == 2) = false := by simp; omega
    go_wp2
    go_ret2
    exact ⟨_, _, by omega, by omega, by omega, rfl, FIN.out _ hG8⟩
end Go.Proofs.Ytojhbhhlbgkeoaa
