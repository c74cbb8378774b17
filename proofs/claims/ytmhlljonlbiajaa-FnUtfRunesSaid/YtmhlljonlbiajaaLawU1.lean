/- The draws of the laws on UTF-8. Conditions: the bytes drawn from can be read; at most 2^20 of them. -/
import Derived.Test.YtmhlljonlbiajaaDrawSU
import Derived.Test.YtmhlljonlbiajaaLawX1
import Derived.Test.YtmhlljonlbiajaaUtfV
namespace Go.Proofs.Ytmhlljonlbiajaa
open Go.RowKit Plain
set_option linter.unusedVariables false
set_option linter.unusedSimpArgs false
theorem pick_ints (w : World) (t : TypeId) (xs : List Int) (lo hi : Int) (h : ∀ x ∈ xs, lo ≤ x ∧ x ≤ hi) :
    ∀ j, j < xs.length → ∃ x : Int, lo ≤ x ∧ x ≤ hi ∧ (w.alloc (.cells (xs.map fun x => Value.int .i64 x).toArray t)).cell? ⟨w.heap.size, j, none⟩ = some (.int .i64 x) := fun j hj =>
  ⟨xs[j], (h _ (List.getElem_mem hj)).1, (h _ (List.getElem_mem hj)).2, (World.cell?_alloc_mark w _ t (0, 0) j).trans (by simp [hj])⟩
theorem pick_strs (w : World) (t : TypeId) (xs : List ByteArray) (N : Nat) (h : ∀ x ∈ xs, x.size ≤ N) :
    ∀ j, j < xs.length → ∃ x : ByteArray, x.size ≤ N ∧ (w.alloc (.cells (xs.map fun x => Value.string x).toArray t)).cell? ⟨w.heap.size, j, none⟩ = some (.string x) := fun j hj =>
  ⟨xs[j], h _ (List.getElem_mem hj), (World.cell?_alloc_mark w _ t (0, 0) j).trans (by simp [hj])⟩
theorem CodeAt.later {w w' : World} {a : Option Addr} {len : Nat} {z : List Int} (h : CodeAt w w.heap.size a len z) (hb : Below w.heap.size w w') : CodeAt w' w'.heap.size a len z := by
  intro hl
  obtain ⟨b, off, e, hB, hc⟩ := (h.keep (fun k hk => hb.block k hk)) hl
  exact ⟨b, off, e, Nat.lt_of_lt_of_le hB hb.size, hc⟩
theorem encR_le (n : Int) : (encR n).length ≤ 4 := by
  unfold encR
  repeat' split
  all_goals simp
theorem d_l5Rune {B g : Nat} {a : Option Addr} {len cap : Nat} {z : List Int} (w : World) (hc : Cur w B g a len cap z) :
    Calls Try.prog 39 #[.pointer (some ⟨g, 0, none⟩)] w (IntPost B g a len cap z .i64 0 1114111 w) := by
  go_enter Try.func39, Try.ntmps39
  go_wp2_with fail
  refine (d_Below _ hc 1114112 (by omega) (by omega)).mono ?_
  rintro e w1 ⟨x, hx0, hx1, rfl, hc1, hg1⟩
  rw [hiB_pos (by omega)] at hx1
  go_wp2_with fail
  refine (d_PickInt _ (hc1.alloc _) w1.heap.size 13 hc1.lt (by simp) (by omega) (by omega) 0 1114111 (pick_ints w1 3 [0, 65, 127, 128, 2047, 2048, 4095, 55295, 57344, 65535, 65536, 1114111, x] 0 1114111 (by
    intro y hy
    simp only [List.mem_cons, List.not_mem_nil, or_false] at hy
    rcases hy with rfl | rfl | rfl | rfl | rfl | rfl | rfl | rfl | rfl | rfl | rfl | rfl | rfl <;> omega))).mono ?_
  rintro e w2 ⟨y, hy0, hy1, rfl, hc2, hg2⟩
  go_wp2
  go_ret
  exact ⟨y, hy0, hy1, rfl, hc2, (grown_alloc hg1 _).trans hg2⟩
set_option maxHeartbeats 1000000 in
theorem d_l5Text {B g : Nat} {a : Option Addr} {len cap : Nat} {z : List Int} (w : World) (hc : Cur w B g a len cap z) (n : Int) (hn0 : 0 ≤ n) (hn : n ≤ 3) :
    Calls Try.prog 44 #[.pointer (some ⟨g, 0, none⟩), .int .i64 n] w (StrPost B g a len cap z 12 w) := by
  obtain ⟨m, rfl⟩ := Int.eq_ofNat_of_zero_le hn0
  go_enter Try.func44, Try.ntmps44
  go_wp2_with fail
  go_loopw [5, 6] (fun o i wr => ∃ (k : Nat) (s : ByteArray), k ≤ m ∧ s.size ≤ 4 * k ∧ o = .string s ∧ i = .int .i64 k ∧ Cur wr B g a len cap z ∧ w.grownBy wr (some g)) (fun _ i _ => m - (intOf i).toNat)
  case atStart => exact ⟨0, ⟨#[]⟩, Nat.zero_le _, Nat.le_refl _, rfl, rfl, hc, grown_refl _ _⟩
  case round =>
    obtain ⟨k, s, hk, hs, rfl, rfl, hcr, hgr⟩ := hrel
    by_cases hlt : k < m
    · go_wp2_with fail
      refine (d_l5Rune _ hcr).mono ?_
      rintro e w2 ⟨x, hx0, hx1, rfl, hc2, hg2⟩
      have hR := fun w => cP_RuneText x w (by omega) (by omega)
      have hz : (bs (encR x)).size ≤ 4 := by rw [bs_size]; exact encR_le x
      generalize bs (encR x) = t at hR hz
      go_wp2_with fail
      refine (hR _).mono ?_
      rintro e w3 ⟨rfl, hb3⟩
      go_wp2
      go_roundw
      case rel => exact ⟨k + 1, _, by omega, by rw [ByteArray.size_append]; omega, rfl, by go_num, hc2.below hb3, (hgr.trans hg2).trans (grown_of_below hb3 _)⟩
      case measure => simp [intOf]; omega
    · go_wp2
      go_ret
      exact ⟨s, by omega, rfl, hcr, hgr⟩
set_option maxHeartbeats 1000000 in
theorem d_l5Bent {B g : Nat} {a : Option Addr} {len cap : Nat} {z : List Int} (w : World) (hc : Cur w B g a len cap z) :
    Calls Try.prog 42 #[.pointer (some ⟨g, 0, none⟩)] w (StrPost B g a len cap z 16 w) := by
  go_enter Try.func42, Try.ntmps42
  go_wp2_with fail
  refine (d_Below _ hc 4 (by omega) (by omega)).mono ?_
  rintro e w1 ⟨y, hy0, hy1, rfl, hc1, hg1⟩
  rw [hiB_pos (by omega)] at hy1
  go_wp2_with fail
  refine (d_l5Text _ hc1 y hy0 (by omega)).mono ?_
  rintro e w2 ⟨s, hs, rfl, hc2, hg2⟩
  have hG2 := hg1.trans hg2
  go_wp2_with fail
  refine (d_Below _ hc2 4 (by omega) (by omega)).mono ?_
  rintro e w3 ⟨x, hx0, hx1, rfl, hc3, hg3⟩
  rw [hiB_pos (by omega)] at hx1
  have hG3 := hG2.trans hg3
  have hgl3 := hc3.lt
  rcases (show x = 0 ∨ x = 1 ∨ x = 2 ∨ x = 3 by omega) with rfl | rfl | rfl | rfl
  · go_wp2_with fail
    refine (d_Spoil _ hc3 s 16 (by omega) (by omega) (by omega)).mono ?_
    rintro e w4 ⟨r, hr, rfl, hc4, hg4⟩
    go_wp2
    go_ret
    exact ⟨r, hr, rfl, hc4, hG3.trans hg4⟩
  · go_wp2_with fail
    refine (d_Below _ hc3 _ (by omega) (by omega)).mono ?_
    rintro e w4 ⟨v, hv0, hv1, rfl, hc4, hg4⟩
    rw [hiB_pos (by omega)] at hv1
    have hv2 : v ≤ (s.size : Int) := by omega
    go_wp2
    go_ret
    exact ⟨_, by rw [ByteArray.size_extract]; omega, rfl, hc4, hG3.trans hg4⟩
  · go_wp2_with fail
    refine (d_Pick _ (hc3.alloc _) w3.heap.size 10 hc3.lt (by simp) (by omega) (by omega) 4 (pick_strs w3 9 [⟨#[128]⟩, ⟨#[192, 128]⟩, ⟨#[224, 159, 191]⟩, ⟨#[237, 160, 128]⟩, ⟨#[240, 143, 191, 191]⟩, ⟨#[244, 144, 128, 128]⟩, ⟨#[245]⟩, ⟨#[255]⟩, ⟨#[226, 130]⟩, ⟨#[193, 191]⟩] 4 (by decide))).mono ?_
    rintro e w4 ⟨r, hr, rfl, hc4, hg4⟩
    go_wp2
    go_ret
    exact ⟨_, by rw [ByteArray.size_append]; omega, rfl, hc4, (grown_alloc hG3 _).trans hg4⟩
  · go_wp2
    go_ret
    exact ⟨s, by omega, rfl, hc3, hG3⟩
/-- a drawn string -/
def DStr (N : Nat) (w : World) (e : Ending) (w' : World) : Prop := ∃ s : ByteArray, s.size ≤ N ∧ e = .returned (.string s) ∧ Below w.heap.size w w'
theorem d_DrawUtfGood {a : Option Addr} {len cap : Nat} {z : List Int} (w : World) (hl : len ≤ 1048576) (hc : CodeAt w w.heap.size a len z) :
    Calls Try.prog 30 #[.slice a len cap] w (DStr 16 w) := by
  go_enter Try.func30, Try.ntmps30
  go_wp2_with fail
  refine (d_New w w.heap.size (Nat.le_refl _) hl hc).mono ?_
  rintro e w1 ⟨rfl, hc1, hb1⟩
  go_wp2_with fail
  refine (d_l5Bent _ hc1).mono ?_
  rintro e w2 ⟨s, hs, rfl, hc2, hg2⟩
  go_wp2
  go_ret
  exact ⟨s, hs, rfl, hb1.trans (below_of_grown hg2 (Nat.le_refl _) hb1.size)⟩
theorem d_DrawRuneText {a : Option Addr} {len cap : Nat} {z : List Int} (w : World) (hl : len ≤ 1048576) (hc : CodeAt w w.heap.size a len z) :
    Calls Try.prog 22 #[.slice a len cap] w (DInt .i64 (-9223372036854775808) 9223372036854775807 w) := by
  go_enter Try.func22, Try.ntmps22
  go_wp2_with fail
  refine (d_New w w.heap.size (Nat.le_refl _) hl hc).mono ?_
  rintro e w1 ⟨rfl, hc1, hb1⟩
  have hgl := hc1.lt
  have FIN := Lib.hid (fun (w9 : World) (h : w1.grownBy w9 (some w.heap.size)) => hb1.trans (below_of_grown h (Nat.le_refl _) hb1.size))
  go_wp2_with fail
  refine (d_Once _ hc1 4 (by omega) (by omega)).mono ?_
  rintro e w2 ⟨x, rfl, hc2, hg2⟩
  have hgl2 := hc2.lt
  cases x
  · go_wp2_with fail
    refine (d_l5Rune _ hc2).mono ?_
    rintro e w3 ⟨y, hy0, hy1, rfl, hc3, hg3⟩
    go_wp2
    go_ret
    exact ⟨y, by omega, by omega, rfl, FIN.out _ (hg2.trans hg3)⟩
  · go_wp2_with fail
    refine (d_PickInt _ (hc2.alloc _) w2.heap.size 6 hc2.lt (by simp) (by omega) (by omega) (-9223372036854775808) 9223372036854775807 (pick_ints w2 3 [-1, 55296, 57343, 1114112, 9223372036854775807, -9223372036854775808] (-9223372036854775808) 9223372036854775807 (by decide))).mono ?_
    rintro e w3 ⟨y, hy0, hy1, rfl, hc3, hg3⟩
    go_wp2
    go_ret
    exact ⟨y, hy0, hy1, rfl, FIN.out _ ((grown_alloc hg2 _).trans hg3)⟩
end Go.Proofs.Ytmhlljonlbiajaa
