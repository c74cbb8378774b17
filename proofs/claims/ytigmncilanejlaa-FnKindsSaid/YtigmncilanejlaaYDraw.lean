/- The draws of the laws on fixed widths and kinds. Conditions: the bytes drawn from can be read; at most 2^20 of them. -/
import Derived.Test.YtigmncilanejlaaLawX2
import Derived.Test.YtigmncilanejlaaFixB
namespace Go.Proofs.Ytigmncilanejlaa
open Go.RowKit Plain
set_option linter.unusedVariables false
set_option linter.unusedSimpArgs false
/-- a row of numbers in a range, laid as a literal -/
theorem pick_ints (w : World) (t : TypeId) (xs : List Int) (lo hi : Int) (h : ∀ x ∈ xs, lo ≤ x ∧ x ≤ hi) :
    ∀ j, j < xs.length → ∃ x : Int, lo ≤ x ∧ x ≤ hi ∧ (w.alloc (.cells (xs.map fun x => Value.int .i64 x).toArray t)).cell? ⟨w.heap.size, j, none⟩ = some (.int .i64 x) := fun j hj =>
  ⟨xs[j], (h _ (List.getElem_mem hj)).1, (h _ (List.getElem_mem hj)).2, (World.cell?_alloc_mark w _ t (0, 0) j).trans (by simp [hj])⟩
theorem d_l3Width {B g : Nat} {a : Option Addr} {len cap : Nat} {z : List Int} (w : World) (hc : Cur w B g a len cap z) :
    Calls Try.prog 36 #[.pointer (some ⟨g, 0, none⟩)] w (IntPost B g a len cap z .i64 (-1) 9 w) := by
  go_enter Try.func36, Try.ntmps36
  go_wp2_with fail
  refine (d_PickInt _ (hc.alloc _) w.heap.size 10 hc.lt (by simp) (by omega) (by omega) (-1) 9 (pick_ints w 3 [4, 8, 4, 8, 4, 8, 0, 5, -1, 9] (-1) 9 (by decide))).mono ?_
  rintro e w2 ⟨x, hx0, hx1, rfl, hc2, hg2⟩
  go_wp2
  go_ret
  exact ⟨x, hx0, hx1, rfl, hc2, (grown_alloc (grown_refl w _) _).trans hg2⟩
theorem d_DrawPutFix {a : Option Addr} {len cap : Nat} {z : List Int} (w : World) (hl : len ≤ 1048576) (hc : CodeAt w w.heap.size a len z) :
    Calls Try.prog 19 #[.slice a len cap] w (DInt2 .u64 .i64 0 18446744073709551615 (-1) 9 w) := by
  go_enter Try.func19, Try.ntmps19
  go_wp2_with fail
  refine (d_New w w.heap.size (Nat.le_refl _) hl hc).mono ?_
  rintro e w1 ⟨rfl, hc1, hb1⟩
  go_wp2_with fail
  refine (d_Wide _ hc1).mono ?_
  rintro e w2 ⟨x, hx0, hx1, rfl, hc2, hg2⟩
  go_wp2_with fail
  refine (d_l3Width _ hc2).mono ?_
  rintro e w3 ⟨y, hy0, hy1, rfl, hc3, hg3⟩
  go_wp2
  go_ret2
  exact ⟨x, y, hx0, hx1, hy0, hy1, rfl, hb1.trans (below_of_grown (hg2.trans hg3) (Nat.le_refl _) hb1.size)⟩
theorem d_DrawBitsFit {a : Option Addr} {len cap : Nat} {z : List Int} (w : World) (hl : len ≤ 1048576) (hc : CodeAt w w.heap.size a len z) :
    Calls Try.prog 22 #[.slice a len cap] w (DInt2 .i64 .u64 (-1) 9 0 18446744073709551615 w) := by
  go_enter Try.func22, Try.ntmps22
  go_wp2_with fail
  refine (d_New w w.heap.size (Nat.le_refl _) hl hc).mono ?_
  rintro e w1 ⟨rfl, hc1, hb1⟩
  go_wp2_with fail
  refine (d_Below _ hc1 11 (by omega) (by omega)).mono ?_
  rintro e w2 ⟨x, hx0, hx1, rfl, hc2, hg2⟩
  rw [hiB_pos (by omega)] at hx1
  go_wp2_with fail
  refine (d_Wide _ hc2).mono ?_
  rintro e w3 ⟨y, hy0, hy1, rfl, hc3, hg3⟩
  go_wp2
  go_ret2
  exact ⟨x - 1, y, by omega, by omega, hy0, hy1, rfl, hb1.trans (below_of_grown (hg2.trans hg3) (Nat.le_refl _) hb1.size)⟩
/-- a drawn string and two drawn whole numbers -/
def DStrInt2 (N : Nat) (w : World) (e : Ending) (w' : World) : Prop := ∃ (s : ByteArray) (x y : Int), s.size ≤ N ∧ -9223372036854775808 ≤ x ∧ x ≤ 9223372036854775807 ∧ -1 ≤ y ∧ y ≤ 9 ∧ e = .returned (.tuple #[.string s, .int .i64 x, .int .i64 y]) ∧ Below w.heap.size w w'
set_option maxHeartbeats 1000000 in
theorem d_DrawGetFix {a : Option Addr} {len cap : Nat} {z : List Int} (w : World) (hl : len ≤ 1048576) (hc : CodeAt w w.heap.size a len z) :
    Calls Try.prog 15 #[.slice a len cap] w (DStrInt2 13 w) := by
  go_enter Try.func15, Try.ntmps15
  go_wp2_with fail
  refine (d_New w w.heap.size (Nat.le_refl _) hl hc).mono ?_
  rintro e w1 ⟨rfl, hc1, hb1⟩
  have hgl := hc1.lt
  go_wp2_with fail
  refine (d_Below _ hc1 14 (by omega) (by omega)).mono ?_
  rintro e w2 ⟨y, hy0, hy1, rfl, hc2, hg2⟩
  rw [hiB_pos (by omega)] at hy1
  go_wp2_with fail
  refine (d_Bytes _ hc2 y hy0 (by omega)).mono ?_
  rintro e w3 ⟨q, c, l, rfl, hll, hrow, h256, hq, hc3, hg3⟩
  have hcv := run_string_of_row' u8d hrow y.toNat hll
  have hz0 : (bs l).size ≤ 13 := by rw [bs_size]; omega
  generalize bs l = s0 at hcv hz0
  have hG3 := hg2.trans hg3
  clear hll h256 hrow
  go_wp2_with fail
  refine (d_PickInt _ (hc3.alloc _) w3.heap.size 10 hc3.lt (by simp) (by omega) (by omega) (-9223372036854775808) 9223372036854775807 (pick_ints w3 3 [0, 1, 2, 5, (s0.size : Int) - 4, (s0.size : Int) - 8, s0.size, -1, 9223372036854775807, -9223372036854775808] (-9223372036854775808) 9223372036854775807 (by
      intro x hx
      simp only [List.mem_cons, List.not_mem_nil, or_false] at hx
      rcases hx with rfl | rfl | rfl | rfl | rfl | rfl | rfl | rfl | rfl | rfl <;> omega))).mono ?_
  rintro e w4 ⟨x, hx0, hx1, rfl, hc4, hg4⟩
  go_wp2_with fail
  refine (d_l3Width _ hc4).mono ?_
  rintro e w5 ⟨v, hv0, hv1, rfl, hc5, hg5⟩
  go_wp2
  go_ret3
  exact ⟨s0, x, v, hz0, hx0, hx1, hv0, hv1, rfl, hb1.trans (below_of_grown (((grown_alloc hG3 _).trans hg4).trans hg5) (Nat.le_refl _) hb1.size)⟩
end Go.Proofs.Ytigmncilanejlaa
