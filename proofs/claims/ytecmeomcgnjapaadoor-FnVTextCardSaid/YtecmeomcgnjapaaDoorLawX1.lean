/- The walk of FnZig. Conditions: the code's bytes can be read. -/
import Derived.Test.YtecmeomcgnjapaaDoorDrawB
import Derived.Test.YtecmeomcgnjapaaDoorNum
namespace Go.Proofs.YtecmeomcgnjapaaDoor
open Go.RowKit
set_option linter.unusedVariables false
set_option linter.unusedSimpArgs false
theorem code_of_row {w : World} {a : Option Addr} {len cap : Nat} {z : List Int} (h : IsRow .u8 w a len cap z) : CodeAt w w.heap.size a len z := by
  intro hl
  rcases h with ⟨_, h0, _⟩ | ⟨x, rfl, hle, _, hz, hc, _⟩
  · omega
  · obtain ⟨b, off, spot⟩ := x
    have h0 := hc 0 (by omega)
    have hspot : spot = none := by simpa [Addr.add] using World.cell?_spot h0
    subst hspot
    have hadd : ∀ i, (⟨b, off, none⟩ : Addr).add i = ⟨b, off + i, none⟩ := fun i => by unfold Addr.add; split <;> simp_all
    refine ⟨b, off, rfl, ?_, fun i hi => by rw [← hadd]; exact hc i (by omega)⟩
    rw [hadd] at h0
    rcases Nat.lt_or_ge b w.heap.size with h | h
    · exact h
    · simp [World.cell?, Array.getElem?_eq_none h] at h0
/-- a drawn whole number -/
def DInt (k : IntKind) (lo hi : Int) (w : World) (e : Ending) (w' : World) : Prop := ∃ x : Int, lo ≤ x ∧ x ≤ hi ∧ e = .returned (.int k x) ∧ Below w.heap.size w w'
theorem c_big (a : Option Addr) (len cap : Nat) (w : World) : Calls Tryd.prog 18 #[.slice a len cap] w fun e w' => e = .returned (.bool (decide (1048576 < len))) ∧ w = w' := by
  rcases h : decide (1048576 < len) with _ | _
  · have h1 : ¬ (1048576 : Int) < (len : Int) := by simp at h; omega
    go_enter Tryd.func18, Tryd.ntmps18
    go_wp2
    go_ret
    exact ⟨rfl, rfl⟩
  · have h1 : (1048576 : Int) < (len : Int) := by simp at h; omega
    go_enter Tryd.func18, Tryd.ntmps18
    go_wp2
    go_ret
    exact ⟨rfl, rfl⟩
theorem pick_cells {w : World} {t : TypeId} {cs : Array Value} {n : Nat} {P : Value → Prop} (h : ∀ j, j < n → ∃ v, P v ∧ cs[j]? = some v) :
    ∀ j, j < n → ∃ v, P v ∧ (w.alloc (.cells cs t)).cell? ⟨w.heap.size, j, none⟩ = some v := fun j hj => by
  obtain ⟨v, h1, h2⟩ := h j hj
  exact ⟨v, h1, (World.cell?_alloc_mark w cs t (0, 0) j).trans h2⟩
set_option maxHeartbeats 1000000 in
theorem d_l1Whole {B g : Nat} {a : Option Addr} {len cap : Nat} {z : List Int} (w : World) (hc : Cur w B g a len cap z) :
    Calls Tryd.prog 31 #[.pointer (some ⟨g, 0, none⟩)] w (IntPost B g a len cap z .i64 (-9223372036854775808) 9223372036854775807 w) := by
  go_enter Tryd.func31, Tryd.ntmps31
  go_wp2_with fail
  refine (d_Below _ hc 3 (by omega) (by omega)).mono ?_
  rintro e w1 ⟨v, hv0, hv1, rfl, hc1, hg1⟩
  have hgl := hc1.lt
  rw [hiB_pos (by omega)] at hv1
  rcases (show v = 0 ∨ v = 1 ∨ v = 2 by omega) with rfl | rfl | rfl
  · go_wp2_with fail
    refine (d_PickInt _ (hc1.alloc _) w1.heap.size 11 hc1.lt (by simp) (by omega) (by omega) (-9223372036854775808) 9223372036854775807 (fun j hj => by
      obtain ⟨v, ⟨x, h1, h2, rfl⟩, h3⟩ := pick_cells (P := fun v => ∃ x : Int, -9223372036854775808 ≤ x ∧ x ≤ 9223372036854775807 ∧ v = .int .i64 x) (w := w1) (t := 3) (cs := #[.int .i64 0, .int .i64 1, .int .i64 (-1), .int .i64 9, .int .i64 10, .int .i64 127, .int .i64 128, .int .i64 999999999, .int .i64 1000000000, .int .i64 9223372036854775807, .int .i64 (-9223372036854775808)]) (n := 11) (fun j hj => by
        rcases (show j = 0 ∨ j = 1 ∨ j = 2 ∨ j = 3 ∨ j = 4 ∨ j = 5 ∨ j = 6 ∨ j = 7 ∨ j = 8 ∨ j = 9 ∨ j = 10 by omega) with rfl | rfl | rfl | rfl | rfl | rfl | rfl | rfl | rfl | rfl | rfl
        all_goals exact ⟨_, ⟨_, by omega, by omega, rfl⟩, rfl⟩) j hj
      exact ⟨x, h1, h2, h3⟩)).mono ?_
    rintro e w2 ⟨x, hx0, hx1, rfl, hc2, hg2⟩
    go_wp2
    go_ret
    exact ⟨x, hx0, hx1, rfl, hc2, (grown_alloc hg1 _).trans hg2⟩
  · go_wp2_with fail
    refine (d_Below _ hc1 1000000 (by omega) (by omega)).mono ?_
    rintro e w2 ⟨x, hx0, hx1, rfl, hc2, hg2⟩
    rw [hiB_pos (by omega)] at hx1
    go_wp2
    go_ret
    exact ⟨x - 500000, by omega, by omega, rfl, hc2, hg1.trans hg2⟩
  · go_wp2_with fail
    refine (d_Below _ hc1 20 (by omega) (by omega)).mono ?_
    rintro e w2 ⟨x, hx0, hx1, rfl, hc2, hg2⟩
    rw [hiB_pos (by omega)] at hx1
    go_wp2
    go_ret
    exact ⟨x, by omega, by omega, rfl, hc2, hg1.trans hg2⟩
end Go.Proofs.YtecmeomcgnjapaaDoor
