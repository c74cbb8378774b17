/- The walks of FnNumbers and FnTag. Conditions: the code's bytes can be read. -/
import Derived.Test.YtigmncilanejlaaLawX1
namespace Go.Proofs.Ytigmncilanejlaa
open Go.RowKit
set_option linter.unusedVariables false
set_option linter.unusedSimpArgs false
def DInt2 (k l : IntKind) (lo hi lo2 hi2 : Int) (w : World) (e : Ending) (w' : World) : Prop := ∃ x y : Int, lo ≤ x ∧ x ≤ hi ∧ lo2 ≤ y ∧ y ≤ hi2 ∧ e = .returned (.tuple #[.int k x, .int l y]) ∧ Below w.heap.size w w'
set_option maxHeartbeats 1000000 in
theorem d_l4Number {B g : Nat} {a : Option Addr} {len cap : Nat} {z : List Int} (w : World) (hc : Cur w B g a len cap z) :
    Calls Try.prog 29 #[.pointer (some ⟨g, 0, none⟩)] w (IntPost B g a len cap z .i64 (-9223372036854775808) 9223372036854775807 w) := by
  go_enter Try.func29, Try.ntmps29
  go_wp2_with fail
  refine (d_Once _ hc 4 (by omega) (by omega)).mono ?_
  rintro e w1 ⟨x, rfl, hc1, hg1⟩
  have hgl := hc1.lt
  cases x
  · go_wp2_with fail
    refine (d_Below _ hc1 20 (by omega) (by omega)).mono ?_
    rintro e w2 ⟨x, hx0, hx1, rfl, hc2, hg2⟩
    rw [hiB_pos (by omega)] at hx1
    go_wp2
    go_ret
    exact ⟨1 + x, by omega, by omega, rfl, hc2, hg1.trans hg2⟩
  · go_wp2_with fail
    refine (d_PickInt _ (hc1.alloc _) w1.heap.size 10 hc1.lt (by simp) (by omega) (by omega) (-9223372036854775808) 9223372036854775807 (fun j hj => by
      obtain ⟨v, ⟨x, h1, h2, rfl⟩, h3⟩ := pick_cells (P := fun v => ∃ x : Int, -9223372036854775808 ≤ x ∧ x ≤ 9223372036854775807 ∧ v = .int .i64 x) (w := w1) (t := 3) (cs := #[.int .i64 0, .int .i64 1, .int .i64 (-1), .int .i64 18999, .int .i64 19000, .int .i64 19999, .int .i64 20000, .int .i64 536870911, .int .i64 536870912, .int .i64 9223372036854775807]) (n := 10) (fun j hj => by
        rcases (show j = 0 ∨ j = 1 ∨ j = 2 ∨ j = 3 ∨ j = 4 ∨ j = 5 ∨ j = 6 ∨ j = 7 ∨ j = 8 ∨ j = 9 by omega) with rfl | rfl | rfl | rfl | rfl | rfl | rfl | rfl | rfl | rfl
        all_goals exact ⟨_, ⟨_, by omega, by omega, rfl⟩, rfl⟩) j hj
      exact ⟨x, h1, h2, h3⟩)).mono ?_
    rintro e w2 ⟨x, hx0, hx1, rfl, hc2, hg2⟩
    go_wp2
    go_ret
    exact ⟨x, hx0, hx1, rfl, hc2, (grown_alloc hg1 _).trans hg2⟩
theorem d_DrawNumberOk {a : Option Addr} {len cap : Nat} {z : List Int} (w : World) (hl : len ≤ 1048576) (hc : CodeAt w w.heap.size a len z) :
    Calls Try.prog 8 #[.slice a len cap] w (DInt .i64 (-9223372036854775808) 9223372036854775807 w) := by
  go_enter Try.func8, Try.ntmps8
  go_wp2_with fail
  refine (d_New w w.heap.size (Nat.le_refl _) hl hc).mono ?_
  rintro e w1 ⟨rfl, hc1, hb1⟩
  go_wp2_with fail
  refine (d_l4Number _ hc1).mono ?_
  rintro e w2 ⟨x, hx0, hx1, rfl, hc2, hg2⟩
  go_wp2
  go_ret
  exact ⟨x, hx0, hx1, rfl, hb1.trans (below_of_grown hg2 (Nat.le_refl _) hb1.size)⟩
theorem tagOf_bd (n k : Int) : 0 ≤ tagOf n k ∧ tagOf n k ≤ 18446744073709551615 := by unfold tagOf; split <;> omega
theorem CodeAt.later {w w' : World} {a : Option Addr} {len : Nat} {z : List Int} (h : CodeAt w w.heap.size a len z) (hb : Below w.heap.size w w') : CodeAt w' w'.heap.size a len z := by
  intro hl
  obtain ⟨b, off, e, hB, hc⟩ := (h.keep (fun k hk => hb.block k hk)) hl
  exact ⟨b, off, e, Nat.lt_of_lt_of_le hB hb.size, hc⟩
theorem tagOf_in {n k : Int} (h1 : 1 ≤ n) (h2 : n ≤ 536870911) (h3 : 0 ≤ k) (h4 : k ≤ 7) : tagOf n k = 8 * n + k ∧ tagOk (8 * n + k) = true ∧ tagNum (8 * n + k) = n ∧ tagWire (8 * n + k) = k := by
  obtain ⟨e1, e2, e3⟩ := tag_yes (u := 8 * n + k) (by omega) (by omega)
  exact ⟨by unfold tagOf; rw [if_pos ⟨h1, h2, h3, h4⟩], e1, by rw [e2]; omega, by rw [e3]; omega⟩
end Go.Proofs.Ytigmncilanejlaa
