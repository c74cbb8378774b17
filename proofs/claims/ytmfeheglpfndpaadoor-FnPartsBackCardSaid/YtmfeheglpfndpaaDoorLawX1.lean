/- The walk of FnZig. Conditions: the code's bytes can be read. -/
import Derived.Test.YtmfeheglpfndpaaDoorDrawB
import Derived.Test.YtmfeheglpfndpaaDoorNum
namespace Go.Proofs.YtmfeheglpfndpaaDoor
open Go.RowKit
set_option linter.unusedVariables false
set_option linter.unusedSimpArgs false
theorem code_of_row {w : World} {a : Option Addr} {len cap : Nat} {z : List Int} (h : IsRow .u8 w a len cap z) : CodeAt w w.heap.size a len z := by
  intro hl
  rcases h with ⟨_, h0, _⟩ | ⟨x, rfl, hle, _, hz, hc, _⟩
  · omega
  · obtain ⟨b, off, spot⟩ := x
    have h0 := hc 0 (by omega)
    have hspot : spot = none := by simpa [Addr.add] using World.cell?_spot h0
    subst hspot
    have hadd : ∀ i, (⟨b, off, none⟩ : Addr).add i = ⟨b, off + i, none⟩ := fun i => by unfold Addr.add; split <;> simp_all
    refine ⟨b, off, rfl, ?_, fun i hi => by rw [← hadd]; exact hc i (by omega)⟩
    rw [hadd] at h0
    rcases Nat.lt_or_ge b w.heap.size with h | h
    · exact h
    · simp [World.cell?, Array.getElem?_eq_none h] at h0
/-- a drawn whole number -/
def DInt (k : IntKind) (lo hi : Int) (w : World) (e : Ending) (w' : World) : Prop := ∃ x : Int, lo ≤ x ∧ x ≤ hi ∧ e = .returned (.int k x) ∧ Below w.heap.size w w'
theorem c_big (a : Option Addr) (len cap : Nat) (w : World) : Calls Tryd.prog 5 #[.slice a len cap] w fun e w' => e = .returned (.bool (decide (1048576 < len))) ∧ w = w' := by
  rcases h : decide (1048576 < len) with _ | _
  · have h1 : ¬ (1048576 : Int) < (len : Int) := by simp at h; omega
    go_enter Tryd.func5, Tryd.ntmps5
    go_wp2
    go_ret
    exact ⟨rfl, rfl⟩
  · have h1 : (1048576 : Int) < (len : Int) := by simp at h; omega
    go_enter Tryd.func5, Tryd.ntmps5
    go_wp2
    go_ret
    exact ⟨rfl, rfl⟩
theorem pick_cells {w : World} {t : TypeId} {cs : Array Value} {n : Nat} {P : Value → Prop} (h : ∀ j, j < n → ∃ v, P v ∧ cs[j]? = some v) :
    ∀ j, j < n → ∃ v, P v ∧ (w.alloc (.cells cs t)).cell? ⟨w.heap.size, j, none⟩ = some v := fun j hj => by
  obtain ⟨v, h1, h2⟩ := h j hj
  exact ⟨v, h1, (World.cell?_alloc_mark w cs t (0, 0) j).trans h2⟩
end Go.Proofs.YtmfeheglpfndpaaDoor
