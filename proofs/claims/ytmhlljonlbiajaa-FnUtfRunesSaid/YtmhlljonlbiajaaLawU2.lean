/- The draws of states, and the walks of FnRuneText and FnUtfRight. Conditions: the bytes drawn from can be read; at most 2^20 of them. -/
import Derived.Test.YtmhlljonlbiajaaLawU1
namespace Go.Proofs.Ytmhlljonlbiajaa
open Go.RowKit Plain
set_option linter.unusedVariables false
set_option linter.unusedSimpArgs false
/-- a state, whatever it is -/
def StPost (B g : Nat) (a : Option Addr) (len cap : Nat) (z : List Int) (w : World) (e : Ending) (w' : World) : Prop :=
  ∃ W L H : Int, e = .returned (.agg #[.int .i64 W, .int .i64 L, .int .i64 H]) ∧ Cur w' B g a len cap z ∧ w.grownBy w' (some g)
set_option maxHeartbeats 2000000 in
theorem d_l5State {B g : Nat} {a : Option Addr} {len cap : Nat} {z : List Int} (w : World) (hc : Cur w B g a len cap z) :
    Calls Try.prog 40 #[.pointer (some ⟨g, 0, none⟩)] w (StPost B g a len cap z w) := by
  have hgl := hc.lt
  have R0 := Box.new w 27 #[.int .i64 0, .int .i64 0, .int .i64 0]
  go_enter Try.func40, Try.ntmps40
  go_wp2_with fail
  refine (d_l5Bent _ (hc.alloc _)).mono ?_
  rintro e w1 ⟨s, hs, rfl, hc1, hg1⟩
  have hG1 := (grown_alloc (grown_refl w (some g)) _).trans hg1
  have R1 := R0.grown hg1 (by simp; omega)
  have hS := fun w => cP_UtfState s w (by omega)
  generalize (utfText (0, 0, 0) (bl s)).1 = q at hS
  obtain ⟨W, L, H⟩ := q
  unfold stV at hS
  go_wp2_with fail
  refine (hS _).mono ?_
  rintro e w2 ⟨rfl, hb2⟩
  have hc2 := hc1.below hb2
  have hG2 := hG1.trans (grown_of_below hb2 (some g))
  have R2 := R1.all hb2
  have rl2 := R2.lt
  have X2 := Box.new w2 27 #[.int .i64 W, .int .i64 L, .int .i64 H]
  have hgl2 := hc2.lt
  go_wp2_with fail
  refine (d_Below _ (hc2.alloc _) 12 (by omega) (by omega)).mono ?_
  rintro e w3 ⟨x, hx0, hx1, rfl, hc3, hg3⟩
  have hG3 := (grown_alloc hG2 _).trans hg3
  have R3 := (R2.alloc _).grown hg3 (by simp; omega)
  have X3 := X2.grown hg3 (by simp; omega)
  have hgl3 := hc3.lt
  have rl3 := R3.lt
  have xl3 := X3.lt
  have hlt23 : w.heap.size < w2.heap.size := R2.lt
  clear hS hx0 hx1
  have fin : ∀ (w9 : World) (W L H : Int), Cur w9 B g a len cap z → w.grownBy w9 (some g) → Box w9 w.heap.size 27 #[.int .i64 0, .int .i64 0, .int .i64 0] → True := fun _ _ _ _ _ _ _ => trivial
  clear fin
  rcases (show x = 0 ∨ x = 1 ∨ x = 2 ∨ (x ≠ 0 ∧ x ≠ 1 ∧ x ≠ 2) by omega) with rfl | rfl | rfl | ⟨n0, n1, n2⟩
  · go_wp2_with fail
    refine (d_Below _ hc3 6 (by omega) (by omega)).mono ?_
    rintro e w4 ⟨v, hv0, hv1, rfl, hc4, hg4⟩
    rw [hiB_pos (by omega)] at hv1
    have hG4 := hG3.trans hg4
    have R4 := R3.grown hg4 (by simp; omega)
    have X4 := X3.grown hg4 (by simp; omega)
    have c0 := R4.cell 0 rfl; have c1 := R4.cell 1 rfl; have c2 := R4.cell 2 rfl
    have f0 := R4.free 0; have f1 := R4.free 1; have f2 := R4.free 2
    have d0 : w4.cell? ⟨w2.heap.size, 0, none⟩ = some (.int .i64 W) := X4.cell 0 rfl
    have d1 : w4.cell? ⟨w2.heap.size, 1, none⟩ = some (.int .i64 L) := X4.cell 1 rfl
    have d2 : w4.cell? ⟨w2.heap.size, 2, none⟩ = some (.int .i64 H) := X4.cell 2 rfl
    have h0 := X4.free 0; have h1 := X4.free 1; have h2 := X4.free 2
    have gl4 := hc4.lt
    have xl4 := X4.lt
    have rl4 := R4.lt
    have hng : g < w.heap.size := hgl
    go_wp2
    have Z := (((R4.far (p := ⟨w2.heap.size, 0, none⟩) (by simp; omega) (.int .i64 (v - 1))).set_ 0 (.int .i64 (v - 1))).set_ 1 (.int .i64 (L))).set_ 2 (.int .i64 (H))
    have z0 : World.cell? _ ⟨w.heap.size, 0, none⟩ = some (.int .i64 (v - 1)) := Z.cell 0 rfl
    have z1 : World.cell? _ ⟨w.heap.size, 1, none⟩ = some (.int .i64 (L)) := Z.cell 1 rfl
    have z2 : World.cell? _ ⟨w.heap.size, 2, none⟩ = some (.int .i64 (H)) := Z.cell 2 rfl
    exact bodyPost_ret (v := .agg #[.int .i64 (v - 1), .int .i64 (L), .int .i64 (H)]) (by simp [results, Try.results40, go_sem, c0, c1, c2, d0, d1, d2, z0, z1, z2]) rfl ⟨_, _, _, rfl, ((((hc4.far (p := ⟨w2.heap.size, 0, none⟩) (by simp; omega) (.int .i64 (v - 1))).far (p := ⟨w.heap.size, 0, none⟩) (by simp; omega) (.int .i64 (v - 1))).far (p := ⟨w.heap.size, 1, none⟩) (by simp; omega) (.int .i64 (L))).far (p := ⟨w.heap.size, 2, none⟩) (by simp; omega) (.int .i64 (H))), (grown_set (grown_set (grown_set (grown_set hG4 (p := ⟨w2.heap.size, 0, none⟩) (.inr (by simp; omega)) (.int .i64 (v - 1))) (p := ⟨w.heap.size, 0, none⟩) (.inr (by simp)) (.int .i64 (v - 1))) (p := ⟨w.heap.size, 1, none⟩) (.inr (by simp)) (.int .i64 (L))) (p := ⟨w.heap.size, 2, none⟩) (.inr (by simp)) (.int .i64 (H)))⟩
  · go_wp2_with fail
    refine (d_PickInt _ (hc3.alloc _) w3.heap.size 5 hc3.lt (by simp) (by omega) (by omega) (-1) 160 (pick_ints w3 3 [0, 128, 144, 160, -1] (-1) 160 (by decide))).mono ?_
    rintro e w4 ⟨v, hv0, hv1, rfl, hc4, hg4⟩
    have hG4 := (grown_alloc hG3 _).trans hg4
    have R4 := (R3.alloc _).grown hg4 (by simp; omega)
    have X4 := (X3.alloc _).grown hg4 (by simp; omega)
    have c0 := R4.cell 0 rfl; have c1 := R4.cell 1 rfl; have c2 := R4.cell 2 rfl
    have f0 := R4.free 0; have f1 := R4.free 1; have f2 := R4.free 2
    have d0 : w4.cell? ⟨w2.heap.size, 0, none⟩ = some (.int .i64 W) := X4.cell 0 rfl
    have d1 : w4.cell? ⟨w2.heap.size, 1, none⟩ = some (.int .i64 L) := X4.cell 1 rfl
    have d2 : w4.cell? ⟨w2.heap.size, 2, none⟩ = some (.int .i64 H) := X4.cell 2 rfl
    have h0 := X4.free 0; have h1 := X4.free 1; have h2 := X4.free 2
    have gl4 := hc4.lt
    have xl4 := X4.lt
    have rl4 := R4.lt
    have hng : g < w.heap.size := hgl
    go_wp2
    have Z := (((R4.far (p := ⟨w2.heap.size, 1, none⟩) (by simp; omega) (.int .i64 (v))).set_ 0 (.int .i64 (W))).set_ 1 (.int .i64 (v))).set_ 2 (.int .i64 (H))
    have z0 : World.cell? _ ⟨w.heap.size, 0, none⟩ = some (.int .i64 (W)) := Z.cell 0 rfl
    have z1 : World.cell? _ ⟨w.heap.size, 1, none⟩ = some (.int .i64 (v)) := Z.cell 1 rfl
    have z2 : World.cell? _ ⟨w.heap.size, 2, none⟩ = some (.int .i64 (H)) := Z.cell 2 rfl
    exact bodyPost_ret (v := .agg #[.int .i64 (W), .int .i64 (v), .int .i64 (H)]) (by simp [results, Try.results40, go_sem, c0, c1, c2, d0, d1, d2, z0, z1, z2]) rfl ⟨_, _, _, rfl, ((((hc4.far (p := ⟨w2.heap.size, 1, none⟩) (by simp; omega) (.int .i64 (v))).far (p := ⟨w.heap.size, 0, none⟩) (by simp; omega) (.int .i64 (W))).far (p := ⟨w.heap.size, 1, none⟩) (by simp; omega) (.int .i64 (v))).far (p := ⟨w.heap.size, 2, none⟩) (by simp; omega) (.int .i64 (H))), (grown_set (grown_set (grown_set (grown_set hG4 (p := ⟨w2.heap.size, 1, none⟩) (.inr (by simp; omega)) (.int .i64 (v))) (p := ⟨w.heap.size, 0, none⟩) (.inr (by simp)) (.int .i64 (W))) (p := ⟨w.heap.size, 1, none⟩) (.inr (by simp)) (.int .i64 (v))) (p := ⟨w.heap.size, 2, none⟩) (.inr (by simp)) (.int .i64 (H)))⟩
  · go_wp2_with fail
    refine (d_PickInt _ (hc3.alloc _) w3.heap.size 5 hc3.lt (by simp) (by omega) (by omega) 0 255 (pick_ints w3 3 [0, 143, 159, 191, 255] 0 255 (by decide))).mono ?_
    rintro e w4 ⟨v, hv0, hv1, rfl, hc4, hg4⟩
    have hG4 := (grown_alloc hG3 _).trans hg4
    have R4 := (R3.alloc _).grown hg4 (by simp; omega)
    have X4 := (X3.alloc _).grown hg4 (by simp; omega)
    have c0 := R4.cell 0 rfl; have c1 := R4.cell 1 rfl; have c2 := R4.cell 2 rfl
    have f0 := R4.free 0; have f1 := R4.free 1; have f2 := R4.free 2
    have d0 : w4.cell? ⟨w2.heap.size, 0, none⟩ = some (.int .i64 W) := X4.cell 0 rfl
    have d1 : w4.cell? ⟨w2.heap.size, 1, none⟩ = some (.int .i64 L) := X4.cell 1 rfl
    have d2 : w4.cell? ⟨w2.heap.size, 2, none⟩ = some (.int .i64 H) := X4.cell 2 rfl
    have h0 := X4.free 0; have h1 := X4.free 1; have h2 := X4.free 2
    have gl4 := hc4.lt
    have xl4 := X4.lt
    have rl4 := R4.lt
    have hng : g < w.heap.size := hgl
    go_wp2
    have Z := (((R4.far (p := ⟨w2.heap.size, 2, none⟩) (by simp; omega) (.int .i64 (v))).set_ 0 (.int .i64 (W))).set_ 1 (.int .i64 (L))).set_ 2 (.int .i64 (v))
    have z0 : World.cell? _ ⟨w.heap.size, 0, none⟩ = some (.int .i64 (W)) := Z.cell 0 rfl
    have z1 : World.cell? _ ⟨w.heap.size, 1, none⟩ = some (.int .i64 (L)) := Z.cell 1 rfl
    have z2 : World.cell? _ ⟨w.heap.size, 2, none⟩ = some (.int .i64 (v)) := Z.cell 2 rfl
    exact bodyPost_ret (v := .agg #[.int .i64 (W), .int .i64 (L), .int .i64 (v)]) (by simp [results, Try.results40, go_sem, c0, c1, c2, d0, d1, d2, z0, z1, z2]) rfl ⟨_, _, _, rfl, ((((hc4.far (p := ⟨w2.heap.size, 2, none⟩) (by simp; omega) (.int .i64 (v))).far (p := ⟨w.heap.size, 0, none⟩) (by simp; omega) (.int .i64 (W))).far (p := ⟨w.heap.size, 1, none⟩) (by simp; omega) (.int .i64 (L))).far (p := ⟨w.heap.size, 2, none⟩) (by simp; omega) (.int .i64 (v))), (grown_set (grown_set (grown_set (grown_set hG4 (p := ⟨w2.heap.size, 2, none⟩) (.inr (by simp; omega)) (.int .i64 (v))) (p := ⟨w.heap.size, 0, none⟩) (.inr (by simp)) (.int .i64 (W))) (p := ⟨w.heap.size, 1, none⟩) (.inr (by simp)) (.int .i64 (L))) (p := ⟨w.heap.size, 2, none⟩) (.inr (by simp)) (.int .i64 (v)))⟩
  · have e0 : (x == 0) = false := by simp [n0]
    have e1 : (x == 1) = false := by simp [n1]
    have e2 : (x == 2) = false := by simp [n2]
    have X4 := X3
    have R4 := R3
    have hc4 := hc3
    have hG4 := hG3
    clear X3 R3 hc3 hG3
    have c0 := R4.cell 0 rfl; have c1 := R4.cell 1 rfl; have c2 := R4.cell 2 rfl
    have f0 := R4.free 0; have f1 := R4.free 1; have f2 := R4.free 2
    have d0 : w3.cell? ⟨w2.heap.size, 0, none⟩ = some (.int .i64 W) := X4.cell 0 rfl
    have d1 : w3.cell? ⟨w2.heap.size, 1, none⟩ = some (.int .i64 L) := X4.cell 1 rfl
    have d2 : w3.cell? ⟨w2.heap.size, 2, none⟩ = some (.int .i64 H) := X4.cell 2 rfl
    have h0 := X4.free 0; have h1 := X4.free 1; have h2 := X4.free 2
    have gl4 := hc4.lt
    have xl4 := X4.lt
    have rl4 := R4.lt
    have hng : g < w.heap.size := hgl
    go_wp2
    have Z := (((R4).set_ 0 (.int .i64 (W))).set_ 1 (.int .i64 (L))).set_ 2 (.int .i64 (H))
    have z0 : World.cell? _ ⟨w.heap.size, 0, none⟩ = some (.int .i64 (W)) := Z.cell 0 rfl
    have z1 : World.cell? _ ⟨w.heap.size, 1, none⟩ = some (.int .i64 (L)) := Z.cell 1 rfl
    have z2 : World.cell? _ ⟨w.heap.size, 2, none⟩ = some (.int .i64 (H)) := Z.cell 2 rfl
    exact bodyPost_ret (v := .agg #[.int .i64 (W), .int .i64 (L), .int .i64 (H)]) (by simp [results, Try.results40, go_sem, c0, c1, c2, d0, d1, d2, z0, z1, z2]) rfl ⟨_, _, _, rfl, (((hc4.far (p := ⟨w.heap.size, 0, none⟩) (by simp; omega) (.int .i64 (W))).far (p := ⟨w.heap.size, 1, none⟩) (by simp; omega) (.int .i64 (L))).far (p := ⟨w.heap.size, 2, none⟩) (by simp; omega) (.int .i64 (H))), (grown_set (grown_set (grown_set hG4 (p := ⟨w.heap.size, 0, none⟩) (.inr (by simp)) (.int .i64 (W))) (p := ⟨w.heap.size, 1, none⟩) (.inr (by simp)) (.int .i64 (L))) (p := ⟨w.heap.size, 2, none⟩) (.inr (by simp)) (.int .i64 (H)))⟩
/-- a drawn state and a drawn whole number -/
def DStInt (w : World) (e : Ending) (w' : World) : Prop := ∃ W L H y : Int, e = .returned (.tuple #[.agg #[.int .i64 W, .int .i64 L, .int .i64 H], .int .i64 y]) ∧ Below w.heap.size w w'
set_option maxHeartbeats 1000000 in
theorem d_DrawUtfByte {a : Option Addr} {len cap : Nat} {z : List Int} (w : World) (hl : len ≤ 1048576) (hc : CodeAt w w.heap.size a len z) :
    Calls Try.prog 29 #[.slice a len cap] w (DStInt w) := by
  have R0 := Box.new w 27 #[.int .i64 0, .int .i64 0, .int .i64 0]
  go_enter Try.func29, Try.ntmps29
  go_wp2_with fail
  refine (d_New _ w.heap.size (by simp) hl (hc.keep (fun k hk => Below.heap_alloc w _ k hk))).mono ?_
  rintro e w1 ⟨rfl, hc1, hb1⟩
  have hsz : (w.alloc (.cells #[.int .i64 0, .int .i64 0, .int .i64 0] 27)).heap.size = w.heap.size + 1 := by simp
  rw [hsz] at hc1
  have R1 := R0.all hb1
  have B1 := ((Below.refl w.heap.size w).alloc (Nat.le_refl _) (.cells #[.int .i64 0, .int .i64 0, .int .i64 0] 27)).trans (hb1.mono (by simp))
  have rl := R1.lt
  go_wp2_with fail
  refine (d_l5State _ hc1).mono ?_
  rintro e w2 ⟨W, L, H, rfl, hc2, hg2⟩
  have R2 := R1.grown hg2 (by simp)
  have hgl2 := hc2.lt
  go_wp2_with fail
  refine (d_Below _ hc2 256 (by omega) (by omega)).mono ?_
  rintro e w3 ⟨x, hx0, hx1, rfl, hc3, hg3⟩
  rw [hiB_pos (by omega)] at hx1
  have R3 := R2.grown hg3 (by simp)
  have hgl3 := hc3.lt
  go_wp2_with fail
  refine (d_PickInt _ (hc3.alloc _) w3.heap.size 22 hc3.lt (by simp) (by omega) (by omega) (-1) 256 (pick_ints w3 3 [0, 127, 128, 143, 144, 159, 160, 191, 192, 193, 194, 223, 224, 237, 239, 240, 244, 245, 255, 256, -1, x] (-1) 256 (by
    intro y hy
    simp only [List.mem_cons, List.not_mem_nil, or_false] at hy
    rcases hy with rfl | rfl | rfl | rfl | rfl | rfl | rfl | rfl | rfl | rfl | rfl | rfl | rfl | rfl | rfl | rfl | rfl | rfl | rfl | rfl | rfl | rfl <;> omega))).mono ?_
  rintro e w4 ⟨y, hy0, hy1, rfl, hc4, hg4⟩
  have R4 := (R3.alloc _).grown hg4 (by simp)
  have rl4 := R4.lt
  have c0 := R4.cell 0 rfl; have c1 := R4.cell 1 rfl; have c2 := R4.cell 2 rfl
  have f0 := R4.free 0; have f1 := R4.free 1; have f2 := R4.free 2
  have hG := (grown_alloc (hg2.trans hg3) _).trans hg4
  have B4 := B1.trans (below_of_grown hG (by simp) (by have := B1.size; omega))
  go_wp2
  have Z := ((R4.set_ 0 (.int .i64 W)).set_ 1 (.int .i64 L)).set_ 2 (.int .i64 H)
  have z0 : World.cell? _ ⟨w.heap.size, 0, none⟩ = some (.int .i64 W) := Z.cell 0 rfl
  have z1 : World.cell? _ ⟨w.heap.size, 1, none⟩ = some (.int .i64 L) := Z.cell 1 rfl
  have z2 : World.cell? _ ⟨w.heap.size, 2, none⟩ = some (.int .i64 H) := Z.cell 2 rfl
  exact bodyPost_ret (v := .tuple #[.agg #[.int .i64 W, .int .i64 L, .int .i64 H], .int .i64 y]) (by simp [results, Try.results29, go_sem, c0, c1, c2, z0, z1, z2]) rfl ⟨_, _, _, _, rfl, ((B4.setCell (Nat.le_refl _) _).setCell (Nat.le_refl _) _).setCell (Nat.le_refl _) _⟩
end Go.Proofs.Ytmhlljonlbiajaa
