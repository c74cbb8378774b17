/- The walks of FnExactHex, FnExactUnhex and FnHex. Conditions: the code's bytes can be read. -/
import Derived.Test.YtaleihkgfalinaaHexE
import Derived.Test.YtaleihkgfalinaaDrawSH
import Derived.Test.YtaleihkgfalinaaLawX1
namespace Go.Proofs.Ytaleihkgfalinaa
open Go.RowKit Plain
set_option linter.unusedVariables false
set_option linter.unusedSimpArgs false
theorem walkFnExactHex (s : ByteArray) (w : World) (hs : s.size ≤ maxLen) : Calls Try.prog 3 #[.string s] w fun e w' => e = .returned (.bool true) ∧ Below w.heap.size w w' := by
  by_cases hbig : 1048576 < s.size
  · go_enter Try.func3, Try.ntmps3
    go_wp2
    go_ret
    exact ⟨rfl, Below.refl _ _⟩
  · go_enter Try.func3, Try.ntmps3
    go_wp2_with fail
    refine (cP_Hex _ (by omega) _).mono ?_
    rintro e w1 ⟨rfl, hb1⟩
    go_wp2_with fail
    refine (cI_Hex _ (by omega) _).mono ?_
    rintro e w2 ⟨rfl, hb2⟩
    go_wp2
    go_ret
    exact ⟨rfl, hb1.trans (hb2.mono hb1.size)⟩
theorem walkFnExactUnhex (s : ByteArray) (w : World) (hs : s.size ≤ maxLen) : Calls Try.prog 4 #[.string s] w fun e w' => e = .returned (.bool true) ∧ Below w.heap.size w w' := by
  by_cases hbig : 1048576 < s.size
  · go_enter Try.func4, Try.ntmps4
    go_wp2
    go_ret
    exact ⟨rfl, Below.refl _ _⟩
  · have hP := fun w => cP_Unhex s (by omega) w
    have hI := fun w => cI_Unhex s (by omega) w
    generalize bs ((unhexL (bl s)).getD []) = o at hP hI
    generalize (unhexL (bl s)).isSome = b at hP hI
    go_enter Try.func4, Try.ntmps4
    go_wp2_with fail
    refine (hP _).mono ?_
    rintro e w1 ⟨rfl, hb1⟩
    go_wp2_with fail
    refine (hI _).mono ?_
    rintro e w2 ⟨rfl, hb2⟩
    go_wp2
    go_ret
    exact ⟨rfl, hb1.trans (hb2.mono hb1.size)⟩
/-- a drawn string -/
def DStr (N : Nat) (w : World) (e : Ending) (w' : World) : Prop := ∃ s : ByteArray, s.size ≤ N ∧ e = .returned (.string s) ∧ Below w.heap.size w w'
theorem CodeAt.later {w w' : World} {a : Option Addr} {len : Nat} {z : List Int} (h : CodeAt w w.heap.size a len z) (hb : Below w.heap.size w w') : CodeAt w' w'.heap.size a len z := by
  intro hl
  obtain ⟨b, off, e, hB, hc⟩ := (h.keep (fun k hk => hb.block k hk)) hl
  exact ⟨b, off, e, Nat.lt_of_lt_of_le hB hb.size, hc⟩
theorem d_DrawHex {a : Option Addr} {len cap : Nat} {z : List Int} (w : World) (hl : len ≤ 1048576) (hc : CodeAt w w.heap.size a len z) :
    Calls Try.prog 11 #[.slice a len cap] w (DStr 11 w) := by
  go_enter Try.func11, Try.ntmps11
  go_wp2_with fail
  refine (d_New w w.heap.size (Nat.le_refl _) hl hc).mono ?_
  rintro e w1 ⟨rfl, hc1, hb1⟩
  go_wp2_with fail
  refine (d_Below _ hc1 12 (by omega) (by omega)).mono ?_
  rintro e w2 ⟨y, hy0, hy1, rfl, hc2, hg2⟩
  rw [hiB_pos (by omega)] at hy1
  go_wp2_with fail
  refine (d_Bytes _ hc2 y hy0 (by omega)).mono ?_
  rintro e w3 ⟨q, c, l, rfl, hll, hrow, h256, hq, hc3, hg3⟩
  have hcv := run_string_of_row' u8d hrow y.toNat hll
  go_wp2
  go_ret
  exact ⟨_, by rw [bs_size]; omega, rfl, hb1.trans (below_of_grown (hg2.trans hg3) (Nat.le_refl _) hb1.size)⟩
set_option maxHeartbeats 1000000 in
theorem d_DrawUnhex {a : Option Addr} {len cap : Nat} {z : List Int} (w : World) (hl : len ≤ 1048576) (hc : CodeAt w w.heap.size a len z) :
    Calls Try.prog 12 #[.slice a len cap] w (DStr 16 w) := by
  go_enter Try.func12, Try.ntmps12
  go_wp2_with fail
  refine (d_New w w.heap.size (Nat.le_refl _) hl hc).mono ?_
  rintro e w1 ⟨rfl, hc1, hb1⟩
  go_wp2_with fail
  refine (d_Below _ hc1 8 (by omega) (by omega)).mono ?_
  rintro e w2 ⟨y, hy0, hy1, rfl, hc2, hg2⟩
  rw [hiB_pos (by omega)] at hy1
  go_wp2_with fail
  refine (d_Bytes _ hc2 y hy0 (by omega)).mono ?_
  rintro e w3 ⟨q, c, l, rfl, hll, hrow, h256, hq, hc3, hg3⟩
  have hcv := run_string_of_row' u8d hrow y.toNat hll
  have hP := fun w => cP_Hex (bs l) (by rw [bs_size]; omega) w
  have hz : (bs (hexL (bl (bs l)))).size ≤ 14 := by rw [bs_size, hexL_length, bl_length, bs_size]; omega
  generalize bs (hexL (bl (bs l))) = s at hP hz
  generalize bs l = t at hP hcv
  have hG3 := hg2.trans hg3
  clear hll h256 hrow
  go_wp2_with fail
  refine (hP _).mono ?_
  rintro e w4 ⟨rfl, hb4⟩
  have hc4 := hc3.below hb4
  have hG4 := hG3.trans (grown_of_below hb4 (some w.heap.size))
  clear hcv hP
  go_wp2_with fail
  refine (d_Below _ hc4 4 (by omega) (by omega)).mono ?_
  rintro e w5 ⟨x, hx0, hx1, rfl, hc5, hg5⟩
  rw [hiB_pos (by omega)] at hx1
  have hG5 := hG4.trans hg5
  have hgl5 := hc5.lt
  have FIN := Lib.hid (fun (w9 : World) (h : w1.grownBy w9 (some w.heap.size)) => hb1.trans (below_of_grown h (Nat.le_refl _) hb1.size))
  rcases (show x = 0 ∨ x = 1 ∨ 2 ≤ x by omega) with rfl | rfl | hx2
  · go_wp2_with fail
    refine (d_Spoil _ hc5 s 16 (by omega) (by omega) (by omega)).mono ?_
    rintro e w6 ⟨r, hr, rfl, hc6, hg6⟩
    go_wp2
    go_ret
    exact ⟨r, hr, rfl, FIN.out _ (hG5.trans hg6)⟩
  · go_wp2_with fail
    refine (d_Pick _ (hc5.alloc _) w5.heap.size 4 hc5.lt (by simp) (by omega) (by omega) 2 (fun j hj => by
      obtain ⟨v, ⟨x, h1, rfl⟩, h3⟩ := pick_cells (P := fun v => ∃ x : ByteArray, x.size ≤ 2 ∧ v = .string x) (w := w5) (t := 9) (cs := #[.string ⟨#[97]⟩, .string ⟨#[65, 48]⟩, .string ⟨#[48, 103]⟩, .string ⟨#[32]⟩]) (n := 4) (fun j hj => by
        rcases (show j = 0 ∨ j = 1 ∨ j = 2 ∨ j = 3 by omega) with rfl | rfl | rfl | rfl
        all_goals exact ⟨_, ⟨_, by decide, rfl⟩, rfl⟩) j hj
      exact ⟨x, h1, h3⟩)).mono ?_
    rintro e w6 ⟨r, hr, rfl, hc6, hg6⟩
    go_wp2
    go_ret
    exact ⟨_, by rw [ByteArray.size_append]; omega, rfl, FIN.out _ ((grown_alloc hG5 _).trans hg6)⟩
  · have e0 : (x == 0) = false := by simp; omega
    have e1 : (x == 1) = false := by simp; omega
    go_wp2
    go_ret
    exact ⟨s, by omega, rfl, FIN.out _ hG5⟩
set_option maxHeartbeats 2000000 in
theorem walkFnHex (a : Option Addr) (len cap : Nat) (z : List Int) (w : World) (hr : IsRow .u8 w a len cap z) : Calls Try.prog 5 #[.slice a len cap] w fun e w' => e = .returned (.bool true) ∧ Below w.heap.size w w' := by
  have hcode := Lib.hid (code_of_row hr)
  clear hr
  rcases hbig : decide (1048576 < len) with _ | _
  · have hl : len ≤ 1048576 := by simp at hbig; omega
    go_enter Try.func5, Try.ntmps5
    go_wp2_with (go_at_call 10; refine (c_big _ _ _ _).mono ?_; rintro e w' ⟨rfl, rfl⟩; rw [hbig])
    refine (d_DrawHex _ hl hcode.out).mono ?_
    rintro e w1 ⟨s, hs, rfl, hb1⟩
    have hlt := bl_lt s
    have hh256 := hexL_lt (bl s) hlt
    have hI := fun w => cI_Hex s (by omega) w
    have hsz : (bs (hexL (bl s))).size = 2 * s.size := by rw [bs_size, hexL_length, bl_length]
    have hU := fun w => cI_Unhex (bs (hexL (bl s))) (by omega) w
    rw [bl_bs _ hh256, unhexL_hexL _ hlt] at hU
    simp only [Option.getD_some, Option.isSome_some, bs_bl] at hU
    generalize bs (hexL (bl s)) = h at hI hsz hU
    clear hlt hh256
    have hcode1 : Hid (CodeAt w1 w1.heap.size a len z) := Lib.hid (hcode.out.later hb1)
    go_wp2_with fail
    refine (hI _).mono ?_
    rintro e w2 ⟨rfl, hb2⟩
    have hcode2 : Hid (CodeAt w2 w2.heap.size a len z) := Lib.hid (hcode1.out.later hb2)
    have B2 := hb1.trans (hb2.mono hb1.size)
    go_wp2_with fail
    refine (hU _).mono ?_
    rintro e w3 ⟨rfl, hb3⟩
    have hcode3 : Hid (CodeAt w3 w3.heap.size a len z) := Lib.hid (hcode2.out.later hb3)
    have B3 := B2.trans (hb3.mono B2.size)
    go_wp2_with fail
    refine (d_DrawUnhex _ hl hcode3.out).mono ?_
    rintro e w4 ⟨t, ht, rfl, hb4⟩
    have B4 := B3.trans (hb4.mono B3.size)
    have kI := fun w => cI_Unhex t (by omega) w
    have kP := fun w => cP_Unhex t (by omega) w
    rcases hu : unhexL (bl t) with _ | o
    · rw [hu] at kI kP
      simp only [Option.getD_none, Option.isSome_none] at kI kP
      generalize bs [] = q at kI kP
      clear hu
      go_wp2_with fail
      refine (kI _).mono ?_
      rintro e w5 ⟨rfl, hb5⟩
      have B5 := B4.trans (hb5.mono B4.size)
      go_wp2_with fail
      refine (kP _).mono ?_
      rintro e w6 ⟨rfl, hb6⟩
      have B6 := B5.trans (hb6.mono B5.size)
      go_wp2
      go_ret
      exact ⟨ret_bool (by first | rfl | (simp [hsz]; done) | (simp [hsz]; omega)), B6⟩
    · have ho := hexL_unhexL _ _ hu
      have ho256 := unhexL_lt _ _ hu
      have hos : (bs o).size ≤ 16 := by
        have := congrArg List.length ho
        rw [hexL_length, bl_length] at this
        rw [bs_size]; omega
      have hX := fun w => cI_Hex (bs o) (by omega) w
      rw [bl_bs _ ho256, ho, bs_bl] at hX
      rw [hu] at kI kP
      simp only [Option.getD_some, Option.isSome_some] at kI kP
      generalize bs o = q at kI kP hX
      clear hu ho ho256 hos
      go_wp2_with fail
      refine (kI _).mono ?_
      rintro e w5 ⟨rfl, hb5⟩
      have B5 := B4.trans (hb5.mono B4.size)
      go_wp2_with fail
      refine (kP _).mono ?_
      rintro e w6 ⟨rfl, hb6⟩
      have B6 := B5.trans (hb6.mono B5.size)
      have hm1 : ((h.size : Int) == 2 * (s.size : Int)) = true := by simp [hsz]
      have hm2 : wrap64 (2 * (s.size : Int)) = 2 * (s.size : Int) := IntWalk.wrap64_in _ (by omega)
      go_wp2_with fail
      refine (hX _).mono ?_
      rintro e w7 ⟨rfl, hb7⟩
      go_wp2
      go_ret
      exact ⟨ret_bool (by first | rfl | (simp [hsz]; done) | (simp [hsz]; omega)), B6.trans (hb7.mono B6.size)⟩
  · go_enter Try.func5, Try.ntmps5
    go_wp2_with (go_at_call 10; refine (c_big _ _ _ _).mono ?_; rintro e w' ⟨rfl, rfl⟩; rw [hbig])
    go_ret
    exact ⟨rfl, Below.refl _ _⟩
end Go.Proofs.Ytaleihkgfalinaa
