/- The draws of the laws on digits and violations, and the walk of FnDigits. Conditions: the code's bytes can be read; the library's table and errors stand in memory. -/
import Derived.Test.YtecmeomcgnjapaaDoorLawX1
import Derived.Test.YtecmeomcgnjapaaDoorDecE
namespace Go.Proofs.YtecmeomcgnjapaaDoor
open Go.RowKit
set_option linter.unusedVariables false
set_option linter.unusedSimpArgs false
theorem CodeAt.later {w w' : World} {a : Option Addr} {len : Nat} {z : List Int} (h : CodeAt w w.heap.size a len z) (hb : Below w.heap.size w w') : CodeAt w' w'.heap.size a len z := by
  intro hl
  obtain ⟨b, off, e, h1, h2⟩ := (h.keep (fun k hk => hb.block k hk)) hl
  exact ⟨b, off, e, Nat.lt_of_lt_of_le h1 hb.size, h2⟩
theorem d_DrawDigits {a : Option Addr} {len cap : Nat} {z : List Int} (w : World) (hl : len ≤ 1048576) (hc : CodeAt w w.heap.size a len z) :
    Calls Tryd.prog 19 #[.slice a len cap] w (DInt .i64 (-9223372036854775808) 9223372036854775807 w) := by
  go_enter Tryd.func19, Tryd.ntmps19
  go_wp2_with fail
  refine (d_New w w.heap.size (Nat.le_refl _) hl hc).mono ?_
  rintro e w1 ⟨rfl, hc1, hb1⟩
  go_wp2_with fail
  refine (d_l1Whole _ hc1).mono ?_
  rintro e w2 ⟨x, hx0, hx1, rfl, hc2, hg2⟩
  go_wp2
  go_ret
  exact ⟨x, hx0, hx1, rfl, hb1.trans (below_of_grown hg2 (Nat.le_refl _) hb1.size)⟩
theorem d_DrawLong {a : Option Addr} {len cap : Nat} {z : List Int} (w : World) (hl : len ≤ 1048576) (hc : CodeAt w w.heap.size a len z) :
    Calls Tryd.prog 20 #[.slice a len cap] w (DInt .u64 0 18446744073709551615 w) := by
  go_enter Tryd.func20, Tryd.ntmps20
  go_wp2_with fail
  refine (d_New w w.heap.size (Nat.le_refl _) hl hc).mono ?_
  rintro e w1 ⟨rfl, hc1, hb1⟩
  go_wp2_with fail
  refine (d_Wide _ hc1).mono ?_
  rintro e w2 ⟨x, hx0, hx1, rfl, hc2, hg2⟩
  go_wp2
  go_ret
  exact ⟨x, hx0, hx1, rfl, hb1.trans (below_of_grown hg2 (Nat.le_refl _) hb1.size)⟩
theorem tx_list (l : List UInt8) : (tx l).data.toList = l := by simp [tx]
theorem itoa_len (n : Int) (h0 : -9223372036854775808 ≤ n) (h1 : n ≤ 9223372036854775807) : (tx (Lib.itoa n)).size ≤ 21 := by
  rw [tx_size]
  unfold Lib.itoa
  split
  · have := dec_len_le n.natAbs 19 (by omega)
    simp; omega
  · have := dec_len_le n.toNat 19 (by omega)
    omega
theorem dec_tx_len (u : Nat) (h : u < 18446744073709551616) : (tx (Lib.decDigits u)).size ≤ 20 := by
  rw [tx_size]; exact dec_len_le u 19 (by omega)
set_option maxHeartbeats 1000000 in
theorem walkFnDigits (a : Option Addr) (len cap : Nat) (z : List Int) (w : World) (hr : IsRow .u8 w a len cap z) (hp : Pow w) (hv : ErrV w) : Calls Tryd.prog 7 #[.slice a len cap] w fun e w' => e = .returned (.bool true) ∧ Below w.heap.size w w' := by
  have hcode := Lib.hid (code_of_row hr)
  clear hr
  rcases hbig : decide (1048576 < len) with _ | _
  · have hl : len ≤ 1048576 := by simp at hbig; omega
    go_enter Tryd.func7, Tryd.ntmps7
    go_wp2_with (go_at_call 18; refine (c_big _ _ _ _).mono ?_; rintro e w' ⟨rfl, rfl⟩; rw [hbig])
    refine (d_DrawDigits _ hl hcode.out).mono ?_
    rintro e w1 ⟨n, n0, n1, rfl, hb1⟩
    have cD := fun w hp => cI_Digits n w n0 n1 hp
    have cN := fun w hp hv => cI_Number (tx (Lib.itoa n)) w (by have := itoa_len n n0 n1; omega) hp hv
    rw [tx_list] at cN
    obtain ⟨m, ok, hmk, hcase⟩ : ∃ (m : Int) (ok : Bool), numV (numOf (Lib.itoa n)) = .tuple #[.int .i64 m, .bool ok] ∧ ((n < 0 ∨ 999999999 < n) ∧ ok = false ∧ m = 0 ∨ (0 ≤ n ∧ n ≤ 999999999) ∧ ok = true ∧ m = n) := by
      by_cases h : 0 ≤ n ∧ n ≤ 999999999
      · refine ⟨n, true, ?_, .inr ⟨h, rfl, rfl⟩⟩
        rw [num_itoa h.1 h.2]
        show Value.tuple #[.int .i64 ((n.toNat : Nat) : Int), .bool true] = _
        rw [Int.toNat_of_nonneg h.1]
      · refine ⟨0, false, ?_, .inl ⟨by omega, rfl, rfl⟩⟩
        rw [num_itoa_out (by omega)]; rfl
    rw [hmk] at cN
    clear hmk
    generalize tx (Lib.itoa n) = t at cD cN
    have HC := Lib.hid hcase
    clear hcase
    go_wp2_with fail
    refine (cD _ (hp.below hb1)).mono ?_
    rintro e w2 ⟨rfl, hb2⟩
    have B2 := hb1.trans (hb2.mono hb1.size)
    go_wp2_with fail
    refine (cN _ (hp.below B2) (hv.below B2)).mono ?_
    rintro e w3 ⟨rfl, hb3⟩
    have B3 := B2.trans (hb3.mono B2.size)
    have hcode3 : Hid (CodeAt w3 w3.heap.size a len z) := Lib.hid (hcode.out.later B3)
    go_wp2_with fail
    refine (d_DrawLong _ hl hcode3.out).mono ?_
    rintro e w4 ⟨u, u0, u1, rfl, hb4⟩
    have B4 := B3.trans (hb4.mono B3.size)
    obtain ⟨k, rfl⟩ := Int.eq_ofNat_of_zero_le u0
    have hk : k < 18446744073709551616 := by omega
    have cL := fun w hp => cI_Long k hk w hp
    have cO := fun w hp hv => cI_LongOf (tx (Lib.decDigits k)) w (by have := dec_tx_len k hk; omega) hp hv
    rw [tx_list, longOf_dec k hk, longV_some] at cO
    generalize tx (Lib.decDigits k) = q at cL cO
    generalize (k : Int) = u at cL cO u0 u1
    clear hk
    go_wp2_with fail
    refine (cL _ (hp.below B4)).mono ?_
    rintro e w5 ⟨rfl, hb5⟩
    have B5 := B4.trans (hb5.mono B4.size)
    go_wp2_with fail
    refine (cO _ (hp.below B5) (hv.below B5)).mono ?_
    rintro e w6 ⟨rfl, hb6⟩
    have B6 := B5.trans (hb6.mono B5.size)
    rcases HC.out with ⟨h1, rfl, rfl⟩ | ⟨⟨h1, h2⟩, rfl, rfl⟩
    · rcases h1 with h1 | h1
      · go_wp2
        go_ret
        exact ⟨ret_bool (by first | rfl | simp), B6⟩
      · have h2 : 0 ≤ n := by omega
        go_wp2
        go_ret
        exact ⟨ret_bool (by first | rfl | simp), B6⟩
    · go_wp2
      go_ret
      exact ⟨ret_bool (by first | rfl | simp), B6⟩
  · go_enter Tryd.func7, Tryd.ntmps7
    go_wp2_with (go_at_call 18; refine (c_big _ _ _ _).mono ?_; rintro e w' ⟨rfl, rfl⟩; rw [hbig])
    go_ret
    exact ⟨rfl, Below.refl _ _⟩
end Go.Proofs.YtecmeomcgnjapaaDoor
