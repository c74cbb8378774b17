/- Walks of FnVarRead and FnScan. Conditions: the code's bytes can be read. -/
import Derived.Test.YtojhbhhlbgkeoaaLawV3
import Derived.Test.YtojhbhhlbgkeoaaScanP
import Derived.Deep.RegionWith
import Derived.Deep.RegionHeld3
namespace Go.Proofs.Ytojhbhhlbgkeoaa
open Go.RowKit Plain
set_option linter.unusedVariables false
set_option linter.unusedSimpArgs false
theorem ext_take {s : ByteArray} {m n : Nat} {l : List Nat} (h : ((bl s).drop m).take n = l) (h256 : ∀ b ∈ l, b < 256) : bs l = s.extract m (m + n) := by
  apply bl_ext
  rw [bl_bs l h256, bl_extract, ← h, List.drop_take, Nat.add_sub_cancel_left]
theorem below_drewN' (w : World) (n : Nat) : Below w.heap.size w (w.drewN n) := ⟨rfl, rfl, rfl, Nat.le_refl _, fun _ _ => rfl⟩
set_option maxHeartbeats 1000000 in
theorem walkFnVarRead (a : Option Addr) (len cap : Nat) (z : List Int) (w : World) (hr : IsRow .u8 w a len cap z) : Calls Try.prog 13 #[.slice a len cap] w fun e w' => e = .returned (.bool true) ∧ Below w.heap.size w w' := by
  have hcode := Lib.hid (code_of_row hr)
  clear hr
  rcases hbig : decide (1048576 < len) with _ | _
  · have hl : len ≤ 1048576 := by simp at hbig; omega
    go_enter Try.func13, Try.ntmps13
    go_wp2_with (go_at_call 26; refine (c_big _ _ _ _).mono ?_; rintro e w' ⟨rfl, rfl⟩; rw [hbig])
    refine (d_DrawGetVar _ hl hcode.out).mono ?_
    rintro e w1 ⟨s, y, hs, hy0, hy1, rfl, hb1⟩
    go_wp2_with fail
    refine (cI_GetVar _ _ _ (by omega) hy0 hy1).mono ?_
    rintro e w2 ⟨rfl, rfl⟩
    go_wp2_with fail
    refine (cP_GetVar _ _ _ (by omega) hy0 hy1).mono ?_
    rintro e w2 ⟨rfl, rfl⟩
    have HL := Lib.hid (bl_length s)
    rcases hin : inB y 0 s.size with _ | _
    · have HG := gvAll_out (l := bl s) (a := y) (by have := inB_no hin; rw [HL.out]; omega)
      rw [HG]
      have HG' := Lib.hid HG
      clear HG
      go_wp2_with fail
      go_quiet (fail)
      go_wp2
      go_ret
      exact ⟨rfl, hb1.trans ((below_drewN' _ _).mono hb1.size)⟩
    · obtain ⟨hk1, hk2⟩ := inB_yes hin
      obtain ⟨m, rfl⟩ := Int.eq_ofNat_of_zero_le hk1
      have hml : m ≤ s.size := by omega
      by_cases hc : (gv ((bl s).drop m) 0 0).2.2 = 0
      · obtain ⟨v, n, e1, e2, e3, e4, e5, e6, e7⟩ := gv_read ((bl s).drop m) 0 0 (by omega) (fun b hb => bl_lt s b (List.mem_of_mem_drop hb)) hc
        simp only [Nat.zero_add, Nat.mul_zero, Nat.pow_zero, Nat.mul_one, Nat.add_zero] at e1 e3 e7
        have HG := gvAll_in (l := bl s) (a := m) (by rw [HL.out]; exact hml) e1
        rw [HG]
        have hPV : bs (padVar v (n : Int)) = s.extract m (m + n) := by
          rw [padVar_yes (vlen_fit_le e2 e6) e3]
          exact ext_take e5.symm (pad_lt n v)
        rw [List.length_drop, HL.out] at e4
        have hv0 : (0 : Int) ≤ (v : Int) := by omega
        have hv1 : (v : Int) ≤ 18446744073709551615 := by omega
        have hms : m + n ≤ s.size := by omega
        have HP := Lib.hid hPV
        clear hPV HG e1 e2 e3 e4 e5 e6 e7 hc
        have hsl : (0 : Int) ≤ (m : Int) := by omega
        have hsl2 : (m : Int) ≤ (m : Int) + (n : Int) := by omega
        have hsl3 : (m : Int) + (n : Int) ≤ (s.size : Int) := by omega
        have hnn : IntKind.i64.wrap ((m : Int) + (n : Int) - (m : Int)) = (n : Int) := by rw [IntWalk.i64_in _ (by omega)]; omega
        have HN := Lib.hid hnn
        clear hnn
        go_wp2_with fail
        go_region_held3 (fun w' => Below w1.heap.size w1 w') (first | exact (Below.refl _ _).drew | exact (Below.refl _ _).drew.trans hb3)
          (first | (go_at_call 19; refine (cI_PadVar _ _ _ hv0 hv1).mono ?_; rintro e w3 ⟨rfl, hb3⟩))
        all_goals go_wp2
        all_goals go_ret
        all_goals exact ⟨ret_bool (by rw [HN.out, HP.out, show ((m : Int) + (n : Int)).toNat = m + n from by omega]; simp), hb1.trans ((by assumption : Below w1.heap.size w1 _).mono hb1.size)⟩
      · obtain ⟨v, n, c, hg⟩ : ∃ v n c, gvAll (bl s) (m : Int) = (v, n, c) := ⟨_, _, _, rfl⟩
        have hc0 : c ≠ 0 := by
          intro h0
          have h1 := gvAll_in (l := bl s) (a := m) (by rw [HL.out]; exact hml) (v := (gv ((bl s).drop m) 0 0).1) (n := (gv ((bl s).drop m) 0 0).2.1) (c := (gv ((bl s).drop m) 0 0).2.2) rfl
          rw [hg] at h1
          injection h1 with _ h2
          injection h2 with _ h3
          exact hc (by rw [← h3, h0])
        rw [hg]
        have hcb : ((c : Int) != 0) = true := by simp; exact hc0
        have HG := Lib.hid hg
        clear hg hc hc0
        go_wp2_with fail
        go_quiet (fail)
        go_wp2
        go_ret
        exact ⟨rfl, hb1.trans ((below_drewN' _ _).mono hb1.size)⟩
  · go_enter Try.func13, Try.ntmps13
    go_wp2_with (go_at_call 26; refine (c_big _ _ _ _).mono ?_; rintro e w' ⟨rfl, rfl⟩; rw [hbig])
    go_ret
    exact ⟨rfl, Below.refl _ _⟩
/-- the code of a decoding is 0, 1 or 2; where the place is out of range it is 1 -/
theorem gvAll_cases (s : ByteArray) (m : Nat) (hm : m ≤ s.size) :
    (∃ v n : Nat, gvAll (bl s) (m : Int) = (v, (m : Int) + (n : Int), 0) ∧ scanL (bl (s.extract m s.size)) 0 0 = ((v : Int), (n : Int), n, 1) ∧ m + n ≤ s.size) ∨
    (∃ v : Nat, gvAll (bl s) (m : Int) = (0, (m : Int) + 9, 2) ∧ scanL (bl (s.extract m s.size)) 0 0 = ((v : Int), 9, 10, 2)) ∨
    (∃ v d : Nat, s.size = m + d ∧ gvAll (bl s) (m : Int) = (0, (s.size : Int), 1) ∧ scanL (bl (s.extract m s.size)) 0 0 = ((v : Int), (d : Int), d, 0) ∧ d ≤ 9 ∧ v < 2 ^ (7 * d)) := by
  have hL := bl_length s
  have hx : bl (s.extract m s.size) = (bl s).drop m := by rw [bl_extract, List.take_of_length_le (by omega)]
  have hml : m ≤ (bl s).length := by omega
  rw [hx]
  rcases scan_gv ((bl s).drop m) 0 0 (by omega) (by simp) (fun b hb => bl_lt s b (List.mem_of_mem_drop hb)) with ⟨v, n, g1, g2, g3⟩ | ⟨v, g1, g2⟩ | ⟨v, g1, g2, g3, g4⟩
  · rw [Nat.zero_add] at g1 g2
    exact .inl ⟨v, n, gvAll_in hml g1, g2, by rw [List.length_drop, hL] at g3; omega⟩
  · exact .inr (.inl ⟨v, gvAll_in hml g1, g2⟩)
  · rw [Nat.zero_add, List.length_drop, hL] at g1 g2 g3 g4
    refine .inr (.inr ⟨v, s.size - m, by omega, ?_, g2, g3, g4⟩)
    rw [gvAll_in hml g1]
    rw [show (m : Int) + ((s.size - m : Nat) : Int) = (s.size : Int) from by omega]
set_option maxRecDepth 20000 in
set_option maxHeartbeats 1000000 in
theorem walkFnScan (a : Option Addr) (len cap : Nat) (z : List Int) (w : World) (hr : IsRow .u8 w a len cap z) : Calls Try.prog 12 #[.slice a len cap] w fun e w' => e = .returned (.bool true) ∧ Below w.heap.size w w' := by
  have hcode := Lib.hid (code_of_row hr)
  clear hr
  rcases hbig : decide (1048576 < len) with _ | _
  · have hl : len ≤ 1048576 := by simp at hbig; omega
    go_enter Try.func12, Try.ntmps12
    go_wp2_with (go_at_call 26; refine (c_big _ _ _ _).mono ?_; rintro e w' ⟨rfl, rfl⟩; rw [hbig])
    refine (d_DrawGetVar _ hl hcode.out).mono ?_
    rintro e w1 ⟨s, y, hs, hy0, hy1, rfl, hb1⟩
    by_cases hneg : y < 0
    · go_wp2
      go_ret
      exact ⟨rfl, hb1.trans (Below.refl _ _)⟩
    by_cases hpos : (s.size : Int) < y
    · go_wp2
      go_ret
      exact ⟨rfl, hb1⟩
    obtain ⟨m, rfl⟩ := Int.eq_ofNat_of_zero_le (show 0 ≤ y by omega)
    have hml : m ≤ s.size := by omega
    go_wp2_with fail
    refine (cP_GetVar _ _ _ (by omega) hy0 hy1).mono ?_
    rintro e w2 ⟨rfl, rfl⟩
    rcases gvAll_cases s m hml with ⟨v, n, g1, g2, hmn⟩ | ⟨v, g1, g2⟩ | ⟨v, d, hd, g1, g2, g3, g4⟩
    · obtain ⟨N, hN⟩ : ∃ N : Int, N = (m : Int) + (n : Int) := ⟨_, rfl⟩
      rw [← hN] at g1
      have hN0 : (m : Int) ≤ N := by omega
      have hN1 : N ≤ (s.size : Int) := by omega
      have hne : ((n : Int) == N - (m : Int)) = true := by simp; omega
      have HN := Lib.hid hN
      clear hN hmn
      rw [g1]
      have HG2 := Lib.hid g2
      clear g1 g2
      go_wp2_with fail
      refine (cI_ScanText _ _ _ _ (by omega) (by omega) (Nat.le_trans (extract_le _ _ _) (by omega))).mono ?_
      rintro e w3 ⟨rfl, hb3⟩
      rw [HG2.out]
      go_wp2_with fail
      go_ret
      exact ⟨ret_bool (by simp), by repeat (first | exact hb1 | refine Below.alloc ?_ (by have := hb1.size; have := hb3.size; simp; omega) _ | refine Below.trans ?_ (hb3.mono (by have := hb1.size; simp; omega)))⟩
    · rw [g1]
      have HG2 := Lib.hid g2
      clear g1 g2
      go_wp2_with fail
      refine (cI_ScanText _ _ _ _ (by omega) (by omega) (Nat.le_trans (extract_le _ _ _) (by omega))).mono ?_
      rintro e w3 ⟨rfl, hb3⟩
      rw [HG2.out]
      go_wp2_with fail
      go_ret
      exact ⟨ret_bool rfl, by repeat (first | exact hb1 | refine Below.alloc ?_ (by have := hb1.size; have := hb3.size; simp; omega) _ | refine Below.trans ?_ (hb3.mono (by have := hb1.size; simp; omega)))⟩
    · have hde : ((d : Int) == (s.size : Int) - (m : Int)) = true := by rw [hd]; simp; omega
      have HD := Lib.hid hd
      clear hd
      have hv63 : v < 9223372036854775808 := Nat.lt_of_lt_of_le g4 (Nat.le_trans (Nat.pow_le_pow_right (show 0 < 2 by omega) (show 7 * d ≤ 63 by omega)) (by decide))
      have HOK := Lib.hid (scanOk_mk g3 g4)
      clear g4
      rw [g1]
      have HG2 := Lib.hid g2
      clear g1 g2
      go_wp2_with fail
      refine (cI_ScanText _ _ _ _ (by omega) (by omega) (Nat.le_trans (extract_le _ _ _) (by omega))).mono ?_
      rintro e w3 ⟨rfl, hb3⟩
      rw [HG2.out]
      go_wp2_with fail
      refine (cP_ScanOk _ _ _ (by omega) (by omega)).mono ?_
      rintro e w4 ⟨rfl, rfl⟩
      rw [HOK.out]
      go_wp2
      go_ret
      exact ⟨ret_bool rfl, by repeat (first | exact hb1 | refine Below.alloc ?_ (by have := hb1.size; have := hb3.size; simp; omega) _ | refine Below.trans ?_ (hb3.mono (by have := hb1.size; simp; omega)))⟩
  · go_enter Try.func12, Try.ntmps12
    go_wp2_with (go_at_call 26; refine (c_big _ _ _ _).mono ?_; rintro e w' ⟨rfl, rfl⟩; rw [hbig])
    go_ret
    exact ⟨rfl, Below.refl _ _⟩
end Go.Proofs.Ytojhbhhlbgkeoaa
