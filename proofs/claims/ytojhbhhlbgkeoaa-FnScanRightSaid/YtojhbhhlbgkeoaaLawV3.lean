/- Walks of the varint laws. Conditions: the code's bytes can be read. -/
import Derived.Test.YtojhbhhlbgkeoaaDrawV
import Derived.Test.YtojhbhhlbgkeoaaGetC
namespace Go.Proofs.Ytojhbhhlbgkeoaa
open Go.RowKit Plain
set_option linter.unusedVariables false
set_option linter.unusedSimpArgs false
theorem notEmpty {s : ByteArray} (h : 0 < s.size) : s.toList.isEmpty = false := by
  rw [ByteArray.toList_eq]
  have : 0 < s.data.size := h
  simp [List.isEmpty_iff]
  intro e; rw [e] at this; simp at this
theorem c_big (a : Option Addr) (len cap : Nat) (w : World) : Calls Try.prog 26 #[.slice a len cap] w fun e w' => e = .returned (.bool (decide (1048576 < len))) ∧ w = w' := by
  go_enter Try.func26, Try.ntmps26
  go_wp2
  go_ret
  exact ⟨ret_bool (by rw [Bool.eq_iff_iff]; simp; omega), rfl⟩
set_option maxHeartbeats 1000000 in
theorem walkFnVarCut (a : Option Addr) (len cap : Nat) (z : List Int) (w : World) (hr : IsRow .u8 w a len cap z) : Calls Try.prog 9 #[.slice a len cap] w fun e w' => e = .returned (.bool true) ∧ Below w.heap.size w w' := by
  have hcode := Lib.hid (code_of_row hr)
  clear hr
  rcases hbig : decide (1048576 < len) with _ | _
  · have hl : len ≤ 1048576 := by simp at hbig; omega
    go_enter Try.func9, Try.ntmps9
    go_wp2_with (go_at_call 26; refine (c_big _ _ _ _).mono ?_; rintro e w' ⟨rfl, rfl⟩; rw [hbig])
    refine (d_DrawPutVar _ hl hcode.out).mono ?_
    rintro e w1 ⟨u, hu0, hu1, rfl, hb1⟩
    go_wp2_with fail
    refine (cI_PutVar _ _ hu0 hu1).mono ?_
    rintro e w2 ⟨rfl, hb2⟩
    go_wp2_with fail
    refine (cP_VarLen _ _ hu0 hu1).mono ?_
    rintro e w3 ⟨rfl, hb3⟩
    obtain ⟨n, rfl⟩ := Int.eq_ofNat_of_zero_le hu0
    simp only [Int.toNat_natCast]
    have hn : n < 18446744073709551616 := by omega
    have hsz : (bs (put n)).size = vlen n := bs_size _
    have hbl : bl (bs (put n)) = pad (vlen n) n := by rw [bl_bs _ (put_lt n hn)]; exact put_pad n hn
    generalize bs (put n) = s at hsz hbl
    have hne : ((s.size : Int) != (vlen n : Int)) = false := by rw [hsz]; simp
    have HB := Lib.hid hbl
    have HS := Lib.hid hsz
    have hs10 : s.size ≤ 10 := by rw [hsz]; exact vlen_le n
    clear hbl hsz
    go_wp2_with fail
    go_loopw [5] (fun c wr => ∃ k : Nat, k ≤ s.size ∧ c = .int .i64 k ∧ Below w.heap.size w wr) (fun c _ => s.size - (intOf c).toNat)
    case atStart => exact ⟨0, Nat.zero_le _, rfl, (hb1.trans (hb2.mono hb1.size)).trans (hb3.mono (by have := hb1.size; have := hb2.size; omega))⟩
    case round =>
      obtain ⟨k, hk, rfl, hbel⟩ := hrel
      by_cases hlt : k < s.size
      · have HG : Hid (gvAll (bl (s.extract 0 k)) ((0 : Nat) : Int) = (0, ((0 : Nat) : Int) + (k : Int), 1)) := Lib.hid (by
          have hsk := HS.out
          have hle := vlen_le n
          have h1 : bl (s.extract 0 k) = (pad (vlen n) n).take k := by rw [bl_extract, HB.out]; simp
          rw [h1]
          have h2 := gv_cut (vlen n) n 0 0 k (by omega) (by omega)
          exact gvAll_in (Nat.zero_le _) (by simpa using h2))
        go_wp2_with (go_at_call 17; refine (cI_GetVar _ _ _ (Nat.le_trans (extract_le _ _ _) (by omega)) (by omega) (by omega)).mono ?_; rintro e w4 ⟨rfl, rfl⟩; rw [show (0 : Int) = ((0 : Nat) : Int) from rfl, HG.out])
        go_roundw
        case rel => exact ⟨k + 1, by omega, by go_num, hbel⟩
        case measure => simp [intOf]; omega
      · go_wp2
        go_ret
        exact ⟨rfl, hbel⟩
  · go_enter Try.func9, Try.ntmps9
    go_wp2_with (go_at_call 26; refine (c_big _ _ _ _).mono ?_; rintro e w' ⟨rfl, rfl⟩; rw [hbig])
    go_ret
    exact ⟨rfl, Below.refl _ _⟩
set_option maxHeartbeats 1000000 in
theorem walkFnVar (a : Option Addr) (len cap : Nat) (z : List Int) (w : World) (hr : IsRow .u8 w a len cap z) : Calls Try.prog 10 #[.slice a len cap] w fun e w' => e = .returned (.bool true) ∧ Below w.heap.size w w' := by
  have hcode := Lib.hid (code_of_row hr)
  clear hr
  rcases hbig : decide (1048576 < len) with _ | _
  · have hl : len ≤ 1048576 := by simp at hbig; omega
    go_enter Try.func10, Try.ntmps10
    go_wp2_with (go_at_call 26; refine (c_big _ _ _ _).mono ?_; rintro e w' ⟨rfl, rfl⟩; rw [hbig])
    refine (d_DrawPadVar _ hl hcode.out).mono ?_
    rintro e w1 ⟨u, k, hu0, hu1, hk0, hk1, rfl, hb1⟩
    go_wp2_with fail
    refine (cI_PadVar _ _ _ hu0 hu1).mono ?_
    rintro e w2 ⟨rfl, hb2⟩
    obtain ⟨n, rfl⟩ := Int.eq_ofNat_of_zero_le hu0
    simp only [Int.toNat_natCast]
    have hn : n < 18446744073709551616 := by omega
    have hB2 := hb1.trans (hb2.mono hb1.size)
    rcases hin : inB k (vlen n) 10 with _ | _
    · rw [padVar_no hin]
      have he : bs [] = (⟨#[]⟩ : ByteArray) := rfl
      rw [he]
      have hno := inB_no hin
      go_wp2_with (go_at_call 29; refine (cP_VarLen _ _ hu0 hu1).mono ?_; rintro e w3 ⟨rfl, hb3⟩; rw [Int.toNat_natCast])
      all_goals go_ret
      all_goals exact ⟨ret_bool (by first | rfl | (simp; omega)), hB2.trans (hb3.mono hB2.size)⟩
    · obtain ⟨hk1, hk2⟩ := inB_yes hin
      obtain ⟨m, rfl⟩ := Int.eq_ofNat_of_zero_le (show 0 ≤ k by omega)
      have hvp := vlen_pos n
      rw [padVar_yes (show vlen n ≤ m by omega) (show m ≤ 10 by omega)]
      have hsz : (bs (pad m n)).size = m := by rw [bs_size, pad_length]
      have hbl : bl (bs (pad m n)) = pad m n := bl_bs _ (pad_lt m n)
      generalize bs (pad m n) = s at hsz hbl
      have HB := Lib.hid hbl
      have HS := Lib.hid hsz
      have hs1 : 0 < s.size := by omega
      have hs10 : s.size ≤ 10 := by omega
      clear hbl hsz hin
      have hse := notEmpty hs1
      have HG : Hid (gvAll (bl ((⟨#[97, 98]⟩ : ByteArray) ++ s ++ (⟨#[99]⟩ : ByteArray))) ((2 : Nat) : Int) = (n, ((2 : Nat) : Int) + (m : Int), 0)) := Lib.hid (by
        have h1 : bl ((⟨#[97, 98]⟩ : ByteArray) ++ s ++ (⟨#[99]⟩ : ByteArray)) = [97, 98] ++ pad m n ++ [99] := by rw [bl_append, bl_append, HB.out]; rfl
        rw [h1]
        have h2 := gv_pad m n 0 0 [99] (by omega) (by omega) (Nat.lt_of_lt_of_le (vlen_fits n hn) (pow_mono (by omega))) (by simpa using hn)
        exact gvAll_in (by simp) (by simpa using h2))
      have hcat : ((⟨#[97, 98]⟩ : ByteArray) ++ s ++ (⟨#[99]⟩ : ByteArray)).size ≤ 1048576 := by
        rw [ByteArray.size_append, ByteArray.size_append]
        have h1 : (⟨#[97, 98]⟩ : ByteArray).size = 2 := rfl
        have h2 : (⟨#[99]⟩ : ByteArray).size = 1 := rfl
        omega
      have HC := Lib.hid hcat
      clear hcat
      go_wp2_with fail
      refine (cI_GetVar _ _ _ HC.out (by omega) (by omega)).mono ?_
      rintro e w3 ⟨rfl, rfl⟩
      rw [show (2 : Int) = ((2 : Nat) : Int) from rfl, HG.out]
      have e1 : ((s.size : Int) == (m : Int)) = true := by rw [HS.out]; simp
      go_wp2_with fail
      refine (cI_VarLen _ _ hu0 hu1).mono ?_
      rintro e w3 ⟨rfl, rfl⟩
      rw [Int.toNat_natCast]
      have hle : ((vlen n : Nat) : Int) ≤ (m : Int) := by omega
      go_wp2_with fail
      refine (cI_VarLen _ _ hu0 hu1).mono ?_
      rintro e w3 ⟨rfl, rfl⟩
      rw [Int.toNat_natCast]
      go_wp2_with fail
      refine (cI_PadVar _ _ _ hu0 hu1).mono ?_
      rintro e w3 ⟨rfl, hb3⟩
      rw [Int.toNat_natCast, padVar_self n hn]
      go_wp2_with fail
      refine (cI_PutVar _ _ hu0 hu1).mono ?_
      rintro e w4 ⟨rfl, hb4⟩
      rw [Int.toNat_natCast]
      go_wp2
      go_ret
      have hB3 := hB2.trans (hb3.mono hB2.size)
      exact ⟨rfl, hB3.trans (hb4.mono hB3.size)⟩
  · go_enter Try.func10, Try.ntmps10
    go_wp2_with (go_at_call 26; refine (c_big _ _ _ _).mono ?_; rintro e w' ⟨rfl, rfl⟩; rw [hbig])
    go_ret
    exact ⟨rfl, Below.refl _ _⟩
end Go.Proofs.Ytojhbhhlbgkeoaa
