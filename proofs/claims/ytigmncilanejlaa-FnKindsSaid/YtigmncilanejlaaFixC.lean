/- Contracts of PutFix, GetFix, FixByte. Conditions: integers fit their kinds; a bound on the string. -/
import Derived.Test.YtigmncilanejlaaRow
import Derived.Test.YtigmncilanejlaaFix
import Derived.Test.YtigmncilanejlaaNum
import Derived.Test.YtigmncilanejlaaTop
namespace Go.Proofs.Ytigmncilanejlaa
open Go.RowKit Plain
set_option linter.unusedVariables false
set_option linter.unusedSimpArgs false
theorem u8s : U8s Try.prog 22 5 9 :=
  ⟨Try.underlying22, Try.underlying5, Try.underlying9, info_parts (show (Try.prog.info? 5).map (fun i => (i.zero, i.size, i.bytes)) = some (some (.int .u8 0), 1, 1) by kernel_rfl)⟩
theorem isWidth_c (n : Int) (w : World) : Calls Try.prog 37 #[.int .i64 n] w fun e w' => e = .returned (.bool (decide (n = 4) || decide (n = 8))) ∧ w = w' := by
  go_enter Try.func37, Try.ntmps37
  go_wp2
  all_goals (go_ret; exact ⟨ret_bool (by rw [Bool.eq_iff_iff]; first | (simp; done) | (simp; omega)), rfl⟩)
theorem putFix_no {u : Nat} {k : Int} (h : k ≠ 8) (h4 : k ≠ 4 ∨ 4294967296 ≤ u) : putFix u k = [] := by
  unfold putFix; rw [if_neg h, if_neg (by omega)]
theorem putFix8 (u : Nat) : putFix u 8 = fixL 8 u := by simp [putFix]
theorem putFix4 {u : Nat} (h : u < 4294967296) : putFix u 4 = fixL 4 u := by simp [putFix, h]
set_option maxHeartbeats 1000000 in
theorem cI_PutFix8 (u : Int) (w : World) (h0 : 0 ≤ u) (h1 : u ≤ 18446744073709551615) : Calls Try.prog 18 #[.int .u64 u, .int .i64 8] w fun e w' => e = .returned (.string (bs (putFix u.toNat 8))) ∧ Below w.heap.size w w' := by
  obtain ⟨n, rfl⟩ := Int.eq_ofNat_of_zero_le h0
  simp only [Int.toNat_natCast]
  have HP := Lib.hid (putFix8 n)
  have hmk : ∀ w : World, (Instr.makeSlice 22 (.int .i64 8) (.int .i64 8)).run Try.prog w = .ok (.slice (some ⟨w.heap.size, 0, none⟩) 8 8) (w.alloc (.cells (zeros 8) 5)) := run_make_row u8s 8 8 (Nat.le_refl _) (by omega)
  have hz := RowAt.made w 5 8 8 (Nat.le_refl _) (by unfold maxLen; omega)
  go_enter Try.func18, Try.ntmps18
  go_wp2_with (go_at_call 37; refine (isWidth_c _ _).mono ?_; rintro e w' ⟨rfl, rfl⟩)
  go_loopw [0, 23] (fun a c wr => ∃ i : Nat, i ≤ 8 ∧ a = .int .u64 (n / 256 ^ i : Nat) ∧ c = .int .i64 i ∧ RowAt wr w.heap.size 8 (FixS 8 i n) ∧ Below w.heap.size w wr) (fun _ c _ => 8 - (intOf c).toNat)
  case atStart => exact ⟨0, Nat.zero_le _, by simp, rfl, hz, (Below.refl _ _).alloc (Nat.le_refl _) _⟩
  case round =>
    obtain ⟨i, hi, rfl, rfl, hrow, hbel⟩ := hrel
    have hgl := hrow.lt
    obtain ⟨v, hv⟩ : ∃ v : Nat, v = n / 256 ^ i := ⟨_, rfl⟩
    have hvn : v ≤ n := by rw [hv]; exact Nat.div_le_self _ _
    rw [← hv]
    have HV := Lib.hid hv
    clear hv hz
    by_cases hlt : i < 8
    · have HL := Lib.hid (FixS_step (n := 8) n hlt)
      have hc := hrow.at_ i (by rw [FixS_length n hi]; omega)
      have hf := hrow.free i hlt
      go_wp2
      go_roundw
      case rel => exact ⟨i + 1, by omega, by rw [Nat.pow_succ, ← Nat.div_div_eq_div_mul, ← HV.out]; go_num, by go_num, by
            have h := hrow.set' i (n / 256 ^ i % 256) ((v : Int) % 256) hlt (by rw [HV.out]; omega)
            rw [HL.out] at h
            exact h, hbel.setCell (Nat.le_refl _) _⟩
      case measure => simp [intOf]; omega
    · obtain rfl : i = 8 := by omega
      have hrow' : RowAt wr w.heap.size 8 (fixL 8 n) := by rw [← FixS_end]; exact hrow
      have hconv := run_string_of_row' u8s hrow' 8 (fixL_length 8 n)
      go_wp2
      go_ret
      exact ⟨by rw [HP.out]; rfl, hbel⟩
set_option maxHeartbeats 1000000 in
theorem cI_PutFix4 (u : Int) (w : World) (h0 : 0 ≤ u) (h1 : u ≤ 4294967295) : Calls Try.prog 18 #[.int .u64 u, .int .i64 4] w fun e w' => e = .returned (.string (bs (putFix u.toNat 4))) ∧ Below w.heap.size w w' := by
  have hd : (u / 4294967296 != 0) = false := by simp; omega
  have hd' : (u / 4294967296 == 0) = true := by simp; omega
  obtain ⟨n, rfl⟩ := Int.eq_ofNat_of_zero_le h0
  simp only [Int.toNat_natCast]
  have HP := Lib.hid (putFix4 (u := n) (by omega))
  have hmk : ∀ w : World, (Instr.makeSlice 22 (.int .i64 4) (.int .i64 4)).run Try.prog w = .ok (.slice (some ⟨w.heap.size, 0, none⟩) 4 4) (w.alloc (.cells (zeros 4) 5)) := run_make_row u8s 4 4 (Nat.le_refl _) (by omega)
  have hz := RowAt.made w 5 4 4 (Nat.le_refl _) (by unfold maxLen; omega)
  go_enter Try.func18, Try.ntmps18
  go_wp2_with (go_at_call 37; refine (isWidth_c _ _).mono ?_; rintro e w' ⟨rfl, rfl⟩)
  go_loopw [0, 23] (fun a c wr => ∃ i : Nat, i ≤ 4 ∧ a = .int .u64 (n / 256 ^ i : Nat) ∧ c = .int .i64 i ∧ RowAt wr w.heap.size 4 (FixS 4 i n) ∧ Below w.heap.size w wr) (fun _ c _ => 4 - (intOf c).toNat)
  case atStart => exact ⟨0, Nat.zero_le _, by simp, rfl, hz, (Below.refl _ _).alloc (Nat.le_refl _) _⟩
  case round =>
    obtain ⟨i, hi, rfl, rfl, hrow, hbel⟩ := hrel
    have hgl := hrow.lt
    obtain ⟨v, hv⟩ : ∃ v : Nat, v = n / 256 ^ i := ⟨_, rfl⟩
    have hvn : v ≤ n := by rw [hv]; exact Nat.div_le_self _ _
    rw [← hv]
    have HV := Lib.hid hv
    clear hv hz
    by_cases hlt : i < 4
    · have HL := Lib.hid (FixS_step (n := 4) n hlt)
      have hc := hrow.at_ i (by rw [FixS_length n hi]; omega)
      have hf := hrow.free i hlt
      go_wp2
      go_roundw
      case rel => exact ⟨i + 1, by omega, by rw [Nat.pow_succ, ← Nat.div_div_eq_div_mul, ← HV.out]; go_num, by go_num, by
            have h := hrow.set' i (n / 256 ^ i % 256) ((v : Int) % 256) hlt (by rw [HV.out]; omega)
            rw [HL.out] at h
            exact h, hbel.setCell (Nat.le_refl _) _⟩
      case measure => simp [intOf]; omega
    · obtain rfl : i = 4 := by omega
      have hrow' : RowAt wr w.heap.size 4 (fixL 4 n) := by rw [← FixS_end]; exact hrow
      have hconv := run_string_of_row' u8s hrow' 4 (fixL_length 4 n)
      go_wp2
      go_ret
      exact ⟨by rw [HP.out]; rfl, hbel⟩

set_option maxHeartbeats 1000000 in
theorem cI_PutFix (u k : Int) (w : World) (h0 : 0 ≤ u) (h1 : u ≤ 18446744073709551615) : Calls Try.prog 18 #[.int .u64 u, .int .i64 k] w fun e w' => e = .returned (.string (bs (putFix u.toNat k))) ∧ Below w.heap.size w w' := by
  by_cases h8 : k = 8
  · subst h8; exact cI_PutFix8 u w h0 h1
  by_cases h4 : k = 4
  · subst h4
    by_cases hu : u < 4294967296
    · exact cI_PutFix4 u w h0 (by omega)
    · have hd : (u / 4294967296 != 0) = true := by simp; omega
      have hd' : (u / 4294967296 == 0) = false := by simp; omega
      have HP := Lib.hid (putFix_no (u := u.toNat) (k := 4) (by omega) (.inr (by omega)))
      go_enter Try.func18, Try.ntmps18
      go_wp2_with (go_at_call 37; refine (isWidth_c _ _).mono ?_; rintro e w' ⟨rfl, rfl⟩)
      go_ret
      exact ⟨by rw [HP.out]; rfl, Below.refl _ _⟩
  · have HP := Lib.hid (putFix_no (u := u.toNat) (k := k) h8 (.inl h4))
    have hd : (decide (k = 4) || decide (k = 8)) = false := by simp [h4, h8]
    have hd' : (k == 4) = false := by simp [h4]
    clear h8 h4
    go_enter Try.func18, Try.ntmps18
    go_wp2_with (go_at_call 37; refine (isWidth_c _ _).mono ?_; rintro e w' ⟨rfl, rfl⟩; rw [hd])
    go_ret
    exact ⟨by rw [HP.out]; rfl, Below.refl _ _⟩
set_option maxHeartbeats 1000000 in
theorem cP_PutFix8 (u : Int) (w : World) (h0 : 0 ≤ u) (h1 : u ≤ 18446744073709551615) : Calls Try.prog 20 #[.int .u64 u, .int .i64 8] w fun e w' => e = .returned (.string (bs (putFix u.toNat 8))) ∧ Below w.heap.size w w' := by
  obtain ⟨n, rfl⟩ := Int.eq_ofNat_of_zero_le h0
  simp only [Int.toNat_natCast]
  have HP := Lib.hid (putFix8 n)
  go_enter Try.func20, Try.ntmps20
  go_wp2
  have hz : RowAt (w.alloc (.cells #[] 5)) w.heap.size 0 [] := RowAt.new w #[] 5 [] (fun j hj => absurd hj (by simp)) (by simp) (by simp [maxLen])
  go_loopw [0, 5, 6] (fun a o c wr => ∃ (i g cap : Nat), i ≤ 8 ∧ a = .int .u64 (n / 256 ^ i : Nat) ∧ o = .slice (some ⟨g, 0, none⟩) i cap ∧ c = .int .i64 i ∧ RowAt wr g cap (fixL i n) ∧ w.heap.size ≤ g ∧ Below w.heap.size w wr) (fun _ _ c _ => 8 - (intOf c).toNat)
  case atStart => exact ⟨0, w.heap.size, 0, Nat.zero_le _, by simp, rfl, rfl, hz, Nat.le_refl _, (Below.refl _ _).alloc (Nat.le_refl _) _⟩
  case round =>
    obtain ⟨i, g, cap, hi, rfl, rfl, rfl, hrow, hg, hbel⟩ := hrel
    have hgl := hrow.lt
    obtain ⟨v, hv⟩ : ∃ v : Nat, v = n / 256 ^ i := ⟨_, rfl⟩
    have hvn : v ≤ n := by rw [hv]; exact Nat.div_le_self _ _
    rw [← hv]
    have HV := Lib.hid hv
    clear hv
    by_cases hlt : i < 8
    · have HL := Lib.hid (fixL_snoc i n)
      go_wp2_with (at_builtin; refine wpList_append_row' rfl _ _ u8s rfl (hrow.alloc _) i (fixL_length i n) rfl _ 1 1 [v % 256] rfl rfl (news1 _ _ _ _ (by simp) (by omega)) (by omega) ?_; intro g' cap' w1 hrow1 hgr1 hg1)
      go_roundw
      case rel =>
        rw [HV.out, ← HL.out] at hrow1
        exact ⟨i + 1, g', cap', by omega, by rw [Nat.pow_succ, ← Nat.div_div_eq_div_mul, ← HV.out]; go_num, by simp, by go_num, hrow1, by rcases hg1 with h | h <;> (try simp at h) <;> have := hbel.size <;> omega, (hbel.alloc hbel.size _).grown hgr1 (by have := hbel.size; simp; omega) (by intro k hk; cases hk; exact hg)⟩
      case measure => simp [intOf]; omega
    · obtain rfl : i = 8 := by omega
      have hconv := run_string_of_row' u8s hrow 8 (fixL_length 8 n)
      go_wp2
      go_ret
      exact ⟨by rw [HP.out]; rfl, hbel⟩
set_option maxHeartbeats 1000000 in
theorem cP_PutFix4 (u : Int) (w : World) (h0 : 0 ≤ u) (h1 : u ≤ 4294967295) : Calls Try.prog 20 #[.int .u64 u, .int .i64 4] w fun e w' => e = .returned (.string (bs (putFix u.toNat 4))) ∧ Below w.heap.size w w' := by
  obtain ⟨n, rfl⟩ := Int.eq_ofNat_of_zero_le h0
  simp only [Int.toNat_natCast]
  have HP := Lib.hid (putFix4 (u := n) (by omega))
  go_enter Try.func20, Try.ntmps20
  go_wp2
  have hz : RowAt (w.alloc (.cells #[] 5)) w.heap.size 0 [] := RowAt.new w #[] 5 [] (fun j hj => absurd hj (by simp)) (by simp) (by simp [maxLen])
  go_loopw [0, 5, 6] (fun a o c wr => ∃ (i g cap : Nat), i ≤ 4 ∧ a = .int .u64 (n / 256 ^ i : Nat) ∧ o = .slice (some ⟨g, 0, none⟩) i cap ∧ c = .int .i64 i ∧ RowAt wr g cap (fixL i n) ∧ w.heap.size ≤ g ∧ Below w.heap.size w wr) (fun _ _ c _ => 4 - (intOf c).toNat)
  case atStart => exact ⟨0, w.heap.size, 0, Nat.zero_le _, by simp, rfl, rfl, hz, Nat.le_refl _, (Below.refl _ _).alloc (Nat.le_refl _) _⟩
  case round =>
    obtain ⟨i, g, cap, hi, rfl, rfl, rfl, hrow, hg, hbel⟩ := hrel
    have hgl := hrow.lt
    obtain ⟨v, hv⟩ : ∃ v : Nat, v = n / 256 ^ i := ⟨_, rfl⟩
    have hvn : v ≤ n := by rw [hv]; exact Nat.div_le_self _ _
    rw [← hv]
    have HV := Lib.hid hv
    clear hv
    by_cases hlt : i < 4
    · have HL := Lib.hid (fixL_snoc i n)
      go_wp2_with (at_builtin; refine wpList_append_row' rfl _ _ u8s rfl (hrow.alloc _) i (fixL_length i n) rfl _ 1 1 [v % 256] rfl rfl (news1 _ _ _ _ (by simp) (by omega)) (by omega) ?_; intro g' cap' w1 hrow1 hgr1 hg1)
      go_roundw
      case rel =>
        rw [HV.out, ← HL.out] at hrow1
        exact ⟨i + 1, g', cap', by omega, by rw [Nat.pow_succ, ← Nat.div_div_eq_div_mul, ← HV.out]; go_num, by simp, by go_num, hrow1, by rcases hg1 with h | h <;> (try simp at h) <;> have := hbel.size <;> omega, (hbel.alloc hbel.size _).grown hgr1 (by have := hbel.size; simp; omega) (by intro k hk; cases hk; exact hg)⟩
      case measure => simp [intOf]; omega
    · obtain rfl : i = 4 := by omega
      have hconv := run_string_of_row' u8s hrow 4 (fixL_length 4 n)
      go_wp2
      go_ret
      exact ⟨by rw [HP.out]; rfl, hbel⟩

set_option maxHeartbeats 1000000 in
theorem cP_PutFix (u k : Int) (w : World) (h0 : 0 ≤ u) (h1 : u ≤ 18446744073709551615) : Calls Try.prog 20 #[.int .u64 u, .int .i64 k] w fun e w' => e = .returned (.string (bs (putFix u.toNat k))) ∧ Below w.heap.size w w' := by
  by_cases h8 : k = 8
  · subst h8; exact cP_PutFix8 u w h0 h1
  by_cases h4 : k = 4
  · subst h4
    by_cases hu : u < 4294967296
    · exact cP_PutFix4 u w h0 (by omega)
    · have hu' : 4294967295 < u := by omega
      have HP := Lib.hid (putFix_no (u := u.toNat) (k := 4) (by omega) (.inr (by omega)))
      go_enter Try.func20, Try.ntmps20
      go_wp2
      go_ret
      exact ⟨by rw [HP.out]; rfl, Below.refl _ _⟩
  · have HP := Lib.hid (putFix_no (u := u.toNat) (k := k) h8 (.inl h4))
    go_enter Try.func20, Try.ntmps20
    go_wp2
    go_ret
    exact ⟨by rw [HP.out]; rfl, Below.refl _ _⟩
end Go.Proofs.Ytigmncilanejlaa
