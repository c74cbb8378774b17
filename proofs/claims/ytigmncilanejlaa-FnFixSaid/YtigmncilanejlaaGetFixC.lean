/- Contracts of GetFix. Conditions: integers fit their kinds; a bound on the string. -/
import Derived.Test.YtigmncilanejlaaFixC
namespace Go.Proofs.Ytigmncilanejlaa
open Go.RowKit Plain
set_option linter.unusedVariables false
set_option linter.unusedSimpArgs false
def win (l : List Nat) (m n : Nat) : List Nat := (l.drop m).take n
theorem win_length {l : List Nat} {m n : Nat} (h : m + n ≤ l.length) : (win l m n).length = n := by simp [win]; omega
theorem win_get {l : List Nat} {m n i : Nat} (h : m + n ≤ l.length) (hi : i < n) : (win l m n).getD i 0 = l.getD (m + i) 0 := by
  unfold win
  simp [List.getD, List.getElem?_take, List.getElem?_drop, hi]
theorem win_lt {l : List Nat} {m n : Nat} (h : ∀ b ∈ l, b < 256) : ∀ b ∈ win l m n, b < 256 := fun b hb => h b (List.mem_of_mem_drop (List.mem_of_mem_take hb))
theorem fix_in {l : List Nat} {m n : Nat} (hn : n = 4 ∨ n = 8) (h : m + n ≤ l.length) : fixOk l m n = true ∧ fixV l m n = valL (win l m n) := by
  have : fixOk l m n = true := by simp [fixOk]; omega
  exact ⟨this, fix_yes this⟩
theorem fix_out {l : List Nat} {a k : Int} (h : ¬ (k = 4 ∨ k = 8) ∨ a < 0 ∨ (l.length : Int) - k < a) : fixOk l a k = false ∧ fixV l a k = 0 := by
  have : fixOk l a k = false := by
    simp only [fixOk, Bool.and_eq_false_iff, Bool.or_eq_false_iff, decide_eq_false_iff_not]; omega
  exact ⟨this, fix_no this⟩
theorem ret_fix {l : List Nat} {a k V : Int} {b : Bool} {v : Nat} (h : fixOk l a k = b ∧ fixV l a k = v) (hv : V = (v : Int)) :
    Ending.returned (.tuple #[.int .u64 V, .bool b]) = .returned (.tuple #[.int .u64 (fixV l a k : Nat), .bool (fixOk l a k)]) := by
  rw [h.1, h.2, hv]
theorem pow_le8 {n : Nat} (h : n ≤ 8) : (256 : Nat) ^ n ≤ 18446744073709551616 := by
  calc (256 : Nat) ^ n ≤ 256 ^ 8 := Nat.pow_le_pow_right (by omega) h
    _ = _ := by decide
theorem or_fix {u x i : Nat} (hx : x < 256) (hi : i ≤ 7) (hu : u < 256 ^ i) :
    bits .or .u64 (u : Int) (IntKind.u64.wrap ((x : Int) * 2 ^ (8 * i))) = ((u + x * 256 ^ i : Nat) : Int) := by
  rw [pow8] at hu ⊢
  have h2 : (x + 1) * 2 ^ (8 * i) ≤ 18446744073709551616 := by
    calc (x + 1) * 2 ^ (8 * i) ≤ 256 * 2 ^ (8 * 7) := Nat.mul_le_mul (by omega) (Nat.pow_le_pow_right (by omega) (by omega))
      _ = _ := by decide
  have h3 := Nat.succ_mul x (2 ^ (8 * i))
  rw [Nat.succ_eq_add_one] at h3
  have e : (x : Int) * 2 ^ (8 * i) = (x : Int) * ((2 ^ (8 * i) : Nat) : Int) := by rw [cast_pow]
  have e2 : (x : Int) * ((2 ^ (8 * i) : Nat) : Int) = ((x * 2 ^ (8 * i) : Nat) : Int) := by simp
  have e3 : IntKind.u64.wrap ((x * 2 ^ (8 * i) : Nat) : Int) = ((x * 2 ^ (8 * i) : Nat) : Int) := IntWalk.u64_in _ (by omega)
  rw [e, e2, e3, ← e2, orJoin _ _ _ (by omega) (by omega) (by omega) (by rw [e2]; omega), e2]; omega
set_option maxRecDepth 20000 in
set_option maxHeartbeats 1000000 in
theorem cI_GetFix8 (s : ByteArray) (a : Int) (w : World) (hs : s.size ≤ 1048576) (h0 : -9223372036854775808 ≤ a) (h1 : a ≤ 9223372036854775807) : Calls Try.prog 16 #[.string s, .int .i64 a, .int .i64 8] w fun e w' => e = .returned (.tuple #[.int .u64 (fixV (bl s) a 8 : Nat), .bool (fixOk (bl s) a 8)]) ∧ w = w' := by
  have HL := Lib.hid (bl_length s)
  rcases hin : inB a 0 ((s.size : Int) - 8) with _ | _
  · have HO := Lib.hid (fix_out (l := bl s) (a := a) (k := 8) (by have := inB_no hin; rw [HL.out]; omega))
    go_enter Try.func16, Try.ntmps16
    go_wp2_with (first | (go_at_call 31; refine (cI_within _ _ _ _).mono ?_; rintro e w' ⟨rfl, rfl⟩) | (go_at_call 37; refine (isWidth_c _ _).mono ?_; rintro e w' ⟨rfl, rfl⟩))
    go_ret2
    exact ⟨ret_fix HO.out rfl, rfl⟩
  · obtain ⟨hk1, hk2⟩ := inB_yes hin
    obtain ⟨m, rfl⟩ := Int.eq_ofNat_of_zero_le hk1
    have hmn : m + 8 ≤ s.size := by omega
    have HY := Lib.hid (fix_in (l := bl s) (m := m) (n := 8) (by omega) (by rw [HL.out]; exact hmn))
    have HB := Lib.hid (win_lt (m := m) (n := 8) (bl_lt s))
    have HW := Lib.hid (win_length (l := bl s) (m := m) (n := 8) (by rw [HL.out]; exact hmn))
    go_enter Try.func16, Try.ntmps16
    go_wp2_with (first | (go_at_call 31; refine (cI_within _ _ _ _).mono ?_; rintro e w' ⟨rfl, rfl⟩) | (go_at_call 37; refine (isWidth_c _ _).mono ?_; rintro e w' ⟨rfl, rfl⟩))
    go_loop [8, 23] (fun u c => ∃ i : Nat, i ≤ 8 ∧ u = .int .u64 (valL ((win (bl s) m 8).take i) : Nat) ∧ c = .int .i64 i) (fun _ c => 8 - (intOf c).toNat)
    case atStart => exact ⟨0, Nat.zero_le _, by simp [valL], rfl⟩
    case round =>
      obtain ⟨i, hi, rfl, rfl⟩ := hrel
      by_cases hlt : i < 8
      · have hms : m + i < s.size := by omega
        have hx : (s[m + i]).toNat < 256 := (s[m + i]).toNat_lt
        have HG := Lib.hid (bl_get s (m + i) hms)
        have HS := Lib.hid ((congrArg valL (take_snoc' (l := win (bl s) m 8) (i := i) (by rw [HW.out]; exact hlt))).trans (valL_snoc _ _))
        have hvu := valL_lt ((win (bl s) m 8).take i) (fun b hb => HB.out b (List.mem_of_mem_take hb))
        rw [List.length_take, HW.out, Nat.min_eq_left hi] at hvu
        obtain ⟨u, hu⟩ : ∃ u, u = valL ((win (bl s) m 8).take i) := ⟨_, rfl⟩
        rw [← hu] at hvu ⊢
        have HU := Lib.hid hu
        have HV := Lib.hid hvu
        clear hu hvu
        go_wp2
        go_round
        case rel => exact ⟨i + 1, by omega, congrArg (Value.int IntKind.u64) ((or_fix hx (by omega) HV.out).trans (by rw [HS.out, ← HU.out, List.length_take, HW.out, Nat.min_eq_left hi, win_get (by rw [HL.out]; exact hmn) hlt, HG.out])), by go_num⟩
        case measure => simp [intOf]; omega
      · obtain rfl : i = 8 := by omega
        go_wp2
        go_ret2
        exact ⟨ret_fix HY.out (by rw [List.take_of_length_le (by rw [HW.out]; omega)]), rfl⟩
set_option maxRecDepth 20000 in
set_option maxHeartbeats 1000000 in
theorem cP_GetFix8 (s : ByteArray) (a : Int) (w : World) (hs : s.size ≤ 1048576) (h0 : -9223372036854775808 ≤ a) (h1 : a ≤ 9223372036854775807) : Calls Try.prog 17 #[.string s, .int .i64 a, .int .i64 8] w fun e w' => e = .returned (.tuple #[.int .u64 (fixV (bl s) a 8 : Nat), .bool (fixOk (bl s) a 8)]) ∧ w = w' := by
  have HL := Lib.hid (bl_length s)
  rcases hin : inB a 0 ((s.size : Int) - 8) with _ | _
  · have HO := Lib.hid (fix_out (l := bl s) (a := a) (k := 8) (by have := inB_no hin; rw [HL.out]; omega))
    go_enter Try.func17, Try.ntmps17
    go_wp2_with (first | (go_at_call 32; refine (cP_in _ _ _ _).mono ?_; rintro e w' ⟨rfl, rfl⟩))
    go_ret2
    exact ⟨ret_fix HO.out rfl, rfl⟩
  · obtain ⟨hk1, hk2⟩ := inB_yes hin
    obtain ⟨m, rfl⟩ := Int.eq_ofNat_of_zero_le hk1
    have hmn : m + 8 ≤ s.size := by omega
    have HY := Lib.hid (fix_in (l := bl s) (m := m) (n := 8) (by omega) (by rw [HL.out]; exact hmn))
    have HB := Lib.hid (win_lt (m := m) (n := 8) (bl_lt s))
    have HW := Lib.hid (win_length (l := bl s) (m := m) (n := 8) (by rw [HL.out]; exact hmn))
    go_enter Try.func17, Try.ntmps17
    go_wp2_with (first | (go_at_call 32; refine (cP_in _ _ _ _).mono ?_; rintro e w' ⟨rfl, rfl⟩))
    go_loop [8, 9] (fun u c => ∃ j : Nat, j ≤ 8 ∧ u = .int .u64 (valL ((win (bl s) m 8).drop j) : Nat) ∧ c = .int .i64 ((j : Int) - 1)) (fun _ c => (intOf c + 1).toNat)
    case atStart => exact ⟨8, Nat.le_refl _, by rw [List.drop_of_length_le (by rw [HW.out]; omega)]; rfl, rfl⟩
    case round =>
      obtain ⟨j, hj, rfl, rfl⟩ := hrel
      by_cases hlt : 1 ≤ j
      · obtain ⟨i, rfl⟩ : ∃ i, j = i + 1 := ⟨j - 1, by omega⟩
        rw [show ((i + 1 : Nat) : Int) - 1 = (i : Int) from by omega]
        have hms : m + i < s.size := by omega
        have hx : (s[m + i]).toNat < 256 := (s[m + i]).toNat_lt
        have HG := Lib.hid (bl_get s (m + i) hms)
        have HS := Lib.hid (congrArg valL (drop_cons (l := win (bl s) m 8) (i := i) (by rw [HW.out]; omega)))
        have hvu := valL_lt ((win (bl s) m 8).drop (i + 1)) (fun b hb => HB.out b (List.mem_of_mem_drop hb))
        rw [List.length_drop, HW.out] at hvu
        have hvu' := Nat.lt_of_lt_of_le hvu (Nat.pow_le_pow_right (show 0 < 256 by omega) (show 8 - (i + 1) ≤ 7 by omega))
        rw [show (256 : Nat) ^ 7 = 72057594037927936 from by decide] at hvu'
        obtain ⟨u, hu⟩ : ∃ u, u = valL ((win (bl s) m 8).drop (i + 1)) := ⟨_, rfl⟩
        rw [← hu] at hvu' ⊢
        have HU := Lib.hid hu
        clear hu hvu
        go_wp2
        go_round
        case rel => exact ⟨i, by omega, congrArg (Value.int IntKind.u64) (by rw [HS.out, valL, ← HU.out, win_get (by rw [HL.out]; exact hmn) (by omega), HG.out]; omega), rfl⟩
        case measure => simp [intOf]
      · obtain rfl : j = 0 := by omega
        go_wp2
        go_ret2
        exact ⟨ret_fix HY.out rfl, rfl⟩
set_option maxRecDepth 20000 in
set_option maxHeartbeats 1000000 in
theorem cI_GetFix4 (s : ByteArray) (a : Int) (w : World) (hs : s.size ≤ 1048576) (h0 : -9223372036854775808 ≤ a) (h1 : a ≤ 9223372036854775807) : Calls Try.prog 16 #[.string s, .int .i64 a, .int .i64 4] w fun e w' => e = .returned (.tuple #[.int .u64 (fixV (bl s) a 4 : Nat), .bool (fixOk (bl s) a 4)]) ∧ w = w' := by
  have HL := Lib.hid (bl_length s)
  rcases hin : inB a 0 ((s.size : Int) - 4) with _ | _
  · have HO := Lib.hid (fix_out (l := bl s) (a := a) (k := 4) (by have := inB_no hin; rw [HL.out]; omega))
    go_enter Try.func16, Try.ntmps16
    go_wp2_with (first | (go_at_call 31; refine (cI_within _ _ _ _).mono ?_; rintro e w' ⟨rfl, rfl⟩) | (go_at_call 37; refine (isWidth_c _ _).mono ?_; rintro e w' ⟨rfl, rfl⟩))
    go_ret2
    exact ⟨ret_fix HO.out rfl, rfl⟩
  · obtain ⟨hk1, hk2⟩ := inB_yes hin
    obtain ⟨m, rfl⟩ := Int.eq_ofNat_of_zero_le hk1
    have hmn : m + 4 ≤ s.size := by omega
    have HY := Lib.hid (fix_in (l := bl s) (m := m) (n := 4) (by omega) (by rw [HL.out]; exact hmn))
    have HB := Lib.hid (win_lt (m := m) (n := 4) (bl_lt s))
    have HW := Lib.hid (win_length (l := bl s) (m := m) (n := 4) (by rw [HL.out]; exact hmn))
    go_enter Try.func16, Try.ntmps16
    go_wp2_with (first | (go_at_call 31; refine (cI_within _ _ _ _).mono ?_; rintro e w' ⟨rfl, rfl⟩) | (go_at_call 37; refine (isWidth_c _ _).mono ?_; rintro e w' ⟨rfl, rfl⟩))
    go_loop [8, 23] (fun u c => ∃ i : Nat, i ≤ 4 ∧ u = .int .u64 (valL ((win (bl s) m 4).take i) : Nat) ∧ c = .int .i64 i) (fun _ c => 4 - (intOf c).toNat)
    case atStart => exact ⟨0, Nat.zero_le _, by simp [valL], rfl⟩
    case round =>
      obtain ⟨i, hi, rfl, rfl⟩ := hrel
      by_cases hlt : i < 4
      · have hms : m + i < s.size := by omega
        have hx : (s[m + i]).toNat < 256 := (s[m + i]).toNat_lt
        have HG := Lib.hid (bl_get s (m + i) hms)
        have HS := Lib.hid ((congrArg valL (take_snoc' (l := win (bl s) m 4) (i := i) (by rw [HW.out]; exact hlt))).trans (valL_snoc _ _))
        have hvu := valL_lt ((win (bl s) m 4).take i) (fun b hb => HB.out b (List.mem_of_mem_take hb))
        rw [List.length_take, HW.out, Nat.min_eq_left hi] at hvu
        obtain ⟨u, hu⟩ : ∃ u, u = valL ((win (bl s) m 4).take i) := ⟨_, rfl⟩
        rw [← hu] at hvu ⊢
        have HU := Lib.hid hu
        have HV := Lib.hid hvu
        clear hu hvu
        go_wp2
        go_round
        case rel => exact ⟨i + 1, by omega, congrArg (Value.int IntKind.u64) ((or_fix hx (by omega) HV.out).trans (by rw [HS.out, ← HU.out, List.length_take, HW.out, Nat.min_eq_left hi, win_get (by rw [HL.out]; exact hmn) hlt, HG.out])), by go_num⟩
        case measure => simp [intOf]; omega
      · obtain rfl : i = 4 := by omega
        go_wp2
        go_ret2
        exact ⟨ret_fix HY.out (by rw [List.take_of_length_le (by rw [HW.out]; omega)]), rfl⟩
set_option maxRecDepth 20000 in
set_option maxHeartbeats 1000000 in
theorem cP_GetFix4 (s : ByteArray) (a : Int) (w : World) (hs : s.size ≤ 1048576) (h0 : -9223372036854775808 ≤ a) (h1 : a ≤ 9223372036854775807) : Calls Try.prog 17 #[.string s, .int .i64 a, .int .i64 4] w fun e w' => e = .returned (.tuple #[.int .u64 (fixV (bl s) a 4 : Nat), .bool (fixOk (bl s) a 4)]) ∧ w = w' := by
  have HL := Lib.hid (bl_length s)
  rcases hin : inB a 0 ((s.size : Int) - 4) with _ | _
  · have HO := Lib.hid (fix_out (l := bl s) (a := a) (k := 4) (by have := inB_no hin; rw [HL.out]; omega))
    go_enter Try.func17, Try.ntmps17
    go_wp2_with (first | (go_at_call 32; refine (cP_in _ _ _ _).mono ?_; rintro e w' ⟨rfl, rfl⟩))
    go_ret2
    exact ⟨ret_fix HO.out rfl, rfl⟩
  · obtain ⟨hk1, hk2⟩ := inB_yes hin
    obtain ⟨m, rfl⟩ := Int.eq_ofNat_of_zero_le hk1
    have hmn : m + 4 ≤ s.size := by omega
    have HY := Lib.hid (fix_in (l := bl s) (m := m) (n := 4) (by omega) (by rw [HL.out]; exact hmn))
    have HB := Lib.hid (win_lt (m := m) (n := 4) (bl_lt s))
    have HW := Lib.hid (win_length (l := bl s) (m := m) (n := 4) (by rw [HL.out]; exact hmn))
    go_enter Try.func17, Try.ntmps17
    go_wp2_with (first | (go_at_call 32; refine (cP_in _ _ _ _).mono ?_; rintro e w' ⟨rfl, rfl⟩))
    go_loop [8, 9] (fun u c => ∃ j : Nat, j ≤ 4 ∧ u = .int .u64 (valL ((win (bl s) m 4).drop j) : Nat) ∧ c = .int .i64 ((j : Int) - 1)) (fun _ c => (intOf c + 1).toNat)
    case atStart => exact ⟨4, Nat.le_refl _, by rw [List.drop_of_length_le (by rw [HW.out]; omega)]; rfl, rfl⟩
    case round =>
      obtain ⟨j, hj, rfl, rfl⟩ := hrel
      by_cases hlt : 1 ≤ j
      · obtain ⟨i, rfl⟩ : ∃ i, j = i + 1 := ⟨j - 1, by omega⟩
        rw [show ((i + 1 : Nat) : Int) - 1 = (i : Int) from by omega]
        have hms : m + i < s.size := by omega
        have hx : (s[m + i]).toNat < 256 := (s[m + i]).toNat_lt
        have HG := Lib.hid (bl_get s (m + i) hms)
        have HS := Lib.hid (congrArg valL (drop_cons (l := win (bl s) m 4) (i := i) (by rw [HW.out]; omega)))
        have hvu := valL_lt ((win (bl s) m 4).drop (i + 1)) (fun b hb => HB.out b (List.mem_of_mem_drop hb))
        rw [List.length_drop, HW.out] at hvu
        have hvu' := Nat.lt_of_lt_of_le hvu (Nat.pow_le_pow_right (show 0 < 256 by omega) (show 4 - (i + 1) ≤ 7 by omega))
        rw [show (256 : Nat) ^ 7 = 72057594037927936 from by decide] at hvu'
        obtain ⟨u, hu⟩ : ∃ u, u = valL ((win (bl s) m 4).drop (i + 1)) := ⟨_, rfl⟩
        rw [← hu] at hvu' ⊢
        have HU := Lib.hid hu
        clear hu hvu
        go_wp2
        go_round
        case rel => exact ⟨i, by omega, congrArg (Value.int IntKind.u64) (by rw [HS.out, valL, ← HU.out, win_get (by rw [HL.out]; exact hmn) (by omega), HG.out]; omega), rfl⟩
        case measure => simp [intOf]
      · obtain rfl : j = 0 := by omega
        go_wp2
        go_ret2
        exact ⟨ret_fix HY.out rfl, rfl⟩
set_option maxHeartbeats 1000000 in
theorem cI_GetFix (s : ByteArray) (a k : Int) (w : World) (hs : s.size ≤ 1048576) (h0 : -9223372036854775808 ≤ a) (h1 : a ≤ 9223372036854775807) : Calls Try.prog 16 #[.string s, .int .i64 a, .int .i64 k] w fun e w' => e = .returned (.tuple #[.int .u64 (fixV (bl s) a k : Nat), .bool (fixOk (bl s) a k)]) ∧ w = w' := by
  by_cases h8 : k = 8
  · subst h8; exact cI_GetFix8 s a w hs h0 h1
  by_cases h4 : k = 4
  · subst h4; exact cI_GetFix4 s a w hs h0 h1
  · have HO := Lib.hid (fix_out (l := bl s) (a := a) (k := k) (.inl (by omega)))
    have hd : (decide (k = 4) || decide (k = 8)) = false := by simp [h4, h8]
    clear h8 h4
    go_enter Try.func16, Try.ntmps16
    go_wp2_with (go_at_call 37; refine (isWidth_c _ _).mono ?_; rintro e w' ⟨rfl, rfl⟩; rw [hd])
    go_ret2
    exact ⟨ret_fix HO.out rfl, rfl⟩
set_option maxHeartbeats 1000000 in
theorem cP_GetFix (s : ByteArray) (a k : Int) (w : World) (hs : s.size ≤ 1048576) (h0 : -9223372036854775808 ≤ a) (h1 : a ≤ 9223372036854775807) : Calls Try.prog 17 #[.string s, .int .i64 a, .int .i64 k] w fun e w' => e = .returned (.tuple #[.int .u64 (fixV (bl s) a k : Nat), .bool (fixOk (bl s) a k)]) ∧ w = w' := by
  by_cases h8 : k = 8
  · subst h8; exact cP_GetFix8 s a w hs h0 h1
  by_cases h4 : k = 4
  · subst h4; exact cP_GetFix4 s a w hs h0 h1
  · have HO := Lib.hid (fix_out (l := bl s) (a := a) (k := k) (.inl (by omega)))
    go_enter Try.func17, Try.ntmps17
    go_wp2
    go_ret2
    exact ⟨ret_fix HO.out rfl, rfl⟩
end Go.Proofs.Ytigmncilanejlaa
