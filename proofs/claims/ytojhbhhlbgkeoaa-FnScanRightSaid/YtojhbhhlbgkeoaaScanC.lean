/- Contracts of the scan functions. Conditions: integers fit their kinds. -/
import Derived.Test.YtojhbhhlbgkeoaaRow
import Derived.Test.YtojhbhhlbgkeoaaVar
import Derived.Test.YtojhbhhlbgkeoaaNum
import Derived.Test.YtojhbhhlbgkeoaaTop
namespace Go.Proofs.Ytojhbhhlbgkeoaa
open Go.RowKit Plain
set_option linter.unusedVariables false
set_option linter.unusedSimpArgs false
def scanOk (b h : Int) : Bool := inB h 0 9 && (b / 2 ^ (7 * h).toNat == 0)
theorem scanOk_yes {b h : Int} (k : scanOk b h = true) : (0 ≤ h ∧ h ≤ 9) ∧ b / 2 ^ (7 * h).toNat = 0 := by
  simp only [scanOk, Bool.and_eq_true, beq_iff_eq] at k; exact ⟨inB_yes k.1, k.2⟩
theorem cP_ScanOk (b h : Int) (w : World) (h0 : 0 ≤ b) (h1 : b ≤ 18446744073709551615) : Calls Try.prog 35 #[.agg #[.int .u64 b, .int .i64 h]] w fun e w' => e = .returned (.bool (scanOk b h)) ∧ w.alloc (.cells #[.int .u64 b, .int .i64 h] 32) = w' := by
  rcases hin : inB h 0 9 with _ | _
  · go_enter Try.func35, Try.ntmps35
    go_wp2_with (go_at_call 36; refine (cP_in _ _ _ _).mono ?_; rintro e w' ⟨rfl, rfl⟩)
    go_ret
    exact ⟨ret_bool (by rw [scanOk, hin]; rfl), rfl⟩
  · obtain ⟨hk1, hk2⟩ := inB_yes hin
    go_enter Try.func35, Try.ntmps35
    go_wp2_with (go_at_call 36; refine (cP_in _ _ _ _).mono ?_; rintro e w' ⟨rfl, rfl⟩)
    go_ret
    exact ⟨ret_bool (by rw [scanOk, hin]; rfl), rfl⟩
theorem cI_ScanOk (b h : Int) (w : World) (h0 : 0 ≤ b) (h1 : b ≤ 18446744073709551615) : Calls Try.prog 33 #[.agg #[.int .u64 b, .int .i64 h]] w fun e w' => e = .returned (.bool (scanOk b h)) ∧ w.alloc (.cells #[.int .u64 b, .int .i64 h] 32) = w' := by
  rcases hin : inB h 0 9 with _ | _
  · go_enter Try.func33, Try.ntmps33
    go_wp2_with (go_at_call 37; refine (cI_within _ _ _ _).mono ?_; rintro e w' ⟨rfl, rfl⟩)
    go_ret
    exact ⟨ret_bool (by rw [scanOk, hin]; rfl), rfl⟩
  · obtain ⟨hk1, hk2⟩ := inB_yes hin
    go_enter Try.func33, Try.ntmps33
    go_wp2_with (go_at_call 37; refine (cI_within _ _ _ _).mono ?_; rintro e w' ⟨rfl, rfl⟩)
    go_ret
    exact ⟨ret_bool (by rw [scanOk, hin]; rfl), rfl⟩

theorem wrap7 {y : Nat} : IntKind.u64.wrap ((y % 128 : Nat) : Int) = ((y % 128 : Nat) : Int) := IntWalk.u64_in _ (by omega)
theorem fitN {b : Int} {k : Nat} (h0 : 0 ≤ b) (hz : b / 2 ^ (7 * (k : Int)).toNat = 0) : ∃ u : Nat, b = (u : Int) ∧ u < 2 ^ (7 * k) := by
  obtain ⟨u, rfl⟩ := Int.eq_ofNat_of_zero_le h0
  refine ⟨u, rfl, ?_⟩
  rw [show (7 * (k : Int)).toNat = 7 * k from by omega, cast_pow] at hz
  have hp : 0 < 2 ^ (7 * k) := Nat.pow_pos (by omega)
  have hz' : ((u / 2 ^ (7 * k) : Nat) : Int) = 0 := hz
  have hz'' : u / 2 ^ (7 * k) = 0 := by omega
  rcases Nat.div_eq_zero_iff.1 hz'' with h | h
  · omega
  · exact h
theorem sbBP {b h x : Int} (h0 : 0 ≤ b) (hx0 : 0 ≤ x) (hx1 : x ≤ 255) (hh : 0 ≤ h) (hh8 : h ≤ 8) (hz : b / 2 ^ (7 * h).toNat = 0) :
    IntKind.u64.wrap (b + IntKind.u64.wrap (x % 128 * 2 ^ (7 * h).toNat)) = b + x % 128 * 2 ^ (7 * h).toNat := by
  obtain ⟨k, rfl⟩ := Int.eq_ofNat_of_zero_le hh
  obtain ⟨u, rfl, hu⟩ := fitN h0 hz
  obtain ⟨y, rfl⟩ := Int.eq_ofNat_of_zero_le hx0
  rw [show (7 * (k : Int)).toNat = 7 * k from by omega, mod128 y, sum_top (Nat.mod_lt _ (by omega)) (by omega) (by omega) hu, cast_pow]
  simp
theorem sbBI {b h x : Int} (h0 : 0 ≤ b) (hx0 : 0 ≤ x) (hx1 : x ≤ 255) (hh : 0 ≤ h) (hh8 : h ≤ 8) (hz : b / 2 ^ (7 * h).toNat = 0) :
    bits .or .u64 b (IntKind.u64.wrap (IntKind.u64.wrap (bits .and .i64 x 127) * 2 ^ (7 * h).toNat)) = b + x % 128 * 2 ^ (7 * h).toNat := by
  obtain ⟨k, rfl⟩ := Int.eq_ofNat_of_zero_le hh
  obtain ⟨u, rfl, hu⟩ := fitN h0 hz
  obtain ⟨y, rfl⟩ := Int.eq_ofNat_of_zero_le hx0
  rw [and127_i64 _ hx0 hx1, mod128 y, wrap7, show (7 * (k : Int)).toNat = 7 * k from by omega, or_top (Nat.mod_lt _ (by omega)) (by omega) (by omega) hu, cast_pow]
  simp
theorem sbBP9 {b x : Int} (h0 : 0 ≤ b) (hx0 : 0 ≤ x) (hx1 : x ≤ 1) (hz : b / 2 ^ (7 * 9 : Int).toNat = 0) :
    IntKind.u64.wrap (b + x % 128 * 9223372036854775808) = b + x % 128 * 2 ^ (7 * 9 : Int).toNat := by
  obtain ⟨u, rfl, hu⟩ := fitN (k := 9) h0 hz
  obtain ⟨y, rfl⟩ := Int.eq_ofNat_of_zero_le hx0
  have := sum_top (u := u) (y := y % 128) (k := 9) (Nat.mod_lt _ (by omega)) (by omega) (by omega) hu
  rw [show (2 : Int) ^ (7 * 9) = 9223372036854775808 from by decide] at this
  have e : IntKind.u64.wrap (((y % 128 : Nat) : Int) * 9223372036854775808) = ((y % 128 : Nat) : Int) * 9223372036854775808 := IntWalk.u64_in _ (by omega)
  rw [e] at this
  rw [mod128 y, this, show (7 * 9 : Int).toNat = 7 * 9 from rfl, cast_pow]
  simp
theorem sbBI9 {b x : Int} (h0 : 0 ≤ b) (hx0 : 0 ≤ x) (hx1 : x ≤ 1) (hz : b / 2 ^ (7 * 9 : Int).toNat = 0) :
    bits .or .u64 b (IntKind.u64.wrap (IntKind.u64.wrap (bits .and .i64 x 127) * 9223372036854775808)) = b + x % 128 * 2 ^ (7 * 9 : Int).toNat := by
  obtain ⟨u, rfl, hu⟩ := fitN (k := 9) h0 hz
  obtain ⟨y, rfl⟩ := Int.eq_ofNat_of_zero_le hx0
  have := or_top (u := u) (y := y % 128) (k := 9) (Nat.mod_lt _ (by omega)) (by omega) (by omega) hu
  rw [show (2 : Int) ^ (7 * 9) = 9223372036854775808 from by decide] at this
  rw [and127_i64 _ hx0 (by omega), mod128 y, wrap7, this, show (7 * 9 : Int).toNat = 7 * 9 from rfl, cast_pow]
  simp
def sbOver (b h x : Int) : Bool := !(scanOk b h) || !(inB x 0 255) || (decide (h = 9) && decide (1 < x))
def sbBits (b h x : Int) : Int := if sbOver b h x = true then b else b + x % 128 * 2 ^ (7 * h).toNat
def sbHave (b h x : Int) : Int := if sbOver b h x = true then h else h + 1
def sbCode (b h x : Int) : Int := if sbOver b h x = true then 2 else if x < 128 then 1 else 0
theorem isByte_c (n : Int) (w : World) : Calls Try.prog 38 #[.int .i64 n] w fun e w' => e = .returned (.bool (inB n 0 255)) ∧ w = w' := by
  go_enter Try.func38, Try.ntmps38
  go_wp2_with (go_at_call 37; refine (cI_within _ _ _ _).mono ?_; rintro e w' ⟨rfl, rfl⟩)
  go_ret
  exact ⟨rfl, rfl⟩
theorem ret_sb {b h x B H C : Int} (e1 : B = sbBits b h x) (e2 : H = sbHave b h x) (e3 : C = sbCode b h x) :
    Ending.returned (.tuple #[.agg #[.int .u64 B, .int .i64 H], .int .i64 C]) = .returned (.tuple #[.agg #[.int .u64 (sbBits b h x), .int .i64 (sbHave b h x)], .int .i64 (sbCode b h x)]) := by rw [e1, e2, e3]
theorem no_eqs {b h x : Int} (k : sbOver b h x = false) : b + x % 128 * 2 ^ (7 * h).toNat = sbBits b h x ∧ h + 1 = sbHave b h x ∧ (x < 128 → (1 : Int) = sbCode b h x) ∧ (¬ x < 128 → (0 : Int) = sbCode b h x) := by
  refine ⟨by simp [sbBits, k], by simp [sbHave, k], fun h => by simp [sbCode, k, h], fun h => by simp [sbCode, k, h]⟩
theorem over_eqs {b h x : Int} (k : sbOver b h x = true) : b = sbBits b h x ∧ h = sbHave b h x ∧ (2 : Int) = sbCode b h x := by
  simp only [sbBits, sbHave, sbCode, k, if_true, and_self]
set_option maxRecDepth 20000 in
set_option maxHeartbeats 1000000 in
theorem cP_ScanByte (b h x : Int) (w : World) (h0 : 0 ≤ b) (h1 : b ≤ 18446744073709551615) : Calls Try.prog 20 #[.agg #[.int .u64 b, .int .i64 h], .int .i64 x] w fun e w' => e = .returned (.tuple #[.agg #[.int .u64 (sbBits b h x), .int .i64 (sbHave b h x)], .int .i64 (sbCode b h x)]) ∧ Below w.heap.size w w' := by
  rcases hok : scanOk b h with _ | _
  · obtain ⟨q1, q2, q3⟩ := over_eqs (b := b) (h := h) (x := x) (by simp [sbOver, hok])
    have Q1 := Lib.hid q1; have Q2 := Lib.hid q2; have Q3 := Lib.hid q3; clear q1 q2 q3
    go_enter Try.func20, Try.ntmps20
    go_wp2_with (first | (go_at_call 35; refine (cP_ScanOk _ _ _ h0 h1).mono ?_; rintro e w' ⟨rfl, rfl⟩) | (go_at_call 36; refine (cP_in _ _ _ _).mono ?_; rintro e w' ⟨rfl, rfl⟩))
    exact bodyPost_ret (v := .tuple #[.agg #[.int .u64 b, .int .i64 h], .int .i64 2]) (by simp [results, Try.results20, go_sem]) rfl ⟨ret_sb Q1.out Q2.out Q3.out, by repeat (first | exact Below.refl _ _ | refine Below.alloc ?_ (by simp; omega) _ | refine Below.alloc ?_ (by simp) _)⟩
  · obtain ⟨⟨hh0, hh9⟩, hz⟩ := scanOk_yes hok
    have HZ := Lib.hid hz
    clear hz
    rcases hin : inB x 0 255 with _ | _
    · obtain ⟨q1, q2, q3⟩ := over_eqs (b := b) (h := h) (x := x) (by simp [sbOver, hin])
      have Q1 := Lib.hid q1; have Q2 := Lib.hid q2; have Q3 := Lib.hid q3; clear q1 q2 q3
      go_enter Try.func20, Try.ntmps20
      go_wp2_with (first | (go_at_call 35; refine (cP_ScanOk _ _ _ h0 h1).mono ?_; rintro e w' ⟨rfl, rfl⟩) | (go_at_call 36; refine (cP_in _ _ _ _).mono ?_; rintro e w' ⟨rfl, rfl⟩))
      exact bodyPost_ret (v := .tuple #[.agg #[.int .u64 b, .int .i64 h], .int .i64 2]) (by simp [results, Try.results20, go_sem]) rfl ⟨ret_sb Q1.out Q2.out Q3.out, by repeat (first | exact Below.refl _ _ | refine Below.alloc ?_ (by simp; omega) _ | refine Below.alloc ?_ (by simp) _)⟩
    · obtain ⟨hx0, hx1⟩ := inB_yes hin
      by_cases h9 : h = 9 ∧ 1 < x
      · obtain ⟨rfl, h1x⟩ := h9
        obtain ⟨q1, q2, q3⟩ := over_eqs (b := b) (h := 9) (x := x) (by simp [sbOver, h1x])
        have Q1 := Lib.hid q1; have Q2 := Lib.hid q2; have Q3 := Lib.hid q3; clear q1 q2 q3
        have hd : decide (1 < x) = true := by simpa using h1x
        go_enter Try.func20, Try.ntmps20
        go_wp2_with (first | (go_at_call 35; refine (cP_ScanOk _ _ _ h0 h1).mono ?_; rintro e w' ⟨rfl, rfl⟩) | (go_at_call 36; refine (cP_in _ _ _ _).mono ?_; rintro e w' ⟨rfl, rfl⟩))
        exact bodyPost_ret (v := .tuple #[.agg #[.int .u64 b, .int .i64 9], .int .i64 2]) (by simp [results, Try.results20, go_sem]) rfl ⟨ret_sb Q1.out Q2.out Q3.out, by repeat (first | exact Below.refl _ _ | refine Below.alloc ?_ (by simp; omega) _ | refine Below.alloc ?_ (by simp) _)⟩
      · have hov : sbOver b h x = false := by simp [sbOver, hok, hin]; omega
        have HO := Lib.hid hov
        clear hov
        have hd : (h == 9 && decide (1 < x)) = false := by simp; omega
        by_cases e9 : h = 9
        · subst e9
          have hd : decide (1 < x) = false := by simp; omega
          have hx1' : x ≤ 1 := by omega
          have VB := Lib.hid (sbBP9 h0 hx0 hx1' HZ.out)
          go_enter Try.func20, Try.ntmps20
          go_wp2_with (first | (go_at_call 35; refine (cP_ScanOk _ _ _ h0 h1).mono ?_; rintro e w' ⟨rfl, rfl⟩) | (go_at_call 36; refine (cP_in _ _ _ _).mono ?_; rintro e w' ⟨rfl, rfl⟩))
          exact bodyPost_ret (v := .tuple #[.agg #[.int .u64 (IntKind.u64.wrap (b + x % 128 * 9223372036854775808)), .int .i64 10], .int .i64 1]) (by simp [results, Try.results20, go_sem]) rfl ⟨ret_sb (VB.out.trans (no_eqs HO.out).1) (no_eqs HO.out).2.1 ((no_eqs HO.out).2.2.1 (by omega)), by repeat (first | exact Below.refl _ _ | refine Below.alloc ?_ (by simp; omega) _ | refine Below.alloc ?_ (by simp) _)⟩
        · have VB := Lib.hid (sbBP h0 hx0 hx1 (show 0 ≤ h from hh0) (show h ≤ 8 by omega) HZ.out)
          by_cases h128 : x < 128
          · go_enter Try.func20, Try.ntmps20
            go_wp2_with (first | (go_at_call 35; refine (cP_ScanOk _ _ _ h0 h1).mono ?_; rintro e w' ⟨rfl, rfl⟩) | (go_at_call 36; refine (cP_in _ _ _ _).mono ?_; rintro e w' ⟨rfl, rfl⟩))
            exact bodyPost_ret (v := .tuple #[.agg #[.int .u64 (IntKind.u64.wrap (b + IntKind.u64.wrap (x % 128 * 2 ^ (7 * h).toNat))), .int .i64 (h + 1)], .int .i64 1]) (by simp [results, Try.results20, go_sem]) rfl ⟨ret_sb (VB.out.trans (no_eqs HO.out).1) (no_eqs HO.out).2.1 ((no_eqs HO.out).2.2.1 (by omega)), by repeat (first | exact Below.refl _ _ | refine Below.alloc ?_ (by simp; omega) _ | refine Below.alloc ?_ (by simp) _)⟩
          · go_enter Try.func20, Try.ntmps20
            go_wp2_with (first | (go_at_call 35; refine (cP_ScanOk _ _ _ h0 h1).mono ?_; rintro e w' ⟨rfl, rfl⟩) | (go_at_call 36; refine (cP_in _ _ _ _).mono ?_; rintro e w' ⟨rfl, rfl⟩))
            exact bodyPost_ret (v := .tuple #[.agg #[.int .u64 (IntKind.u64.wrap (b + IntKind.u64.wrap (x % 128 * 2 ^ (7 * h).toNat))), .int .i64 (h + 1)], .int .i64 0]) (by simp [results, Try.results20, go_sem]) rfl ⟨ret_sb (VB.out.trans (no_eqs HO.out).1) (no_eqs HO.out).2.1 ((no_eqs HO.out).2.2.2 (by omega)), by repeat (first | exact Below.refl _ _ | refine Below.alloc ?_ (by simp; omega) _ | refine Below.alloc ?_ (by simp) _)⟩
set_option maxRecDepth 20000 in
set_option maxHeartbeats 1000000 in
theorem cI_ScanByte (b h x : Int) (w : World) (h0 : 0 ≤ b) (h1 : b ≤ 18446744073709551615) : Calls Try.prog 22 #[.agg #[.int .u64 b, .int .i64 h], .int .i64 x] w fun e w' => e = .returned (.tuple #[.agg #[.int .u64 (sbBits b h x), .int .i64 (sbHave b h x)], .int .i64 (sbCode b h x)]) ∧ Below w.heap.size w w' := by
  rcases hok : scanOk b h with _ | _
  · obtain ⟨q1, q2, q3⟩ := over_eqs (b := b) (h := h) (x := x) (by simp [sbOver, hok])
    have Q1 := Lib.hid q1; have Q2 := Lib.hid q2; have Q3 := Lib.hid q3; clear q1 q2 q3
    go_enter Try.func22, Try.ntmps22
    go_wp2_with (first | (go_at_call 33; refine (cI_ScanOk _ _ _ h0 h1).mono ?_; rintro e w' ⟨rfl, rfl⟩) | (go_at_call 37; refine (cI_within _ _ _ _).mono ?_; rintro e w' ⟨rfl, rfl⟩) | (go_at_call 38; refine (isByte_c _ _).mono ?_; rintro e w' ⟨rfl, rfl⟩))
    exact bodyPost_ret (v := .tuple #[.agg #[.int .u64 b, .int .i64 h], .int .i64 2]) (by simp [results, Try.results22, go_sem]) rfl ⟨ret_sb Q1.out Q2.out Q3.out, by repeat (first | exact Below.refl _ _ | refine Below.alloc ?_ (by simp; omega) _ | refine Below.alloc ?_ (by simp) _)⟩
  · obtain ⟨⟨hh0, hh9⟩, hz⟩ := scanOk_yes hok
    have HZ := Lib.hid hz
    clear hz
    rcases hin : inB x 0 255 with _ | _
    · obtain ⟨q1, q2, q3⟩ := over_eqs (b := b) (h := h) (x := x) (by simp [sbOver, hin])
      have Q1 := Lib.hid q1; have Q2 := Lib.hid q2; have Q3 := Lib.hid q3; clear q1 q2 q3
      go_enter Try.func22, Try.ntmps22
      go_wp2_with (first | (go_at_call 33; refine (cI_ScanOk _ _ _ h0 h1).mono ?_; rintro e w' ⟨rfl, rfl⟩) | (go_at_call 37; refine (cI_within _ _ _ _).mono ?_; rintro e w' ⟨rfl, rfl⟩) | (go_at_call 38; refine (isByte_c _ _).mono ?_; rintro e w' ⟨rfl, rfl⟩))
      exact bodyPost_ret (v := .tuple #[.agg #[.int .u64 b, .int .i64 h], .int .i64 2]) (by simp [results, Try.results22, go_sem]) rfl ⟨ret_sb Q1.out Q2.out Q3.out, by repeat (first | exact Below.refl _ _ | refine Below.alloc ?_ (by simp; omega) _ | refine Below.alloc ?_ (by simp) _)⟩
    · obtain ⟨hx0, hx1⟩ := inB_yes hin
      by_cases h9 : h = 9 ∧ 1 < x
      · obtain ⟨rfl, h1x⟩ := h9
        obtain ⟨q1, q2, q3⟩ := over_eqs (b := b) (h := 9) (x := x) (by simp [sbOver, h1x])
        have Q1 := Lib.hid q1; have Q2 := Lib.hid q2; have Q3 := Lib.hid q3; clear q1 q2 q3
        have hd : decide (1 < x) = true := by simpa using h1x
        go_enter Try.func22, Try.ntmps22
        go_wp2_with (first | (go_at_call 33; refine (cI_ScanOk _ _ _ h0 h1).mono ?_; rintro e w' ⟨rfl, rfl⟩) | (go_at_call 37; refine (cI_within _ _ _ _).mono ?_; rintro e w' ⟨rfl, rfl⟩) | (go_at_call 38; refine (isByte_c _ _).mono ?_; rintro e w' ⟨rfl, rfl⟩))
        exact bodyPost_ret (v := .tuple #[.agg #[.int .u64 b, .int .i64 9], .int .i64 2]) (by simp [results, Try.results22, go_sem]) rfl ⟨ret_sb Q1.out Q2.out Q3.out, by repeat (first | exact Below.refl _ _ | refine Below.alloc ?_ (by simp; omega) _ | refine Below.alloc ?_ (by simp) _)⟩
      · have hov : sbOver b h x = false := by simp [sbOver, hok, hin]; omega
        have HO := Lib.hid hov
        clear hov
        have hd : (h == 9 && decide (1 < x)) = false := by simp; omega
        by_cases e9 : h = 9
        · subst e9
          have hd : decide (1 < x) = false := by simp; omega
          have hx1' : x ≤ 1 := by omega
          have VB := Lib.hid (sbBI9 h0 hx0 hx1' HZ.out)
          go_enter Try.func22, Try.ntmps22
          go_wp2_with (first | (go_at_call 33; refine (cI_ScanOk _ _ _ h0 h1).mono ?_; rintro e w' ⟨rfl, rfl⟩) | (go_at_call 37; refine (cI_within _ _ _ _).mono ?_; rintro e w' ⟨rfl, rfl⟩) | (go_at_call 38; refine (isByte_c _ _).mono ?_; rintro e w' ⟨rfl, rfl⟩))
          exact bodyPost_ret (v := .tuple #[.agg #[.int .u64 (bits .or .u64 b (IntKind.u64.wrap (IntKind.u64.wrap (bits .and .i64 x 127) * 9223372036854775808))), .int .i64 10], .int .i64 1]) (by simp [results, Try.results22, go_sem]) rfl ⟨ret_sb (VB.out.trans (no_eqs HO.out).1) (no_eqs HO.out).2.1 ((no_eqs HO.out).2.2.1 (by omega)), by repeat (first | exact Below.refl _ _ | refine Below.alloc ?_ (by simp; omega) _ | refine Below.alloc ?_ (by simp) _)⟩
        · have VB := Lib.hid (sbBI h0 hx0 hx1 (show 0 ≤ h from hh0) (show h ≤ 8 by omega) HZ.out)
          by_cases h128 : x < 128
          · go_enter Try.func22, Try.ntmps22
            go_wp2_with (first | (go_at_call 33; refine (cI_ScanOk _ _ _ h0 h1).mono ?_; rintro e w' ⟨rfl, rfl⟩) | (go_at_call 37; refine (cI_within _ _ _ _).mono ?_; rintro e w' ⟨rfl, rfl⟩) | (go_at_call 38; refine (isByte_c _ _).mono ?_; rintro e w' ⟨rfl, rfl⟩))
            exact bodyPost_ret (v := .tuple #[.agg #[.int .u64 (bits .or .u64 b (IntKind.u64.wrap (IntKind.u64.wrap (bits .and .i64 x 127) * 2 ^ (7 * h).toNat))), .int .i64 (h + 1)], .int .i64 1]) (by simp [results, Try.results22, go_sem]) rfl ⟨ret_sb (VB.out.trans (no_eqs HO.out).1) (no_eqs HO.out).2.1 ((no_eqs HO.out).2.2.1 (by omega)), by repeat (first | exact Below.refl _ _ | refine Below.alloc ?_ (by simp; omega) _ | refine Below.alloc ?_ (by simp) _)⟩
          · go_enter Try.func22, Try.ntmps22
            go_wp2_with (first | (go_at_call 33; refine (cI_ScanOk _ _ _ h0 h1).mono ?_; rintro e w' ⟨rfl, rfl⟩) | (go_at_call 37; refine (cI_within _ _ _ _).mono ?_; rintro e w' ⟨rfl, rfl⟩) | (go_at_call 38; refine (isByte_c _ _).mono ?_; rintro e w' ⟨rfl, rfl⟩))
            exact bodyPost_ret (v := .tuple #[.agg #[.int .u64 (bits .or .u64 b (IntKind.u64.wrap (IntKind.u64.wrap (bits .and .i64 x 127) * 2 ^ (7 * h).toNat))), .int .i64 (h + 1)], .int .i64 0]) (by simp [results, Try.results22, go_sem]) rfl ⟨ret_sb (VB.out.trans (no_eqs HO.out).1) (no_eqs HO.out).2.1 ((no_eqs HO.out).2.2.2 (by omega)), by repeat (first | exact Below.refl _ _ | refine Below.alloc ?_ (by simp; omega) _ | refine Below.alloc ?_ (by simp) _)⟩
end Go.Proofs.Ytojhbhhlbgkeoaa
