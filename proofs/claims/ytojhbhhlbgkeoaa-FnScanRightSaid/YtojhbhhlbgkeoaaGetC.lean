/- Contracts of GetVar. Conditions: an integer fits its kind; a bound on the string. -/
import Derived.Test.YtojhbhhlbgkeoaaVarC
import Derived.Test.YtojhbhhlbgkeoaaTop
namespace Go.Proofs.Ytojhbhhlbgkeoaa
open Go.RowKit Plain
set_option linter.unusedVariables false
set_option linter.unusedSimpArgs false

theorem ret_gv {l : List Nat} {a V N C : Int} {v : Nat} {n : Int} {c : Nat} (h : gvAll l a = (v, n, c)) (hv : V = v) (hn : N = n) (hc : C = c) :
    Ending.returned (.tuple #[.int .u64 V, .int .i64 N, .int .i64 C]) = .returned (.tuple #[.int .u64 (gvAll l a).1, .int .i64 (gvAll l a).2.1, .int .i64 (gvAll l a).2.2]) := by
  rw [h, hv, hn, hc]
set_option maxRecDepth 20000 in
set_option maxHeartbeats 1000000 in
theorem cP_GetVar (s : ByteArray) (a : Int) (w : World) (hs : s.size ≤ 1048576) (h0 : -9223372036854775808 ≤ a) (h1 : a ≤ 9223372036854775807) : Calls Try.prog 16 #[.string s, .int .i64 a] w fun e w' => e = .returned (.tuple #[.int .u64 (gvAll (bl s) a).1, .int .i64 (gvAll (bl s) a).2.1, .int .i64 (gvAll (bl s) a).2.2]) ∧ w = w' := by
  rcases hin : inB a 0 s.size with _ | _
  · go_enter Try.func16, Try.ntmps16
    go_wp2_with (go_at_call 36; refine (cP_in _ _ _ _).mono ?_; rintro e w' ⟨rfl, rfl⟩)
    go_ret3
    exact ⟨ret_gv (gvAll_out (by have := inB_no hin; rw [bl_length]; omega)) rfl rfl rfl, rfl⟩
  · obtain ⟨hk1, hk2⟩ := inB_yes hin
    obtain ⟨m, rfl⟩ := Int.eq_ofNat_of_zero_le hk1
    have HL := Lib.hid (bl_length s)
    go_enter Try.func16, Try.ntmps16
    go_wp2_with (go_at_call 36; refine (cP_in _ _ _ _).mono ?_; rintro e w' ⟨rfl, rfl⟩)
    go_loop [7, 8] (fun a b => ∃ k u : Nat, GvRel (bl s) m k u ∧ a = .int .u64 u ∧ b = .int .i64 k) (fun _ b => 10 - (intOf b).toNat)
    case atStart => exact ⟨0, 0, GvRel.start (by rw [HL.out]; omega), rfl, rfl⟩
    case round =>
      obtain ⟨k, u, hr, rfl, rfl⟩ := hrel
      have hk9 : k ≤ 9 := hr.2.1
      have hu := Lib.hid hr.2.2.1
      by_cases hlt : m + k < s.size
      · have hx : (s[m + k]).toNat < 256 := (s[m + k]).toNat_lt
        have HG := Lib.hid (bl_get s (m + k) hlt)
        have HR := Lib.hid hr
        clear hr
        by_cases h9 : k = 9
        · subst h9
          by_cases hx1 : 1 < (s[m + 9]).toNat
          · go_wp2
            go_ret3
            exact ⟨ret_gv (HR.out.over (by rw [HL.out]; exact hlt) (by rw [HG.out]; exact hx1)) rfl rfl rfl, rfl⟩
          · go_wp2
            go_ret3
            exact ⟨ret_gv (HR.out.done (by rw [HL.out]; exact hlt) (by rw [HG.out]; rintro ⟨_, h⟩; exact hx1 h) (by rw [HG.out]; omega)) (by rw [HG.out]; exact sum9 hu.out (by omega)) rfl rfl, rfl⟩
        · have hk8 : k ≤ 8 := by omega
          by_cases hx1 : (s[m + k]).toNat < 128
          · go_wp2
            go_ret3
            exact ⟨ret_gv (HR.out.done (by rw [HL.out]; exact hlt) (by rw [HG.out]; rintro ⟨h, _⟩; exact h9 h) (by rw [HG.out]; exact hx1)) (by rw [HG.out]; exact (sum_top' (mod128 _) rfl (by omega) (fun h => absurd h h9) hu.out).trans (by rw [Nat.mod_eq_of_lt (by omega)])) rfl rfl, rfl⟩
          · have HS := Lib.hid (HR.out.step (by rw [HL.out]; exact hlt) (by rw [HG.out]; rintro ⟨h, _⟩; exact h9 h) (by rw [HG.out]; exact hx1) (by rw [HG.out]; exact hx))
            go_wp2
            go_round
            case rel => exact ⟨k + 1, _, HS.out, congrArg (Value.int IntKind.u64) ((sum_top' (mod128 _) rfl (by omega) (fun h => absurd h h9) hu.out).trans (by rw [HG.out, show (s[m + k]).toNat - 128 = (s[m + k]).toNat % 128 from by omega])), by go_num⟩
            case measure => simp [intOf]; omega
      · have he : m + k = s.size := by have := hr.1; rw [HL.out] at this; omega
        have HE := Lib.hid (hr.end_ (by rw [HL.out]; exact he))
        clear he hr
        go_wp2
        go_ret3
        exact ⟨ret_gv HE.out rfl (by rw [HL.out]) rfl, rfl⟩
set_option maxRecDepth 20000 in
set_option maxHeartbeats 1000000 in
theorem cI_GetVar (s : ByteArray) (a : Int) (w : World) (hs : s.size ≤ 1048576) (h0 : -9223372036854775808 ≤ a) (h1 : a ≤ 9223372036854775807) : Calls Try.prog 17 #[.string s, .int .i64 a] w fun e w' => e = .returned (.tuple #[.int .u64 (gvAll (bl s) a).1, .int .i64 (gvAll (bl s) a).2.1, .int .i64 (gvAll (bl s) a).2.2]) ∧ w = w' := by
  rcases hin : inB a 0 s.size with _ | _
  · go_enter Try.func17, Try.ntmps17
    go_wp2_with (go_at_call 37; refine (cI_within _ _ _ _).mono ?_; rintro e w' ⟨rfl, rfl⟩)
    go_ret3
    exact ⟨ret_gv (gvAll_out (by have := inB_no hin; rw [bl_length]; omega)) rfl rfl rfl, rfl⟩
  · obtain ⟨hk1, hk2⟩ := inB_yes hin
    obtain ⟨m, rfl⟩ := Int.eq_ofNat_of_zero_le hk1
    have HL := Lib.hid (bl_length s)
    go_enter Try.func17, Try.ntmps17
    go_wp2_with (go_at_call 37; refine (cI_within _ _ _ _).mono ?_; rintro e w' ⟨rfl, rfl⟩)
    go_loop [7, 19] (fun a b => ∃ k u : Nat, GvRel (bl s) m k u ∧ a = .int .u64 u ∧ b = .int .i64 k) (fun _ b => 10 - (intOf b).toNat)
    case atStart => exact ⟨0, 0, GvRel.start (by rw [HL.out]; omega), rfl, rfl⟩
    case round =>
      obtain ⟨k, u, hr, rfl, rfl⟩ := hrel
      have hk9 : k ≤ 9 := hr.2.1
      have hu := Lib.hid hr.2.2.1
      by_cases hlt : m + k < s.size
      · have hx : (s[m + k]).toNat < 256 := (s[m + k]).toNat_lt
        have HG := Lib.hid (bl_get s (m + k) hlt)
        have HR := Lib.hid hr
        clear hr
        by_cases h9 : k = 9
        · subst h9
          by_cases hx1 : 1 < (s[m + 9]).toNat
          · go_wp2
            go_ret3
            exact ⟨ret_gv (HR.out.over (by rw [HL.out]; exact hlt) (by rw [HG.out]; exact hx1)) rfl rfl rfl, rfl⟩
          · go_wp2
            go_ret3
            exact ⟨ret_gv (HR.out.done (by rw [HL.out]; exact hlt) (by rw [HG.out]; rintro ⟨_, h⟩; exact hx1 h) (by rw [HG.out]; omega)) (by rw [HG.out]; exact (or_top' (byteVal _ hx) (by decide) (by omega) (fun _ => by omega) hu.out).trans (by rw [Nat.mod_eq_of_lt (by omega)])) rfl rfl, rfl⟩
        · have hk8 : k ≤ 8 := by omega
          by_cases hx1 : (s[m + k]).toNat < 128
          · go_wp2
            go_ret3
            exact ⟨ret_gv (HR.out.done (by rw [HL.out]; exact hlt) (by rw [HG.out]; rintro ⟨h, _⟩; exact h9 h) (by rw [HG.out]; exact hx1)) (by rw [HG.out]; exact (or_top' (byteVal _ hx) rfl (by omega) (fun h => absurd h h9) hu.out).trans (by rw [Nat.mod_eq_of_lt (by omega)])) rfl rfl, rfl⟩
          · have HS := Lib.hid (HR.out.step (by rw [HL.out]; exact hlt) (by rw [HG.out]; rintro ⟨h, _⟩; exact h9 h) (by rw [HG.out]; exact hx1) (by rw [HG.out]; exact hx))
            go_wp2
            go_round
            case rel => exact ⟨k + 1, _, HS.out, congrArg (Value.int IntKind.u64) ((or_top' (byteVal _ hx) rfl (by omega) (fun h => absurd h h9) hu.out).trans (by rw [HG.out, show (s[m + k]).toNat - 128 = (s[m + k]).toNat % 128 from by omega])), by go_num⟩
            case measure => simp [intOf]; omega
      · have he : m + k = s.size := by have := hr.1; rw [HL.out] at this; omega
        have HE := Lib.hid (hr.end_ (by rw [HL.out]; exact he))
        clear he hr
        go_wp2
        go_ret3
        exact ⟨ret_gv HE.out rfl (by rw [HL.out]) rfl, rfl⟩
end Go.Proofs.Ytojhbhhlbgkeoaa
