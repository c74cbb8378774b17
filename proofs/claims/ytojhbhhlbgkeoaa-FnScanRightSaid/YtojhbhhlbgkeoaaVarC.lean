/- Contracts of the varint functions. Conditions: an integer fits its kind. -/
import Derived.Test.YtojhbhhlbgkeoaaRow
import Derived.Test.YtojhbhhlbgkeoaaVar
import Derived.Test.YtojhbhhlbgkeoaaBits
import Derived.Test.YtojhbhhlbgkeoaaNum
namespace Go.Proofs.Ytojhbhhlbgkeoaa
open Go.RowKit Plain
set_option linter.unusedVariables false
set_option linter.unusedSimpArgs false

theorem u8s : U8s Try.prog 41 5 9 :=
  ⟨Try.underlying41, Try.underlying5, Try.underlying9, info_parts (show (Try.prog.info? 5).map (fun i => (i.zero, i.size, i.bytes)) = some (some (.int .u8 0), 1, 1) by kernel_rfl)⟩

theorem cI_VarLen (u : Int) (w : World) (h0 : 0 ≤ u) (h1 : u ≤ 18446744073709551615) : Calls Try.prog 31 #[.int .u64 u] w fun e w' => e = .returned (.int .i64 (vlen u.toNat)) ∧ w = w' := by
  obtain ⟨n, rfl⟩ := Int.eq_ofNat_of_zero_le h0
  simp only [Int.toNat_natCast]
  have hn : n < 18446744073709551616 := by omega
  go_enter Try.func31, Try.ntmps31
  go_wp2
  go_loop [0, 3] (fun a b => ∃ k v : Nat, LenRel n k v ∧ a = .int .u64 v ∧ b = .int .i64 k) (fun a _ => (intOf a).toNat)
  case atStart => exact ⟨1, n, LenRel.start n hn, rfl, rfl⟩
  case round =>
    obtain ⟨k, v, hr, rfl, rfl⟩ := hrel
    have hk : k ≤ 10 := hr.2.2.1
    by_cases h : 127 < v
    · have HS := Lib.hid (hr.step h)
      go_wp2
      go_round
      case rel => exact ⟨k + 1, v / 128, HS.out, by go_num, by go_num⟩
      case measure => simp [intOf]; omega
    · have HS := Lib.hid (hr.stop h)
      go_wp2
      go_ret
      exact ⟨ret_int (by rw [HS.out]), rfl⟩


set_option maxHeartbeats 400000 in
theorem cP_PutVar (u : Int) (w : World) (h0 : 0 ≤ u) (h1 : u ≤ 18446744073709551615) : Calls Try.prog 14 #[.int .u64 u] w fun e w' => e = .returned (.string (bs (put u.toNat))) ∧ Below w.heap.size w w' := by
  obtain ⟨n, rfl⟩ := Int.eq_ofNat_of_zero_le h0
  simp only [Int.toNat_natCast]
  have hn : n < 18446744073709551616 := by omega
  go_enter Try.func14, Try.ntmps14
  go_wp2
  have hz : RowAt (w.alloc (.cells #[] 5)) w.heap.size 0 [] := RowAt.new w #[] 5 [] (fun j hj => absurd hj (by simp)) (by simp) (by simp [maxLen])
  go_loopw [0, 3] (fun a o wr => ∃ (v g cap : Nat) (l : List Nat), PutRel n l v ∧ v ≤ n ∧ a = .int .u64 v ∧ o = .slice (some ⟨g, 0, none⟩) l.length cap ∧ RowAt wr g cap l ∧ w.heap.size ≤ g ∧ Below w.heap.size w wr) (fun a _ _ => (intOf a).toNat)
  case atStart => exact ⟨n, w.heap.size, 0, [], PutRel.start n hn, Nat.le_refl _, rfl, rfl, hz, Nat.le_refl _, (Below.refl _ _).alloc (Nat.le_refl _) _⟩
  case round =>
    obtain ⟨v, g, cap, l, hr, hvn, rfl, rfl, hrow, hg, hbel⟩ := hrel
    have hl : l.length ≤ 9 := hr.1
    have hgl := hrow.lt
    by_cases h : 127 < v
    · have HS := Lib.hid (hr.step h)
      go_wp2_with (at_builtin; refine wpList_append_row rfl _ _ u8s rfl (hrow.alloc _) rfl _ 1 1 [v % 128 + 128] rfl rfl (news1 _ _ _ _ (by simp) (by omega)) (by omega) ?_; intro g' cap' w1 hrow1 hgr1 hg1)
      go_roundw
      case rel => exact ⟨v / 128, g', cap', _, HS.out, by omega, by go_num, by simp, hrow1, by rcases hg1 with h | h <;> (try simp at h) <;> have := hbel.size <;> omega, (hbel.alloc hbel.size _).grown hgr1 (by have := hbel.size; simp; omega) (by intro k hk; cases hk; exact hg)⟩
      case measure => simp [intOf]; omega
    · have HS := Lib.hid (hr.stop h)
      go_wp2_with (at_builtin; refine wpList_append_row rfl _ _ u8s rfl (hrow.alloc _) rfl _ 1 1 [v] rfl rfl (news1 _ _ _ _ (by simp) (by omega)) (by omega) ?_; intro g' cap' w1 hrow1 hgr1 hg1; have hconv := run_string_of_row' u8s hrow1 (l.length + 1) (by simp))
      go_ret
      exact ⟨by rw [HS.out]; rfl, (hbel.alloc hbel.size _).grown hgr1 (by have := hbel.size; simp; omega) (by intro k hk; cases hk; exact hg)⟩
end Go.Proofs.Ytojhbhhlbgkeoaa
