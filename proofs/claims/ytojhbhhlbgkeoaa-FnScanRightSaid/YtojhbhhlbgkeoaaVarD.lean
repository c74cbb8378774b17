/- Contracts of the varint functions, second part. Conditions: an integer fits its kind. -/
import Derived.Test.YtojhbhhlbgkeoaaVarC
namespace Go.Proofs.Ytojhbhhlbgkeoaa
open Go.RowKit Plain
set_option linter.unusedVariables false
set_option linter.unusedSimpArgs false

theorem padVar_no {u : Nat} {k : Int} (h : inB k (vlen u) 10 = false) : padVar u k = [] := padVar_no' (inB_no h)

theorem cP_VarLen (u : Int) (w : World) (h0 : 0 ≤ u) (h1 : u ≤ 18446744073709551615) : Calls Try.prog 29 #[.int .u64 u] w fun e w' => e = .returned (.int .i64 (vlen u.toNat)) ∧ Below w.heap.size w w' := by
  go_enter Try.func29, Try.ntmps29
  go_wp2_with (go_at_call 14; refine (cP_PutVar _ _ h0 h1).mono ?_; rintro e w' ⟨rfl, hb⟩)
  go_ret
  exact ⟨ret_int (by rw [bs_size]; rfl), hb⟩

set_option maxHeartbeats 400000 in
theorem cI_PadVar (u k : Int) (w : World) (h0 : 0 ≤ u) (h1 : u ≤ 18446744073709551615) : Calls Try.prog 19 #[.int .u64 u, .int .i64 k] w fun e w' => e = .returned (.string (bs (padVar u.toNat k))) ∧ Below w.heap.size w w' := by
  obtain ⟨n, rfl⟩ := Int.eq_ofNat_of_zero_le h0
  simp only [Int.toNat_natCast]
  rcases hin : inB k (vlen n) 10 with _ | _
  · go_enter Try.func19, Try.ntmps19
    go_wp2_with (first | (go_at_call 31; refine (cI_VarLen _ _ h0 h1).mono ?_; rintro e w' ⟨rfl, rfl⟩; rw [Int.toNat_natCast]) | (go_at_call 37; refine (cI_within _ _ _ _).mono ?_; rintro e w' ⟨rfl, rfl⟩))
    go_ret
    exact ⟨by rw [padVar_no hin]; rfl, Below.refl _ _⟩
  · obtain ⟨hk1, hk2⟩ := inB_yes hin
    obtain ⟨m, rfl⟩ := Int.eq_ofNat_of_zero_le (show 0 ≤ k by omega)
    have hvp := vlen_pos n
    have hmk := run_make_row u8s m m (Nat.le_refl _) (by omega)
    have hz := RowAt.made w 5 m m (Nat.le_refl _) (by unfold maxLen; omega)
    go_enter Try.func19, Try.ntmps19
    go_wp2_with (first | (go_at_call 31; refine (cI_VarLen _ _ h0 h1).mono ?_; rintro e w' ⟨rfl, rfl⟩; rw [Int.toNat_natCast]) | (go_at_call 37; refine (cI_within _ _ _ _).mono ?_; rintro e w' ⟨rfl, rfl⟩))
    go_loopw [0, 16] (fun a b wr => ∃ i v : Nat, i ≤ m ∧ v ≤ n ∧ v = n / 128 ^ i ∧ a = .int .u64 v ∧ b = .int .i64 i ∧ RowAt wr w.heap.size m (StoreL m i n) ∧ Below w.heap.size w wr) (fun _ b _ => m - (intOf b).toNat)
    case atStart => exact ⟨0, n, Nat.zero_le _, Nat.le_refl _, by simp, rfl, rfl, by simpa [StoreL, hiF] using hz, (Below.refl _ _).alloc (Nat.le_refl _) _⟩
    case round =>
      obtain ⟨i, v, hi, hvn, hv, rfl, rfl, hrow, hbel⟩ := hrel
      have hgl := hrow.lt
      by_cases hlt : i < m
      · have HV := Lib.hid hv
        clear hv
        have hc := hrow.at_ i (by rw [StoreL_length n hi]; omega)
        have hf := hrow.free i hlt
        go_wp2
        go_roundw
        case rel => exact ⟨i + 1, v / 128, by omega, by omega, by rw [HV.out, Nat.div_div_eq_div_mul, Nat.pow_succ], by go_num, by go_num, by
            have h := hrow.set' i (n / 128 ^ i % 128 + 128) (bits .or .u64 (bits .and .u64 (v : Int) 127) 128 % 256) hlt (by rw [and127 _ (by omega) (by omega), or128 _ (by omega) (by omega), HV.out]; omega)
            rw [StoreL_step n hlt] at h
            exact h, hbel.setCell (Nat.le_refl _) _⟩
        case measure => simp [intOf]; omega
      · obtain rfl : m = i := by omega
        obtain ⟨hx1, hx2⟩ := StoreL_last n (show 0 < m by omega)
        have hc := hrow.at_ (m - 1) (by rw [StoreL_length n hi]; omega)
        have hf := hrow.free (m - 1) (by omega)
        obtain ⟨x, hx⟩ : ∃ x, x = (StoreL m m n).getD (m - 1) 0 := ⟨_, rfl⟩
        rw [← hx] at hc hx1
        have hxb : x < 256 := by omega
        have hset := hrow.set' (m - 1) (n / 128 ^ (m - 1) % 128) (bits .and .u8 (x : Int) 127) (by omega) (by rw [and127_u8 _ (by omega) (by omega), hx1]; omega)
        rw [hx2] at hset
        have hconv := run_string_of_row' u8s hset m (pad_length m n)
        have HP := Lib.hid (padVar_yes (show vlen n ≤ m by omega) (show m ≤ 10 by omega))
        clear hx hx1 hx2 hset hv hvn hz
        go_wp2
        go_ret
        exact ⟨by rw [HP.out]; rfl, hbel.setCell (Nat.le_refl _) _⟩

theorem cI_PutVar (u : Int) (w : World) (h0 : 0 ≤ u) (h1 : u ≤ 18446744073709551615) : Calls Try.prog 15 #[.int .u64 u] w fun e w' => e = .returned (.string (bs (put u.toNat))) ∧ Below w.heap.size w w' := by
  go_enter Try.func15, Try.ntmps15
  go_wp2_with fail
  refine (cI_VarLen _ _ h0 h1).mono ?_
  rintro e w' ⟨rfl, rfl⟩
  go_wp2_with fail
  refine (cI_PadVar _ _ _ h0 h1).mono ?_
  rintro e w' ⟨rfl, hb⟩
  go_wp2
  go_ret
  exact ⟨by rw [padVar_self u.toNat (by omega)]; rfl, hb⟩

def lenOf : Value → Nat
  | .slice _ n _ => n
  | _ => 0
set_option maxHeartbeats 1000000 in
theorem cP_PadVar (u k : Int) (w : World) (h0 : 0 ≤ u) (h1 : u ≤ 18446744073709551615) : Calls Try.prog 18 #[.int .u64 u, .int .i64 k] w fun e w' => e = .returned (.string (bs (padVar u.toNat k))) ∧ Below w.heap.size w w' := by
  obtain ⟨n, rfl⟩ := Int.eq_ofNat_of_zero_le h0
  have hpc := cP_PutVar n w h0 h1
  simp only [Int.toNat_natCast] at hpc ⊢
  have hn : n < 18446744073709551616 := by omega
  have HC := Lib.hid hpc
  clear hpc
  have hvl := vlen_le n
  have hvp := vlen_pos n
  go_enter Try.func18, Try.ntmps18
  go_wp2_with fail
  refine HC.out.mono ?_
  rintro e w1 ⟨rfl, hb1⟩
  have hbt := run_bytes_row u8s w1 (put n) (vlen n) rfl
  have hrow := RowAt.of_string w1 (put n) 5 (by show vlen n ≤ _; omega) (put_lt n hn)
  rcases hin : inB k (vlen n) 10 with _ | _
  · go_wp2_with (go_at_call 36; refine (cP_in _ _ _ _).mono ?_; rintro e w' ⟨rfl, rfl⟩)
    go_ret
    exact ⟨by rw [padVar_no hin]; rfl, (hb1.drew).alloc hb1.size _⟩
  · obtain ⟨hk1, hk2⟩ := inB_yes hin
    obtain ⟨m, rfl⟩ := Int.eq_ofNat_of_zero_le (show 0 ≤ k by omega)
    go_wp2_with (go_at_call 36; refine (cP_in _ _ _ _).mono ?_; rintro e w' ⟨rfl, rfl⟩)
    have hst : put n = pad (vlen n) n := put_pad n hn
    have hrow : RowAt (w1.alloc (strObj w1 (put n) 5)).drew w1.heap.size (strCap w1 (put n) 5) (pad (vlen n) n) := hst ▸ hrow
    have HST := Lib.hid hst
    clear hst
    go_loopw [5] (fun o wr => ∃ q g cap : Nat, vlen n ≤ q ∧ q ≤ m ∧ o = .slice (some ⟨g, 0, none⟩) q cap ∧ RowAt wr g cap (pad q n) ∧ w.heap.size ≤ g ∧ Below w.heap.size w wr) (fun o _ => m - lenOf o)
    case atStart => exact ⟨vlen n, w1.heap.size, _, Nat.le_refl _, by omega, rfl, hrow, hb1.size, ((hb1.drew).alloc hb1.size _)⟩
    case round =>
      obtain ⟨q, g, cap, hq, hqm, rfl, hro, hg, hbel⟩ := hrel
      have hgl := hro.lt
      by_cases hlt : q < m
      · have hql := pad_length q n
        have hcap := hro.le
        rw [hql] at hcap
        have hc := hro.at_ (q - 1) (by omega)
        have hf := hro.free (q - 1) (by omega)
        obtain ⟨x, hx⟩ : ∃ x, x = (pad q n).getD (q - 1) 0 := ⟨_, rfl⟩
        rw [← hx] at hc
        have hxb : x < 128 := by rw [hx, pad_last n (by omega)]; omega
        have hset := hro.set' (q - 1) (x + 128) ((x : Int) + 128) (by omega) (by omega)
        have HX := Lib.hid hx
        clear hx hql
        have HG := Lib.hid (pad_grow n (show 0 < q by omega) (Nat.lt_of_lt_of_le (vlen_fits n hn) (pow_mono hq)))
        go_wp2_with (at_builtin; refine wpList_append_row' rfl _ _ u8s rfl (hset.alloc _) q (by rw [List.length_set]; exact pad_length q n) rfl _ 1 1 [0] rfl rfl (news1 _ _ _ _ (by simp [World.setCell]) (by rfl)) (by omega) ?_; intro g' cap' w1 hrow1 hgr1 hg1)
        go_roundw
        case rel =>
          have hE := HG.out
          rw [← HX.out] at hE
          rw [hE] at hrow1
          exact ⟨q + 1, g', cap', by omega, by omega, rfl, hrow1, by rcases hg1 with h | h <;> (try simp at h) <;> have := hbel.size <;> omega, ((hbel.setCell hg _).alloc (by have := hbel.size; simp; omega) _).grown hgr1 (by have := hbel.size; simp; omega) (by intro k hk; cases hk; exact hg)⟩
        case measure => simp [lenOf]; omega
      · obtain rfl : m = q := by omega
        have hconv := run_string_of_row' u8s hro m (pad_length m n)
        have HP := Lib.hid (padVar_yes (show vlen n ≤ m by omega) (show m ≤ 10 by omega))
        go_wp2
        go_ret
        exact ⟨by rw [HP.out]; rfl, hbel⟩
end Go.Proofs.Ytojhbhhlbgkeoaa
