/- Contracts of the reference's Hex and of both Unhex. Conditions: a bound on the string. -/
import Derived.Test.YtaleihkgfalinaaHexD
namespace Go.Proofs.Ytaleihkgfalinaa
open Go.RowKit Plain
set_option linter.unusedVariables false
set_option linter.unusedSimpArgs false
theorem wrap_u8_in (n : Int) (h0 : 0 ≤ n) (h1 : n < 256) : IntKind.u8.wrap n = n := by
  unfold IntKind.wrap; simp [IntKind.bits, IntKind.signed]; omega
set_option maxRecDepth 20000 in
set_option maxHeartbeats 1000000 in
theorem cP_Hex (s : ByteArray) (hs : s.size ≤ 1048576) (w : World) : Calls Try.prog 6 #[.string s] w fun e w' => e = .returned (.string (bs (hexL (bl s)))) ∧ Below w.heap.size w w' := by
  have hz : RowAt (w.alloc (.cells #[] 5)) w.heap.size 0 [] := RowAt.new w #[] 5 [] (fun j hj => absurd hj (by simp)) (by simp) (by simp [maxLen])
  have HL := Lib.hid (bl_length s)
  go_enter Try.func6, Try.ntmps6
  go_wp2_with fail
  go_loopw [3, 4] (fun o c wr => ∃ (k g cap : Nat), k ≤ s.size ∧ o = .slice (some ⟨g, 0, none⟩) (2 * k) cap ∧ c = .int .i64 k ∧ RowAt wr g cap (hexL ((bl s).take k)) ∧ w.heap.size ≤ g ∧ Below w.heap.size w wr) (fun _ c _ => s.size - (intOf c).toNat)
  case atStart => exact ⟨0, w.heap.size, 0, Nat.zero_le _, rfl, rfl, by simpa [hexL] using hz, Nat.le_refl _, (Below.refl _ _).alloc (Nat.le_refl _) _⟩
  case round =>
    obtain ⟨k, g, cap, hk, rfl, rfl, hrow, hg, hbel⟩ := hrel
    have hgl := hrow.lt
    have hln : (hexL ((bl s).take k)).length = 2 * k := by rw [hexL_length, List.length_take, HL.out]; omega
    have HLN := Lib.hid hln
    clear hln
    by_cases hlt : k < s.size
    · have hk0 : (0 : Int) ≤ (k : Int) := by omega
      have hk1 : (k : Int) < (s.size : Int) := by omega
      have hx : (s[k]).toNat < 256 := (s[k]).toNat_lt
      have hq0 : (0 : Int) ≤ ((s[k]).toNat : Int) / 16 := by omega
      have hq1 : ((s[k]).toNat : Int) / 16 < 16 := by omega
      have hr0 : (0 : Int) ≤ ((s[k]).toNat : Int) % 16 := by omega
      have hr1 : ((s[k]).toNat : Int) % 16 < 16 := by omega
      have hw1 : IntKind.u8.wrap (((s[k]).toNat : Int) / 16) = ((s[k]).toNat : Int) / 16 := by rw [wrap_u8_in _ (by omega) (by omega)]
      have hw2 : IntKind.u8.wrap (((s[k]).toNat : Int) % 16) = ((s[k]).toNat : Int) % 16 := by rw [wrap_u8_in _ (by omega) (by omega)]
      have HS := Lib.hid ((congrArg hexL (take_snoc' (l := bl s) (i := k) (by rw [HL.out]; exact hlt))).trans (hexL_snoc _ _))
      have HG := Lib.hid (bl_get s k hlt)
      go_wp2_with fail
      refine wp_region_held_drew (S := fun w' => Below w.heap.size w w') (by kernel_rfl) (hbel.drew) (fun hHeld => ?_)
      refine wpAnyH_take (i := 0) (oi := { dst := some 12, op := Op.move (Operand.tmp 3), type := 26, pos := _, after := #[], guard := none }) (v := ?_) rfl (by kernel_rfl) (by kernel_rfl) (by kernel_rfl) (fun _ _ _ h => h) (Or.inl ⟨by kernel_rfl, ?_⟩) (by assumption) ?_
      rotate_left
      · intro w hSw; go_simp; first | done | (with_reducible rfl)
      try simp only [Act.put, List.setIfInBounds_toArray, List.set_cons_zero, List.set_cons_succ]
      refine wpAnyH_take (i := 1) (oi := { dst := some 13, op := Op.move (Operand.tmp 0), type := 9, pos := _, after := #[], guard := none }) (v := ?_) rfl (by kernel_rfl) (by kernel_rfl) (by kernel_rfl) (fun _ _ _ h => h) (Or.inl ⟨by kernel_rfl, ?_⟩) (by assumption) ?_
      rotate_left
      · intro w hSw; go_simp; first | done | (with_reducible rfl)
      try simp only [Act.put, List.setIfInBounds_toArray, List.set_cons_zero, List.set_cons_succ]
      refine wpAnyH_take (i := 2) (oi := { dst := some 14, op := Op.move (Operand.tmp 4), type := 3, pos := _, after := #[], guard := none }) (v := ?_) rfl (by kernel_rfl) (by kernel_rfl) (by kernel_rfl) (fun _ _ _ h => h) (Or.inl ⟨by kernel_rfl, ?_⟩) (by assumption) ?_
      rotate_left
      · intro w hSw; go_simp; first | done | (with_reducible rfl)
      try simp only [Act.put, List.setIfInBounds_toArray, List.set_cons_zero, List.set_cons_succ]
      refine wpAnyH_take (i := 3) (oi := { dst := some 15, op := Op.index 9 (Operand.tmp 13) (Operand.tmp 14), type := 5, pos := _, after := #[{ on := 1, ground := Ground.data }, { on := 2, ground := Ground.data }], guard := none }) (v := ?_) rfl (by kernel_rfl) (by kernel_rfl) (by kernel_rfl) (fun _ _ _ h => h) (Or.inl ⟨by kernel_rfl, ?_⟩) (by assumption) ?_
      rotate_left
      · intro w hSw; go_simp; first | done | (with_reducible rfl)
      try simp only [Act.put, List.setIfInBounds_toArray, List.set_cons_zero, List.set_cons_succ]
      refine wpAnyH_take (i := 4) (oi := { dst := some 16, op := Op.binOp BinOp.quo 5 (Operand.tmp 15) (Operand.const (Value.int IntKind.u8 16)) 5, type := 5, pos := _, after := #[{ on := 3, ground := Ground.data }], guard := none }) (v := ?_) rfl (by kernel_rfl) (by kernel_rfl) (by kernel_rfl) (fun _ _ _ h => h) (Or.inl ⟨by kernel_rfl, ?_⟩) (by assumption) ?_
      rotate_left
      · intro w hSw; go_simp; first | done | (with_reducible rfl)
      try simp only [Act.put, List.setIfInBounds_toArray, List.set_cons_zero, List.set_cons_succ]
      refine wpAnyH_take (i := 6) (oi := { dst := some 18, op := Op.move (Operand.tmp 0), type := 9, pos := _, after := #[], guard := none }) (v := ?_) rfl (by kernel_rfl) (by kernel_rfl) (by kernel_rfl) (fun _ _ _ h => h) (Or.inl ⟨by kernel_rfl, ?_⟩) (by assumption) ?_
      rotate_left
      · intro w hSw; go_simp; first | done | (with_reducible rfl)
      try simp only [Act.put, List.setIfInBounds_toArray, List.set_cons_zero, List.set_cons_succ]
      refine wpAnyH_take (i := 7) (oi := { dst := some 19, op := Op.move (Operand.tmp 4), type := 3, pos := _, after := #[], guard := none }) (v := ?_) rfl (by kernel_rfl) (by kernel_rfl) (by kernel_rfl) (fun _ _ _ h => h) (Or.inl ⟨by kernel_rfl, ?_⟩) (by assumption) ?_
      rotate_left
      · intro w hSw; go_simp; first | done | (with_reducible rfl)
      try simp only [Act.put, List.setIfInBounds_toArray, List.set_cons_zero, List.set_cons_succ]
      refine wpAnyH_take (i := 8) (oi := { dst := some 20, op := Op.index 9 (Operand.tmp 18) (Operand.tmp 19), type := 5, pos := _, after := #[{ on := 6, ground := Ground.data }, { on := 7, ground := Ground.data }], guard := none }) (v := ?_) rfl (by kernel_rfl) (by kernel_rfl) (by kernel_rfl) (fun _ _ _ h => h) (Or.inl ⟨by kernel_rfl, ?_⟩) (by assumption) ?_
      rotate_left
      · intro w hSw; go_simp; first | done | (with_reducible rfl)
      try simp only [Act.put, List.setIfInBounds_toArray, List.set_cons_zero, List.set_cons_succ]
      refine wpAnyH_take (i := 9) (oi := { dst := some 21, op := Op.binOp BinOp.rem 5 (Operand.tmp 20) (Operand.const (Value.int IntKind.u8 16)) 5, type := 5, pos := _, after := #[{ on := 8, ground := Ground.data }], guard := none }) (v := ?_) rfl (by kernel_rfl) (by kernel_rfl) (by kernel_rfl) (fun _ _ _ h => h) (Or.inl ⟨by kernel_rfl, ?_⟩) (by assumption) ?_
      rotate_left
      · intro w hSw; go_simp; first | done | (with_reducible rfl)
      try simp only [Act.put, List.setIfInBounds_toArray, List.set_cons_zero, List.set_cons_succ]
      refine wpAnyH_ready (rs := [5]) (by kernel_rfl) (by simp) ?_
      refine AllReadyH.cons (o := { dst := some 17, op := Op.call { callee := Callee.value (Operand.func 13), args := #[Operand.tmp 16], argTypes := #[5] }, type := 5, pos := _, after := #[{ on := 4, ground := Ground.data }], guard := none }) rfl (fun K hK => ?_) AllReadyH.nil
      rw [if_pos (by kernel_rfl)]
      go_simp
      go_at_call 13
      refine (cP_l1Hex _ _ hq0 hq1).mono ?_
      rintro e w1 ⟨rfl, rfl⟩
      go_wp2_with fail
      refine hK.out _ _ hbel.drew (fun hHeld2 => ?_)
      clear hK K
      try simp only [Act.put, List.setIfInBounds_toArray, List.set_cons_zero, List.set_cons_succ]
      refine wpAnyH_ready (rs := [10]) (by kernel_rfl) (by simp) ?_
      refine AllReadyH.cons (o := { dst := some 22, op := Op.call { callee := Callee.value (Operand.func 13), args := #[Operand.tmp 21], argTypes := #[5] }, type := 5, pos := _, after := #[{ on := 9, ground := Ground.data }, { on := 5, ground := Ground.chain }], guard := none }) rfl (fun K hK => ?_) AllReadyH.nil
      rw [if_pos (by kernel_rfl)]
      go_simp
      go_at_call 13
      refine (cP_l1Hex _ _ hr0 hr1).mono ?_
      rintro e w1 ⟨rfl, rfl⟩
      go_wp2_with fail
      refine hK.out _ _ hbel.drew (fun hHeld3 => ?_)
      clear hK K
      try simp only [Act.put, List.setIfInBounds_toArray, List.set_cons_zero, List.set_cons_succ]
      refine wpAnyH_ready (rs := [11]) (by kernel_rfl) (by simp) ?_
      refine AllReadyH.cons (o := { dst := some 23, op := Op.buildSlice 26 2 #[(0, Operand.tmp 17), (1, Operand.tmp 22)], type := 26, pos := _, after := #[{ on := 5, ground := Ground.data }, { on := 10, ground := Ground.data }], guard := none }) rfl (fun K hK => ?_) AllReadyH.nil
      rw [if_pos (by kernel_rfl)]
      go_simp
      refine hK.out _ _ ((hbel.alloc hbel.size _).drew) (fun hHeld4 => ?_)
      clear hK K
      try simp only [Act.put, List.setIfInBounds_toArray, List.set_cons_zero, List.set_cons_succ]
      refine wpAnyH_ready (rs := [12]) (by kernel_rfl) (by simp) ?_
      refine AllReadyH.cons (o := { dst := some 24, op := Op.call { callee := Callee.builtin Builtin.append, args := #[Operand.tmp 12, Operand.tmp 23], argTypes := #[26, 26] }, type := 26, pos := _, after := #[{ on := 0, ground := Ground.data }, { on := 11, ground := Ground.data }, { on := 10, ground := Ground.chain }], guard := none }) rfl (fun K hK => ?_) AllReadyH.nil
      rw [if_pos (by kernel_rfl)]
      refine wp_append_row2 _ _ u8d rfl ((hrow.alloc _).drew) (2 * k) HLN.out rfl _ 2 2 [hexD (((s[k]).toNat : Int) / 16).toNat, hexD (((s[k]).toNat : Int) % 16).toNat] rfl rfl (news2d wr _ _ _ _ _ rfl rfl rfl) (by omega) ?_
      intro g' cap' w1 hrow1 hgr1 hg1
      refine hK.out _ _ ((hbel.alloc hbel.size _).drew.grown hgr1 (by have := hbel.size; simp; omega) (by intro k hk; cases hk; exact hg)) (fun hHeld5 => ?_)
      clear hK K
      try simp only [Act.put, List.setIfInBounds_toArray, List.set_cons_zero, List.set_cons_succ]
      refine wpAnyH_take (i := 13) (oi := { dst := some 3, op := Op.assign (Operand.tmp 24), type := 26, pos := _, after := #[{ on := 12, ground := Ground.data }, { on := 12, ground := Ground.chain }, { on := 0, ground := Ground.phase }, { on := 1, ground := Ground.phase }, { on := 2, ground := Ground.phase }, { on := 3, ground := Ground.phase }, { on := 4, ground := Ground.phase }, { on := 5, ground := Ground.phase }, { on := 6, ground := Ground.phase }, { on := 7, ground := Ground.phase }, { on := 8, ground := Ground.phase }, { on := 9, ground := Ground.phase }, { on := 10, ground := Ground.phase }, { on := 11, ground := Ground.phase }, { on := 12, ground := Ground.phase }], guard := none }) (v := ?_) rfl (by kernel_rfl) (by kernel_rfl) (by kernel_rfl) (fun _ _ _ h => h) (Or.inl ⟨by kernel_rfl, ?_⟩) (by assumption) ?_
      rotate_left
      · intro w hSw; go_simp; first | done | (with_reducible rfl)
      try simp only [Act.put, List.setIfInBounds_toArray, List.set_cons_zero, List.set_cons_succ]
      refine wpAnyH_done (by kernel_rfl) ?_ _
      go_wp2
      go_roundw
      case rel => exact ⟨k + 1, g', cap', by omega, by first | rfl | (simp; omega), by go_num, by rw [HS.out, HG.out]; exact hrow1, by rcases hg1 with h | h <;> (try simp at h) <;> have := hbel.size <;> omega, hHeld5⟩
      case measure => simp [intOf]; omega
    · obtain rfl : k = s.size := by omega
      have hconv := run_string_of_row' u8d hrow _ HLN.out
      go_wp2
      go_ret
      exact ⟨by rw [List.take_of_length_le (by rw [HL.out]; exact Nat.le_refl _)]; rfl, hbel⟩
theorem ret_unhex {l : List Nat} (h : unhexL l = none) : Ending.returned (.tuple #[.string ⟨#[]⟩, .bool false]) = .returned (.tuple #[.string (bs ((unhexL l).getD [])), .bool (unhexL l).isSome]) := by rw [h]; rfl
theorem ret_unhex_yes {l o : List Nat} (h : unhexL l = some o) : Ending.returned (.tuple #[.string (bs o), .bool true]) = .returned (.tuple #[.string (bs ((unhexL l).getD [])), .bool (unhexL l).isSome]) := by rw [h]; rfl
set_option maxRecDepth 20000 in
set_option maxHeartbeats 1000000 in
theorem cI_Unhex (s : ByteArray) (hs : s.size ≤ 1048576) (w : World) : Calls Try.prog 9 #[.string s] w fun e w' => e = .returned (.tuple #[.string (bs ((unhexL (bl s)).getD [])), .bool (unhexL (bl s)).isSome]) ∧ Below w.heap.size w w' := by
  have HL := Lib.hid (bl_length s)
  have hmk : ∀ w : World, (Instr.makeSlice 26 (.int .i64 0) (.int .i64 ((s.size : Int) / 2))).run Try.prog w = .ok (.slice (some ⟨w.heap.size, 0, none⟩) 0 (s.size / 2)) (w.alloc (.cells (zeros (s.size / 2)) 5)) := fun w => by
    have h := run_make_row u8d 0 (s.size / 2) (Nat.zero_le _) (by omega) w
    rw [show ((s.size / 2 : Nat) : Int) = (s.size : Int) / 2 by omega] at h
    exact h
  have hz := RowAt.made w 5 0 (s.size / 2) (Nat.zero_le _) (by unfold maxLen; omega)
  by_cases hodd : s.size % 2 = 1
  · have HU := Lib.hid (unhexL_odd (bl s) (by rw [HL.out]; exact hodd))
    have h1 : ((s.size : Int) % 2 == 1) = true := by simp; omega
    clear hodd
    go_enter Try.func9, Try.ntmps9
    go_wp2
    go_ret2
    exact ⟨ret_unhex HU.out, by repeat (first | exact Below.refl _ _ | exact (Below.refl _ _).alloc (Nat.le_refl _) _)⟩
  have h1 : ((s.size : Int) % 2 == 1) = false := by simp; omega
  go_enter Try.func9, Try.ntmps9
  go_wp2_with fail
  go_loopw [4, 5] (fun o c wr => ∃ (j k g cap : Nat) (l : List Nat), k = 2 * j ∧ k ≤ s.size ∧ l.length = j ∧ unhexL ((bl s).take k) = some l ∧ o = .slice (some ⟨g, 0, none⟩) j cap ∧ c = .int .i64 k ∧ RowAt wr g cap l ∧ w.heap.size ≤ g ∧ Below w.heap.size w wr) (fun _ c _ => s.size - (intOf c).toNat)
  case atStart => exact ⟨0, 0, w.heap.size, s.size / 2, [], rfl, Nat.zero_le _, rfl, rfl, rfl, rfl, by simpa using hz, Nat.le_refl _, (Below.refl _ _).alloc (Nat.le_refl _) _⟩
  case round =>
    obtain ⟨j, k, g, cap, l, hkj, hk, hll, hun, rfl, rfl, hrow, hg, hbel⟩ := hrel
    have hgl := hrow.lt
    have HLL := Lib.hid hll
    have HUN := Lib.hid hun
    have HKJ := Lib.hid hkj
    have hjs : j ≤ s.size := by omega
    clear hll hun
    by_cases hlt : k < s.size
    · have hlt1 : k + 1 < s.size := by omega
      clear hkj
      have hk0 : (0 : Int) ≤ (k : Int) := by omega
      have hk1 : (k : Int) < (s.size : Int) := by omega
      have hk2 : (0 : Int) ≤ (k : Int) + 1 := by omega
      have hk3 : (k : Int) + 1 < (s.size : Int) := by omega
      have hkw : IntKind.i64.wrap ((k : Int) + 1) = (k : Int) + 1 := IntWalk.i64_in _ (by omega)
      have hx : (s[k]).toNat < 256 := (s[k]).toNat_lt
      have hy : (s[k + 1]).toNat < 256 := (s[k + 1]).toNat_lt
      have hty : ((k : Int) + 1).toNat = k + 1 := by omega
      have hda : (bl s).drop k = (s[k]).toNat :: (s[k + 1]).toNat :: (bl s).drop (k + 2) := by
        rw [List.drop_eq_getElem_cons (show k < (bl s).length by rw [HL.out]; exact hlt), List.drop_eq_getElem_cons (show k + 1 < (bl s).length by rw [HL.out]; exact hlt1)]
        simp [bl]; exact ⟨rfl, rfl⟩
      have HST : Hid ((half (s[k]).toNat < 0 ∨ half (s[k + 1]).toNat < 0 → unhexL (bl s) = none) ∧ (¬ (half (s[k]).toNat < 0 ∨ half (s[k + 1]).toNat < 0) → unhexL ((bl s).take (k + 2)) = some (l ++ [16 * (half (s[k]).toNat).toNat + (half (s[k + 1]).toNat).toNat]))) := Lib.hid (by
        have e := HKJ.out
        subst e
        have h := unhexL_step (bl s) l j _ _ _ HUN.out hda
        rw [show 2 * (j + 1) = 2 * j + 2 by omega] at h
        exact h)
      have hC1 := fun w => c_IndexByte ((s[k]).toNat : Int) w (by omega) (by omega)
      have hC2 := fun w => c_IndexByte ((s[k + 1]).toNat : Int) w (by omega) (by omega)
      simp only [Int.toNat_natCast] at hC1 hC2
      have b1 := half_bd (s[k]).toNat
      have b2 := half_bd (s[k + 1]).toNat
      obtain ⟨A, hA⟩ : ∃ A, A = half (s[k]).toNat := ⟨_, rfl⟩
      obtain ⟨B, hB⟩ : ∃ B, B = half (s[k + 1]).toNat := ⟨_, rfl⟩
      rw [← hA, ← hB] at HST
      rw [← hA] at hC1 b1
      rw [← hB] at hC2 b2
      clear hda hA hB
      go_wp2_with fail
      refine wp_region_held_drew (S := fun w' => Below w.heap.size w w') (by kernel_rfl) (hbel.drew) (fun hHeld => ?_)
      refine wpAnyH_take (i := 0) (oi := { dst := some 22, op := Op.move (Operand.tmp 0), type := 9, pos := _, after := #[], guard := none }) (v := ?_) rfl (by kernel_rfl) (by kernel_rfl) (by kernel_rfl) (fun _ _ _ h => h) (Or.inl ⟨by kernel_rfl, ?_⟩) (by assumption) ?_
      rotate_left
      · intro w hSw; go_simp; first | done | (with_reducible rfl)
      try simp only [Act.put, List.setIfInBounds_toArray, List.set_cons_zero, List.set_cons_succ]
      refine wpAnyH_take (i := 1) (oi := { dst := some 23, op := Op.move (Operand.tmp 5), type := 3, pos := _, after := #[], guard := none }) (v := ?_) rfl (by kernel_rfl) (by kernel_rfl) (by kernel_rfl) (fun _ _ _ h => h) (Or.inl ⟨by kernel_rfl, ?_⟩) (by assumption) ?_
      rotate_left
      · intro w hSw; go_simp; first | done | (with_reducible rfl)
      try simp only [Act.put, List.setIfInBounds_toArray, List.set_cons_zero, List.set_cons_succ]
      refine wpAnyH_take (i := 2) (oi := { dst := some 24, op := Op.index 9 (Operand.tmp 22) (Operand.tmp 23), type := 5, pos := _, after := #[{ on := 0, ground := Ground.data }, { on := 1, ground := Ground.data }], guard := none }) (v := ?_) rfl (by kernel_rfl) (by kernel_rfl) (by kernel_rfl) (fun _ _ _ h => h) (Or.inl ⟨by kernel_rfl, ?_⟩) (by assumption) ?_
      rotate_left
      · intro w hSw; go_simp; first | done | (with_reducible rfl)
      try simp only [Act.put, List.setIfInBounds_toArray, List.set_cons_zero, List.set_cons_succ]
      refine wpAnyH_take (i := 4) (oi := { dst := some 26, op := Op.move (Operand.tmp 0), type := 9, pos := _, after := #[], guard := none }) (v := ?_) rfl (by kernel_rfl) (by kernel_rfl) (by kernel_rfl) (fun _ _ _ h => h) (Or.inl ⟨by kernel_rfl, ?_⟩) (by assumption) ?_
      rotate_left
      · intro w hSw; go_simp; first | done | (with_reducible rfl)
      try simp only [Act.put, List.setIfInBounds_toArray, List.set_cons_zero, List.set_cons_succ]
      refine wpAnyH_take (i := 5) (oi := { dst := some 27, op := Op.move (Operand.tmp 5), type := 3, pos := _, after := #[], guard := none }) (v := ?_) rfl (by kernel_rfl) (by kernel_rfl) (by kernel_rfl) (fun _ _ _ h => h) (Or.inl ⟨by kernel_rfl, ?_⟩) (by assumption) ?_
      rotate_left
      · intro w hSw; go_simp; first | done | (with_reducible rfl)
      try simp only [Act.put, List.setIfInBounds_toArray, List.set_cons_zero, List.set_cons_succ]
      refine wpAnyH_take (i := 6) (oi := { dst := some 28, op := Op.binOp BinOp.add 3 (Operand.tmp 27) (Operand.const (Value.int IntKind.i64 1)) 3, type := 3, pos := _, after := #[{ on := 5, ground := Ground.data }], guard := none }) (v := ?_) rfl (by kernel_rfl) (by kernel_rfl) (by kernel_rfl) (fun _ _ _ h => h) (Or.inl ⟨by kernel_rfl, ?_⟩) (by assumption) ?_
      rotate_left
      · intro w hSw; go_simp; first | done | (with_reducible rfl)
      try simp only [Act.put, List.setIfInBounds_toArray, List.set_cons_zero, List.set_cons_succ]
      refine wpAnyH_take (i := 7) (oi := { dst := some 29, op := Op.index 9 (Operand.tmp 26) (Operand.tmp 28), type := 5, pos := _, after := #[{ on := 4, ground := Ground.data }, { on := 6, ground := Ground.data }], guard := none }) (v := ?_) rfl (by kernel_rfl) (by kernel_rfl) (by kernel_rfl) (fun _ _ _ h => h) (Or.inl ⟨by kernel_rfl, ?_⟩) (by assumption) ?_
      rotate_left
      · intro w hSw; go_simp; first | done | (with_reducible rfl)
      try simp only [Act.put, List.setIfInBounds_toArray, List.set_cons_zero, List.set_cons_succ]
      refine wpAnyH_ready (rs := [3]) (by kernel_rfl) (by simp) ?_
      refine AllReadyH.cons (o := { dst := some 25, op := Op.call { callee := Callee.value (Operand.func 15), args := #[Operand.const (Value.string ⟨#[48, 49, 50, 51, 52, 53, 54, 55, 56, 57, 97, 98, 99, 100, 101, 102]⟩), Operand.tmp 24], argTypes := #[9, 5] }, type := 3, pos := _, after := #[{ on := 2, ground := Ground.data }], guard := none }) rfl (fun K hK => ?_) AllReadyH.nil
      rw [if_pos (by kernel_rfl)]
      go_simp
      go_at_call 15
      refine (hC1 _).mono ?_
      rintro e w1 ⟨rfl, rfl⟩
      go_wp2_with fail
      refine hK.out _ _ hbel.drew (fun hHeld2 => ?_)
      clear hK K
      try simp only [Act.put, List.setIfInBounds_toArray, List.set_cons_zero, List.set_cons_succ]
      refine wpAnyH_ready (rs := [8]) (by kernel_rfl) (by simp) ?_
      refine AllReadyH.cons (o := { dst := some 30, op := Op.call { callee := Callee.value (Operand.func 15), args := #[Operand.const (Value.string ⟨#[48, 49, 50, 51, 52, 53, 54, 55, 56, 57, 97, 98, 99, 100, 101, 102]⟩), Operand.tmp 29], argTypes := #[9, 5] }, type := 3, pos := _, after := #[{ on := 7, ground := Ground.data }, { on := 3, ground := Ground.chain }], guard := none }) rfl (fun K hK => ?_) AllReadyH.nil
      rw [if_pos (by kernel_rfl)]
      go_simp
      go_at_call 15
      refine (hC2 _).mono ?_
      rintro e w1 ⟨rfl, rfl⟩
      go_wp2_with fail
      refine hK.out _ _ hbel.drew (fun hHeld3 => ?_)
      clear hK K
      try simp only [Act.put, List.setIfInBounds_toArray, List.set_cons_zero, List.set_cons_succ]
      refine wpAnyH_take (i := 9) (oi := { dst := some 6, op := Op.assign (Operand.tmp 25), type := 3, pos := _, after := #[{ on := 3, ground := Ground.data }, { on := 8, ground := Ground.chain }, { on := 0, ground := Ground.phase }, { on := 1, ground := Ground.phase }, { on := 2, ground := Ground.phase }, { on := 3, ground := Ground.phase }, { on := 4, ground := Ground.textOnly Departure.lateStores }, { on := 5, ground := Ground.textOnly Departure.lateStores }, { on := 6, ground := Ground.textOnly Departure.lateStores }, { on := 7, ground := Ground.textOnly Departure.lateStores }, { on := 8, ground := Ground.textOnly Departure.lateStoresUnsure }], guard := none }) (v := ?_) rfl (by kernel_rfl) (by kernel_rfl) (by kernel_rfl) (fun _ _ _ h => h) (Or.inl ⟨by kernel_rfl, ?_⟩) (by assumption) ?_
      rotate_left
      · intro w hSw; go_simp; first | done | (with_reducible rfl)
      try simp only [Act.put, List.setIfInBounds_toArray, List.set_cons_zero, List.set_cons_succ]
      refine wpAnyH_take (i := 10) (oi := { dst := some 7, op := Op.assign (Operand.tmp 30), type := 3, pos := _, after := #[{ on := 8, ground := Ground.data }, { on := 9, ground := Ground.chain }, { on := 0, ground := Ground.phase }, { on := 1, ground := Ground.phase }, { on := 2, ground := Ground.phase }, { on := 3, ground := Ground.phase }, { on := 4, ground := Ground.phase }, { on := 5, ground := Ground.phase }, { on := 6, ground := Ground.phase }, { on := 7, ground := Ground.phase }, { on := 8, ground := Ground.phase }, { on := 9, ground := Ground.phase }], guard := none }) (v := ?_) rfl (by kernel_rfl) (by kernel_rfl) (by kernel_rfl) (fun _ _ _ h => h) (Or.inl ⟨by kernel_rfl, ?_⟩) (by assumption) ?_
      rotate_left
      · intro w hSw; go_simp; first | done | (with_reducible rfl)
      try simp only [Act.put, List.setIfInBounds_toArray, List.set_cons_zero, List.set_cons_succ]
      refine wpAnyH_done (by kernel_rfl) ?_ _
      have hbd := hbel.drew
      have hrd := hrow.drew
      by_cases ha : A < 0
      · have HN := Lib.hid (HST.out.1 (.inl ha))
        go_wp2
        go_ret2
        exact ⟨ret_unhex HN.out, hbd⟩
      · by_cases hb : B < 0
        · have HN := Lib.hid (HST.out.1 (.inr hb))
          go_wp2
          go_ret2
          exact ⟨ret_unhex HN.out, hbd⟩
        · have HN := Lib.hid (HST.out.2 (by omega))
          have hab0 : 0 ≤ 16 * A + B := by omega
          have hab1 : 16 * A + B < 256 := by omega
          have hcv : IntKind.u8.wrap (16 * A + B) = 16 * A + B := wrap_u8_in _ hab0 hab1
          go_wp2_with (first | (at_builtin; refine wpList_append_row' rfl _ _ u8d rfl (hrd.alloc _) j HLL.out rfl _ 1 1 [16 * A.toNat + B.toNat] rfl rfl (news1 _ _ _ _ rfl (by first | omega | (rw [hcv]; omega))) (by omega) ?_; intro g' cap' w5 hrow5 hgr5 hg5))
          go_roundw
          case rel => exact ⟨j + 1, k + 2, g', cap', _, by have := HKJ.out; omega, by omega, by rw [List.length_append, HLL.out]; rfl, HN.out, rfl, by go_num, hrow5, by rcases hg5 with h | h <;> (try simp at h) <;> have := hbel.size <;> omega, (hbd.alloc (by first | exact hbd.size | (have := hbel.size; simp; omega)) _).grown hgr5 (by have := hbel.size; simp; omega) (by intro k hk; cases hk; exact hg)⟩
          case measure => simp [intOf]; omega
    · obtain rfl : k = s.size := by omega
      have HU : Hid (unhexL (bl s) = some l) := Lib.hid (by have h := HUN.out; rw [List.take_of_length_le (by rw [HL.out]; exact Nat.le_refl _)] at h; exact h)
      have hconv := run_string_of_row' u8d hrow _ HLL.out
      go_wp2
      go_ret2
      exact ⟨ret_unhex_yes HU.out, hbel⟩
set_option maxRecDepth 20000 in
set_option maxHeartbeats 1000000 in
theorem cP_Unhex (s : ByteArray) (hs : s.size ≤ 1048576) (w : World) : Calls Try.prog 8 #[.string s] w fun e w' => e = .returned (.tuple #[.string (bs ((unhexL (bl s)).getD [])), .bool (unhexL (bl s)).isSome]) ∧ Below w.heap.size w w' := by
  have HL := Lib.hid (bl_length s)
  have hz : RowAt (w.alloc (.cells #[] 5)) w.heap.size 0 [] := RowAt.new w #[] 5 [] (fun j hj => absurd hj (by simp)) (by simp) (by simp [maxLen])
  by_cases hodd : s.size % 2 = 1
  · have HU := Lib.hid (unhexL_odd (bl s) (by rw [HL.out]; exact hodd))
    have h1 : ((s.size : Int) % 2 == 1) = true := by simp; omega
    clear hodd
    go_enter Try.func8, Try.ntmps8
    go_wp2
    go_ret2
    exact ⟨ret_unhex HU.out, by repeat (first | exact Below.refl _ _ | exact (Below.refl _ _).alloc (Nat.le_refl _) _)⟩
  have h1 : ((s.size : Int) % 2 == 1) = false := by simp; omega
  go_enter Try.func8, Try.ntmps8
  go_wp2_with fail
  go_loopw [4, 5] (fun o c wr => ∃ (j k g cap : Nat) (l : List Nat), k = 2 * j ∧ k ≤ s.size ∧ l.length = j ∧ unhexL ((bl s).take k) = some l ∧ o = .slice (some ⟨g, 0, none⟩) j cap ∧ c = .int .i64 k ∧ RowAt wr g cap l ∧ w.heap.size ≤ g ∧ Below w.heap.size w wr) (fun _ c _ => s.size - (intOf c).toNat)
  case atStart => exact ⟨0, 0, w.heap.size, 0, [], rfl, Nat.zero_le _, rfl, rfl, rfl, rfl, by simpa using hz, Nat.le_refl _, (Below.refl _ _).alloc (Nat.le_refl _) _⟩
  case round =>
    obtain ⟨j, k, g, cap, l, hkj, hk, hll, hun, rfl, rfl, hrow, hg, hbel⟩ := hrel
    have hgl := hrow.lt
    have HLL := Lib.hid hll
    have HUN := Lib.hid hun
    have HKJ := Lib.hid hkj
    have hjs : j ≤ s.size := by omega
    clear hll hun
    by_cases hlt : k < s.size
    · have hlt1 : k + 1 < s.size := by omega
      clear hkj
      have hk0 : (0 : Int) ≤ (k : Int) := by omega
      have hk1 : (k : Int) < (s.size : Int) := by omega
      have hk2 : (0 : Int) ≤ (k : Int) + 1 := by omega
      have hk3 : (k : Int) + 1 < (s.size : Int) := by omega
      have hkw : IntKind.i64.wrap ((k : Int) + 1) = (k : Int) + 1 := IntWalk.i64_in _ (by omega)
      have hx : (s[k]).toNat < 256 := (s[k]).toNat_lt
      have hy : (s[k + 1]).toNat < 256 := (s[k + 1]).toNat_lt
      have hty : ((k : Int) + 1).toNat = k + 1 := by omega
      have hda : (bl s).drop k = (s[k]).toNat :: (s[k + 1]).toNat :: (bl s).drop (k + 2) := by
        rw [List.drop_eq_getElem_cons (show k < (bl s).length by rw [HL.out]; exact hlt), List.drop_eq_getElem_cons (show k + 1 < (bl s).length by rw [HL.out]; exact hlt1)]
        simp [bl]; exact ⟨rfl, rfl⟩
      have HST : Hid ((half (s[k]).toNat < 0 ∨ half (s[k + 1]).toNat < 0 → unhexL (bl s) = none) ∧ (¬ (half (s[k]).toNat < 0 ∨ half (s[k + 1]).toNat < 0) → unhexL ((bl s).take (k + 2)) = some (l ++ [16 * (half (s[k]).toNat).toNat + (half (s[k + 1]).toNat).toNat]))) := Lib.hid (by
        have e := HKJ.out
        subst e
        have h := unhexL_step (bl s) l j _ _ _ HUN.out hda
        rw [show 2 * (j + 1) = 2 * j + 2 by omega] at h
        exact h)
      have hC1 := fun w => cP_l1Half ((s[k]).toNat : Int) w (by omega) (by omega)
      have hC2 := fun w => cP_l1Half ((s[k + 1]).toNat : Int) w (by omega) (by omega)
      simp only [Int.toNat_natCast] at hC1 hC2
      have b1 := half_bd (s[k]).toNat
      have b2 := half_bd (s[k + 1]).toNat
      obtain ⟨A, hA⟩ : ∃ A, A = half (s[k]).toNat := ⟨_, rfl⟩
      obtain ⟨B, hB⟩ : ∃ B, B = half (s[k + 1]).toNat := ⟨_, rfl⟩
      rw [← hA, ← hB] at HST
      rw [← hA] at hC1 b1
      rw [← hB] at hC2 b2
      clear hda hA hB
      have hbd := hbel
      have hrd := hrow
      go_wp2_with fail
      refine (hC1 _).mono ?_
      rintro e w1 ⟨rfl, rfl⟩
      go_wp2_with fail
      refine (hC2 _).mono ?_
      rintro e w1 ⟨rfl, rfl⟩
      by_cases ha : A < 0
      · have HN := Lib.hid (HST.out.1 (.inl ha))
        go_wp2
        go_ret2
        exact ⟨ret_unhex HN.out, hbd⟩
      · by_cases hb : B < 0
        · have HN := Lib.hid (HST.out.1 (.inr hb))
          go_wp2
          go_ret2
          exact ⟨ret_unhex HN.out, hbd⟩
        · have HN := Lib.hid (HST.out.2 (by omega))
          have hab0 : 0 ≤ 16 * A + B := by omega
          have hab1 : 16 * A + B < 256 := by omega
          have hcv : IntKind.u8.wrap (16 * A + B) = 16 * A + B := wrap_u8_in _ hab0 hab1
          go_wp2_with (first | (at_builtin; refine wpList_append_row' rfl _ _ u8d rfl (hrd.alloc _) j HLL.out rfl _ 1 1 [16 * A.toNat + B.toNat] rfl rfl (news1 _ _ _ _ rfl (by first | omega | (rw [hcv]; omega))) (by omega) ?_; intro g' cap' w5 hrow5 hgr5 hg5))
          go_roundw
          case rel => exact ⟨j + 1, k + 2, g', cap', _, by have := HKJ.out; omega, by omega, by rw [List.length_append, HLL.out]; rfl, HN.out, rfl, by go_num, hrow5, by rcases hg5 with h | h <;> (try simp at h) <;> have := hbel.size <;> omega, (hbd.alloc (by first | exact hbd.size | (have := hbel.size; simp; omega)) _).grown hgr5 (by have := hbel.size; simp; omega) (by intro k hk; cases hk; exact hg)⟩
          case measure => simp [intOf]; omega
    · obtain rfl : k = s.size := by omega
      have HU : Hid (unhexL (bl s) = some l) := Lib.hid (by have h := HUN.out; rw [List.take_of_length_le (by rw [HL.out]; exact Nat.le_refl _)] at h; exact h)
      have hconv := run_string_of_row' u8d hrow _ HLL.out
      go_wp2
      go_ret2
      exact ⟨ret_unhex_yes HU.out, hbel⟩
end Go.Proofs.Ytaleihkgfalinaa
