/- The walk of FnUtfRunes. Conditions: the code's bytes can be read. -/
import Derived.Test.YtmhlljonlbiajaaLawU4
namespace Go.Proofs.Ytmhlljonlbiajaa
open Go.RowKit Plain
set_option linter.unusedVariables false
set_option linter.unusedSimpArgs false
theorem decB_bd (n : Int) (h0 : 0 ≤ n) (h1 : n ≤ 255) : ∀ l : List Nat, (∀ b ∈ l, b < 256) → l.length ≤ 3 → -600000 ≤ decB n l ∧ decB n l ≤ 70000000
  | [], _, _ => ⟨by show -600000 ≤ n; omega, by show n ≤ _; omega⟩
  | [x], h, _ => by
    have := h x (by simp)
    show -600000 ≤ 64 * n + x - 128 ∧ 64 * n + x - 128 ≤ 70000000
    omega
  | [x, y], h, _ => by
    have := h x (by simp)
    have := h y (by simp)
    show -600000 ≤ 64 * (64 * n + x - 128) + y - 128 ∧ 64 * (64 * n + x - 128) + y - 128 ≤ 70000000
    omega
  | [x, y, t], h, _ => by
    have := h x (by simp)
    have := h y (by simp)
    have := h t (by simp)
    show -600000 ≤ 64 * (64 * (64 * n + x - 128) + y - 128) + t - 128 ∧ 64 * (64 * (64 * n + x - 128) + y - 128) + t - 128 ≤ 70000000
    omega
  | _ :: _ :: _ :: _ :: _, _, hl => by simp at hl
theorem take_snoc2 {l : List Nat} {i : Nat} (h : i < l.length) : l.take (i + 1) = l.take i ++ [l.getD i 0] := by
  rw [List.take_succ_eq_append_getElem h]; simp [List.getD, List.getElem?_eq_getElem h]
/-- a text, from place k on: what its first byte makes of it -/
theorem head_at {s : ByteArray} {k : Nat} (hk : k < s.size) : (bl s).drop k = (s[k]).toNat :: (bl s).drop (k + 1) := by
  rw [List.drop_eq_getElem_cons (show k < (bl s).length by rw [bl_length]; exact hk)]
  simp [bl]; rfl
/-- where the bytes at k are an encoding, one goes on behind it -/
theorem good_on {s : ByteArray} {k S : Nat} {n : Int} (hS : 1 ≤ S) (hk : k + S ≤ s.size) (he : encR n = ((bl s).drop k).take S) : goodU (0, 0, 0) ((bl s).drop k) = goodU (0, 0, 0) ((bl s).drop (k + S)) := by
  have hs : scalar n = true := by
    cases h : scalar n
    · rw [encR_no h] at he
      have := congrArg List.length he
      simp [bl_length] at this; omega
    · rfl
  have h := good_enc hs (((bl s).drop k).drop S)
  rw [he, List.take_append_drop, List.drop_drop] at h
  exact h
theorem ext_win {s : ByteArray} {k S : Nat} : bl (s.extract k (k + S)) = ((bl s).drop k).take S := by
  rw [bl_extract, List.drop_take, Nat.add_sub_cancel_left]
theorem str_eq {n : Int} {s : ByteArray} {k S : Nat} (h : encR n = ((bl s).drop k).take S) : bs (encR n) = s.extract k (k + S) := by
  apply bl_ext
  rw [bl_bs _ (encR_lt n), ext_win, h]
theorem str_ne {n : Int} {s : ByteArray} {k S : Nat} (h : ¬ encR n = ((bl s).drop k).take S) : ((bs (encR n)).toList == (s.extract k (k + S)).toList) = false := by
  rw [beq_eq_false_iff_ne]
  intro e
  apply h
  rw [ByteArray.toList_eq, ByteArray.toList_eq] at e
  have e2 : bl (bs (encR n)) = bl (s.extract k (k + S)) := congrArg (List.map UInt8.toNat) e
  rwa [bl_bs _ (encR_lt n), ext_win] at e2
theorem size_cases (x : Nat) (hx : x < 256) : (sizeB x = 4 ∧ baseB x = (x : Int) - 240 ∧ (240 : Int) ≤ (x : Int)) ∨ (sizeB x = 3 ∧ baseB x = (x : Int) - 224 ∧ ¬ (240 : Int) ≤ (x : Int) ∧ (224 : Int) ≤ (x : Int)) ∨
    (sizeB x = 2 ∧ baseB x = (x : Int) - 192 ∧ ¬ (240 : Int) ≤ (x : Int) ∧ ¬ (224 : Int) ≤ (x : Int) ∧ (192 : Int) ≤ (x : Int)) ∨
    (sizeB x = 1 ∧ baseB x = (x : Int) ∧ ¬ (240 : Int) ≤ (x : Int) ∧ ¬ (224 : Int) ≤ (x : Int) ∧ ¬ (192 : Int) ≤ (x : Int)) := by
  unfold sizeB baseB
  by_cases h1 : 240 ≤ x
  · rw [if_pos h1, if_pos h1]; omega
  · rw [if_neg h1, if_neg h1]
    by_cases h2 : 224 ≤ x
    · rw [if_pos h2, if_pos h2]; omega
    · rw [if_neg h2, if_neg h2]
      by_cases h3 : 192 ≤ x
      · rw [if_pos h3, if_pos h3]; omega
      · rw [if_neg h3, if_neg h3]; omega
set_option maxRecDepth 20000 in
set_option maxHeartbeats 8000000 in
theorem walkFnUtfRunes (a : Option Addr) (len cap : Nat) (z : List Int) (w : World) (hr : IsRow .u8 w a len cap z) : Calls Try.prog 11 #[.slice a len cap] w fun e w' => e = .returned (.bool true) ∧ Below w.heap.size w w' := by
  have hcode := Lib.hid (code_of_row hr)
  clear hr
  rcases hbig : decide (1048576 < len) with _ | _
  · have hl : len ≤ 1048576 := by simp at hbig; omega
    go_enter Try.func11, Try.ntmps11
    go_wp2_with (go_at_call 21; refine (c_big _ _ _ _).mono ?_; rintro e w' ⟨rfl, rfl⟩; rw [hbig])
    refine (d_DrawUtfGood _ hl hcode.out).mono ?_
    rintro e w1 ⟨s, hs, rfl, hb1⟩
    have hI := fun w => cI_UtfGood s w (by omega)
    have hP := fun w => cP_UtfGood s w (by omega)
    have HL := Lib.hid (bl_length s)
    rcases hgd : utfGood (bl s) with _ | _
    · rw [hgd] at hI hP
      have hg0 : goodU (0, 0, 0) ((bl s).drop 0) = false := hgd
      clear hgd
      go_wp2_with fail
      refine (hI _).mono ?_
      rintro e w2 ⟨rfl, hb2⟩
      have B2 := hb1.trans (hb2.mono hb1.size)
      go_wp2_with fail
      refine (hP _).mono ?_
      rintro e w3 ⟨rfl, hb3⟩
      have B3 := B2.trans (hb3.mono B2.size)
      clear hI hP hb1 hb2 hb3
      go_wp2_with fail
      go_loopw [5] (fun c wr => ∃ k : Nat, k ≤ s.size ∧ c = .int .i64 k ∧ goodU (0, 0, 0) ((bl s).drop k) = false ∧ Below w.heap.size w wr) (fun c _ => s.size - (intOf c).toNat)
      case atStart => exact ⟨0, Nat.zero_le _, rfl, hg0, B3⟩
      case round =>
        obtain ⟨k, hk, rfl, hgk, hbel⟩ := hrel
        by_cases hlt : k < s.size
        · have hk0 : (0 : Int) ≤ (k : Int) := by omega
          have hk1 : (k : Int) < (s.size : Int) := by omega
          have hx : (s[k]).toNat < 256 := (s[k]).toNat_lt
          rcases size_cases (s[k]).toNat hx with ⟨e1, e2, x1⟩ | ⟨e1, e2, x1, x2⟩ | ⟨e1, e2, x1, x2, x3⟩ | ⟨e1, e2, x1, x2, x3⟩
          · obtain ⟨B, hB⟩ : ∃ B : Int, B = baseB (s[k]).toNat := ⟨_, rfl⟩
            rw [e2] at hB
            have HB := Lib.hid hB
            have Hbd := Lib.hid (decB_bd B (by omega) (by omega))
            clear hB
            by_cases hfit : k + 4 ≤ s.size
            · have hfi : (k : Int) + 4 ≤ (s.size : Int) := by omega
              have hfn : ¬ (s.size : Int) < (k : Int) + 4 := by omega
              have hfw : IntKind.i64.wrap ((k : Int) + 4) = (k : Int) + 4 := IntWalk.i64_in _ (by omega)
              have hfz : (0 : Int) ≤ (k : Int) + 4 := by omega
              go_wp2_with fail
              go_loopw [8, 9] (fun u c wx => ∃ i : Nat, 1 ≤ i ∧ i ≤ 4 ∧ u = .int .i64 (decB B (((bl s).drop (k + 1)).take (i - 1))) ∧ c = .int .i64 i ∧ Below w.heap.size w wx) (fun _ c _ => 4 - (intOf c).toNat)
              case atStart => exact ⟨1, by omega, by omega, by first | rfl | (show Value.int IntKind.i64 _ = Value.int IntKind.i64 B; first | rfl | rw [HB.out]), rfl, hbel⟩
              case round =>
                obtain ⟨i, hi0, hi, rfl, rfl, hbx⟩ := hrel
                have hbd := Hbd.out (((bl s).drop (k + 1)).take (i - 1)) (fun b hb => bl_lt s b (List.mem_of_mem_drop (List.mem_of_mem_take hb))) (by rw [List.length_take]; omega)
                obtain ⟨n, hn⟩ : ∃ n, n = decB B (((bl s).drop (k + 1)).take (i - 1)) := ⟨_, rfl⟩
                rw [← hn] at hbd ⊢
                have HN := Lib.hid hn
                clear hn
                obtain ⟨hn0, hn1⟩ := hbd
                by_cases hil : i < 4
                · have hki : k + i < s.size := by omega
                  have hy : (s[k + i]).toNat < 256 := (s[k + i]).toNat_lt
                  have hti : ((k : Int) + (i : Int)).toNat = k + i := by omega
                  have hj0 : (0 : Int) ≤ (k : Int) + (i : Int) := by omega
                  have hj1 : (k : Int) + (i : Int) < (s.size : Int) := by omega
                  have hjw : IntKind.i64.wrap ((k : Int) + (i : Int)) = (k : Int) + (i : Int) := IntWalk.i64_in _ (by omega)
                  have HST : Hid (decB B (((bl s).drop (k + 1)).take i) = 64 * n + ((s[k + i]).toNat : Int) - 128) := Lib.hid (by
                    obtain ⟨j, rfl⟩ : ∃ j, i = j + 1 := ⟨i - 1, by omega⟩
                    rw [HN.out, take_snoc2 (by rw [List.length_drop, HL.out]; omega), decB_snoc, Nat.add_sub_cancel]
                    have : ((bl s).drop (k + 1)).getD j 0 = (s[k + (j + 1)]).toNat := by
                      rw [← bl_get s (k + (j + 1)) hki]
                      simp [List.getD, List.getElem?_drop, Nat.add_assoc, Nat.add_comm 1 j]
                    rw [this])
                  go_wp2
                  go_roundw
                  case rel => exact ⟨i + 1, by omega, by omega, by rw [Nat.add_sub_cancel, HST.out] <;> first | rfl | (congr 1; omega), by go_num, hbx⟩
                  case measure => simp [intOf]; omega
                · obtain rfl : i = 4 := by omega
                  have HN2 : Hid (n = decB B (((bl s).drop (k + 1)).take (4 - 1))) := HN
                  have hslc : ∀ wx : World, (Instr.slice 9 (.string s) (some (.int .i64 (k : Int))) (some (.int .i64 ((k : Int) + 4))) none).run Try.prog wx = .ok (.string (s.extract k (k + 4))) wx := fun wx => by
                    have h := run_slice_string (P := Try.prog) wx 9 s .i64 .i64 (k : Int) ((k : Int) + 4) Try.underlying9 (by omega) (by omega) (by omega)
                    rw [show ((k : Int) + 4).toNat = k + 4 from by omega] at h
                    exact h
                  have hR := fun w => cI_RuneText n w (by omega) (by omega)
                  by_cases hEq : encR n = ((bl s).drop k).take 4
                  · rw [str_eq hEq] at hR
                    have hgo := good_on (by omega) hfit hEq
                    rw [hgk] at hgo
                    have HGO := Lib.hid hgo
                    clear hgo hEq
                    go_wp2_with fail
                    refine wp_region_held_drew (S := fun w' => True) (by kernel_rfl) (trivial) (fun hHeld => ?_)
                    refine wpAnyH_take (i := 0) (oi := { dst := some 67, op := Op.move (Operand.tmp 8), type := 3, pos := _, after := #[], guard := none }) (v := ?_) rfl (by kernel_rfl) (by kernel_rfl) (by kernel_rfl) (fun _ _ _ h => h) (Or.inl ⟨by kernel_rfl, ?_⟩) (by assumption) ?_
                    rotate_left
                    · intro w hSw; go_simp; first | done | (with_reducible rfl)
                    try simp only [Act.put, List.setIfInBounds_toArray, List.set_cons_zero, List.set_cons_succ]
                    refine wpAnyH_take (i := 2) (oi := { dst := some 69, op := Op.move (Operand.tmp 3), type := 9, pos := _, after := #[], guard := none }) (v := ?_) rfl (by kernel_rfl) (by kernel_rfl) (by kernel_rfl) (fun _ _ _ h => h) (Or.inl ⟨by kernel_rfl, ?_⟩) (by assumption) ?_
                    rotate_left
                    · intro w hSw; go_simp; first | done | (with_reducible rfl)
                    try simp only [Act.put, List.setIfInBounds_toArray, List.set_cons_zero, List.set_cons_succ]
                    refine wpAnyH_take (i := 3) (oi := { dst := some 70, op := Op.move (Operand.tmp 5), type := 3, pos := _, after := #[], guard := none }) (v := ?_) rfl (by kernel_rfl) (by kernel_rfl) (by kernel_rfl) (fun _ _ _ h => h) (Or.inl ⟨by kernel_rfl, ?_⟩) (by assumption) ?_
                    rotate_left
                    · intro w hSw; go_simp; first | done | (with_reducible rfl)
                    try simp only [Act.put, List.setIfInBounds_toArray, List.set_cons_zero, List.set_cons_succ]
                    refine wpAnyH_take (i := 4) (oi := { dst := some 71, op := Op.move (Operand.tmp 5), type := 3, pos := _, after := #[], guard := none }) (v := ?_) rfl (by kernel_rfl) (by kernel_rfl) (by kernel_rfl) (fun _ _ _ h => h) (Or.inl ⟨by kernel_rfl, ?_⟩) (by assumption) ?_
                    rotate_left
                    · intro w hSw; go_simp; first | done | (with_reducible rfl)
                    try simp only [Act.put, List.setIfInBounds_toArray, List.set_cons_zero, List.set_cons_succ]
                    refine wpAnyH_take (i := 5) (oi := { dst := some 72, op := Op.move (Operand.tmp 7), type := 3, pos := _, after := #[], guard := none }) (v := ?_) rfl (by kernel_rfl) (by kernel_rfl) (by kernel_rfl) (fun _ _ _ h => h) (Or.inl ⟨by kernel_rfl, ?_⟩) (by assumption) ?_
                    rotate_left
                    · intro w hSw; go_simp; first | done | (with_reducible rfl)
                    try simp only [Act.put, List.setIfInBounds_toArray, List.set_cons_zero, List.set_cons_succ]
                    refine wpAnyH_take (i := 6) (oi := { dst := some 73, op := Op.binOp BinOp.add 3 (Operand.tmp 71) (Operand.tmp 72) 3, type := 3, pos := _, after := #[{ on := 4, ground := Ground.data }, { on := 5, ground := Ground.data }], guard := none }) (v := ?_) rfl (by kernel_rfl) (by kernel_rfl) (by kernel_rfl) (fun _ _ _ h => h) (Or.inl ⟨by kernel_rfl, ?_⟩) (by assumption) ?_
                    rotate_left
                    · intro w hSw; go_simp; first | done | (with_reducible rfl)
                    try simp only [Act.put, List.setIfInBounds_toArray, List.set_cons_zero, List.set_cons_succ]
                    refine wpAnyH_take (i := 7) (oi := { dst := some 74, op := Op.slice 9 (Operand.tmp 69) (some (Operand.tmp 70)) (some (Operand.tmp 73)) none, type := 9, pos := _, after := #[{ on := 2, ground := Ground.data }, { on := 3, ground := Ground.data }, { on := 6, ground := Ground.data }], guard := none }) (v := ?_) rfl (by kernel_rfl) (by kernel_rfl) (by kernel_rfl) (fun _ _ _ h => h) (Or.inl ⟨by kernel_rfl, ?_⟩) (by assumption) ?_
                    rotate_left
                    · intro w hSw; go_simp; first | done | (with_reducible rfl)
                    try simp only [Act.put, List.setIfInBounds_toArray, List.set_cons_zero, List.set_cons_succ]
                    refine wpAnyH_ready (rs := [1]) (by kernel_rfl) (by simp) ?_
                    refine AllReadyH.cons (o := { dst := some 68, op := Op.call { callee := Callee.value (Operand.func 14), args := #[Operand.tmp 67], argTypes := #[3] }, type := 9, pos := _, after := #[{ on := 0, ground := Ground.data }], guard := none }) rfl (fun K hK => ?_) AllReadyH.nil
                    rw [if_pos (by kernel_rfl)]
                    go_simp
                    go_at_call 14
                    refine (hR _).mono ?_
                    rintro e w4 ⟨rfl, rfl⟩
                    go_wp2_with fail
                    refine hK.out _ _ trivial (fun _ => ?_)
                    clear hK K
                    try simp only [Act.put, List.setIfInBounds_toArray, List.set_cons_zero, List.set_cons_succ]
                    refine wpAnyH_take (i := 8) (oi := { dst := some 75, op := Op.binOp BinOp.neq 9 (Operand.tmp 68) (Operand.tmp 74) 9, type := 4, pos := _, after := #[{ on := 1, ground := Ground.data }, { on := 7, ground := Ground.data }], guard := none }) (v := ?_) rfl (by kernel_rfl) (by kernel_rfl) (by kernel_rfl) (fun _ _ _ h => h) (Or.inl ⟨by kernel_rfl, ?_⟩) (by assumption) ?_
                    rotate_left
                    · intro w hSw; go_simp; first | done | (with_reducible rfl)
                    try simp only [Act.put, List.setIfInBounds_toArray, List.set_cons_zero, List.set_cons_succ]
                    refine wpAnyH_done (by kernel_rfl) ?_ _
                    go_wp2
                    go_roundw
                    case rel => exact ⟨k + 4, by omega, by first | rfl | (simp; done) | go_num, HGO.out.symm, hbx.drew⟩
                    case measure => simp [intOf]; omega
                  · have hne := str_ne hEq
                    clear hEq
                    generalize bs (encR n) = t at hR hne
                    go_wp2_with fail
                    refine wp_region_held_drew (S := fun w' => True) (by kernel_rfl) (trivial) (fun hHeld => ?_)
                    refine wpAnyH_take (i := 0) (oi := { dst := some 67, op := Op.move (Operand.tmp 8), type := 3, pos := _, after := #[], guard := none }) (v := ?_) rfl (by kernel_rfl) (by kernel_rfl) (by kernel_rfl) (fun _ _ _ h => h) (Or.inl ⟨by kernel_rfl, ?_⟩) (by assumption) ?_
                    rotate_left
                    · intro w hSw; go_simp; first | done | (with_reducible rfl)
                    try simp only [Act.put, List.setIfInBounds_toArray, List.set_cons_zero, List.set_cons_succ]
                    refine wpAnyH_take (i := 2) (oi := { dst := some 69, op := Op.move (Operand.tmp 3), type := 9, pos := _, after := #[], guard := none }) (v := ?_) rfl (by kernel_rfl) (by kernel_rfl) (by kernel_rfl) (fun _ _ _ h => h) (Or.inl ⟨by kernel_rfl, ?_⟩) (by assumption) ?_
                    rotate_left
                    · intro w hSw; go_simp; first | done | (with_reducible rfl)
                    try simp only [Act.put, List.setIfInBounds_toArray, List.set_cons_zero, List.set_cons_succ]
                    refine wpAnyH_take (i := 3) (oi := { dst := some 70, op := Op.move (Operand.tmp 5), type := 3, pos := _, after := #[], guard := none }) (v := ?_) rfl (by kernel_rfl) (by kernel_rfl) (by kernel_rfl) (fun _ _ _ h => h) (Or.inl ⟨by kernel_rfl, ?_⟩) (by assumption) ?_
                    rotate_left
                    · intro w hSw; go_simp; first | done | (with_reducible rfl)
                    try simp only [Act.put, List.setIfInBounds_toArray, List.set_cons_zero, List.set_cons_succ]
                    refine wpAnyH_take (i := 4) (oi := { dst := some 71, op := Op.move (Operand.tmp 5), type := 3, pos := _, after := #[], guard := none }) (v := ?_) rfl (by kernel_rfl) (by kernel_rfl) (by kernel_rfl) (fun _ _ _ h => h) (Or.inl ⟨by kernel_rfl, ?_⟩) (by assumption) ?_
                    rotate_left
                    · intro w hSw; go_simp; first | done | (with_reducible rfl)
                    try simp only [Act.put, List.setIfInBounds_toArray, List.set_cons_zero, List.set_cons_succ]
                    refine wpAnyH_take (i := 5) (oi := { dst := some 72, op := Op.move (Operand.tmp 7), type := 3, pos := _, after := #[], guard := none }) (v := ?_) rfl (by kernel_rfl) (by kernel_rfl) (by kernel_rfl) (fun _ _ _ h => h) (Or.inl ⟨by kernel_rfl, ?_⟩) (by assumption) ?_
                    rotate_left
                    · intro w hSw; go_simp; first | done | (with_reducible rfl)
                    try simp only [Act.put, List.setIfInBounds_toArray, List.set_cons_zero, List.set_cons_succ]
                    refine wpAnyH_take (i := 6) (oi := { dst := some 73, op := Op.binOp BinOp.add 3 (Operand.tmp 71) (Operand.tmp 72) 3, type := 3, pos := _, after := #[{ on := 4, ground := Ground.data }, { on := 5, ground := Ground.data }], guard := none }) (v := ?_) rfl (by kernel_rfl) (by kernel_rfl) (by kernel_rfl) (fun _ _ _ h => h) (Or.inl ⟨by kernel_rfl, ?_⟩) (by assumption) ?_
                    rotate_left
                    · intro w hSw; go_simp; first | done | (with_reducible rfl)
                    try simp only [Act.put, List.setIfInBounds_toArray, List.set_cons_zero, List.set_cons_succ]
                    refine wpAnyH_take (i := 7) (oi := { dst := some 74, op := Op.slice 9 (Operand.tmp 69) (some (Operand.tmp 70)) (some (Operand.tmp 73)) none, type := 9, pos := _, after := #[{ on := 2, ground := Ground.data }, { on := 3, ground := Ground.data }, { on := 6, ground := Ground.data }], guard := none }) (v := ?_) rfl (by kernel_rfl) (by kernel_rfl) (by kernel_rfl) (fun _ _ _ h => h) (Or.inl ⟨by kernel_rfl, ?_⟩) (by assumption) ?_
                    rotate_left
                    · intro w hSw; go_simp; first | done | (with_reducible rfl)
                    try simp only [Act.put, List.setIfInBounds_toArray, List.set_cons_zero, List.set_cons_succ]
                    refine wpAnyH_ready (rs := [1]) (by kernel_rfl) (by simp) ?_
                    refine AllReadyH.cons (o := { dst := some 68, op := Op.call { callee := Callee.value (Operand.func 14), args := #[Operand.tmp 67], argTypes := #[3] }, type := 9, pos := _, after := #[{ on := 0, ground := Ground.data }], guard := none }) rfl (fun K hK => ?_) AllReadyH.nil
                    rw [if_pos (by kernel_rfl)]
                    go_simp
                    go_at_call 14
                    refine (hR _).mono ?_
                    rintro e w4 ⟨rfl, rfl⟩
                    go_wp2_with fail
                    refine hK.out _ _ trivial (fun _ => ?_)
                    clear hK K
                    try simp only [Act.put, List.setIfInBounds_toArray, List.set_cons_zero, List.set_cons_succ]
                    refine wpAnyH_take (i := 8) (oi := { dst := some 75, op := Op.binOp BinOp.neq 9 (Operand.tmp 68) (Operand.tmp 74) 9, type := 4, pos := _, after := #[{ on := 1, ground := Ground.data }, { on := 7, ground := Ground.data }], guard := none }) (v := ?_) rfl (by kernel_rfl) (by kernel_rfl) (by kernel_rfl) (fun _ _ _ h => h) (Or.inl ⟨by kernel_rfl, ?_⟩) (by assumption) ?_
                    rotate_left
                    · intro w hSw; go_simp; first | done | (with_reducible rfl)
                    try simp only [Act.put, List.setIfInBounds_toArray, List.set_cons_zero, List.set_cons_succ]
                    refine wpAnyH_done (by kernel_rfl) ?_ _
                    go_wp2
                    go_ret
                    exact ⟨rfl, hbx.drew⟩
            · have hfn : (s.size : Int) < (k : Int) + 4 := by omega
              have hfw : IntKind.i64.wrap ((k : Int) + 4) = (k : Int) + 4 := IntWalk.i64_in _ (by omega)
              go_wp2
              go_ret
              exact ⟨rfl, hbel⟩
          · obtain ⟨B, hB⟩ : ∃ B : Int, B = baseB (s[k]).toNat := ⟨_, rfl⟩
            rw [e2] at hB
            have HB := Lib.hid hB
            have Hbd := Lib.hid (decB_bd B (by omega) (by omega))
            clear hB
            by_cases hfit : k + 3 ≤ s.size
            · have hfi : (k : Int) + 3 ≤ (s.size : Int) := by omega
              have hfn : ¬ (s.size : Int) < (k : Int) + 3 := by omega
              have hfw : IntKind.i64.wrap ((k : Int) + 3) = (k : Int) + 3 := IntWalk.i64_in _ (by omega)
              have hfz : (0 : Int) ≤ (k : Int) + 3 := by omega
              go_wp2_with fail
              go_loopw [8, 9] (fun u c wx => ∃ i : Nat, 1 ≤ i ∧ i ≤ 3 ∧ u = .int .i64 (decB B (((bl s).drop (k + 1)).take (i - 1))) ∧ c = .int .i64 i ∧ Below w.heap.size w wx) (fun _ c _ => 3 - (intOf c).toNat)
              case atStart => exact ⟨1, by omega, by omega, by first | rfl | (show Value.int IntKind.i64 _ = Value.int IntKind.i64 B; first | rfl | rw [HB.out]), rfl, hbel⟩
              case round =>
                obtain ⟨i, hi0, hi, rfl, rfl, hbx⟩ := hrel
                have hbd := Hbd.out (((bl s).drop (k + 1)).take (i - 1)) (fun b hb => bl_lt s b (List.mem_of_mem_drop (List.mem_of_mem_take hb))) (by rw [List.length_take]; omega)
                obtain ⟨n, hn⟩ : ∃ n, n = decB B (((bl s).drop (k + 1)).take (i - 1)) := ⟨_, rfl⟩
                rw [← hn] at hbd ⊢
                have HN := Lib.hid hn
                clear hn
                obtain ⟨hn0, hn1⟩ := hbd
                by_cases hil : i < 3
                · have hki : k + i < s.size := by omega
                  have hy : (s[k + i]).toNat < 256 := (s[k + i]).toNat_lt
                  have hti : ((k : Int) + (i : Int)).toNat = k + i := by omega
                  have hj0 : (0 : Int) ≤ (k : Int) + (i : Int) := by omega
                  have hj1 : (k : Int) + (i : Int) < (s.size : Int) := by omega
                  have hjw : IntKind.i64.wrap ((k : Int) + (i : Int)) = (k : Int) + (i : Int) := IntWalk.i64_in _ (by omega)
                  have HST : Hid (decB B (((bl s).drop (k + 1)).take i) = 64 * n + ((s[k + i]).toNat : Int) - 128) := Lib.hid (by
                    obtain ⟨j, rfl⟩ : ∃ j, i = j + 1 := ⟨i - 1, by omega⟩
                    rw [HN.out, take_snoc2 (by rw [List.length_drop, HL.out]; omega), decB_snoc, Nat.add_sub_cancel]
                    have : ((bl s).drop (k + 1)).getD j 0 = (s[k + (j + 1)]).toNat := by
                      rw [← bl_get s (k + (j + 1)) hki]
                      simp [List.getD, List.getElem?_drop, Nat.add_assoc, Nat.add_comm 1 j]
                    rw [this])
                  go_wp2
                  go_roundw
                  case rel => exact ⟨i + 1, by omega, by omega, by rw [Nat.add_sub_cancel, HST.out] <;> first | rfl | (congr 1; omega), by go_num, hbx⟩
                  case measure => simp [intOf]; omega
                · obtain rfl : i = 3 := by omega
                  have HN2 : Hid (n = decB B (((bl s).drop (k + 1)).take (3 - 1))) := HN
                  have hslc : ∀ wx : World, (Instr.slice 9 (.string s) (some (.int .i64 (k : Int))) (some (.int .i64 ((k : Int) + 3))) none).run Try.prog wx = .ok (.string (s.extract k (k + 3))) wx := fun wx => by
                    have h := run_slice_string (P := Try.prog) wx 9 s .i64 .i64 (k : Int) ((k : Int) + 3) Try.underlying9 (by omega) (by omega) (by omega)
                    rw [show ((k : Int) + 3).toNat = k + 3 from by omega] at h
                    exact h
                  have hR := fun w => cI_RuneText n w (by omega) (by omega)
                  by_cases hEq : encR n = ((bl s).drop k).take 3
                  · rw [str_eq hEq] at hR
                    have hgo := good_on (by omega) hfit hEq
                    rw [hgk] at hgo
                    have HGO := Lib.hid hgo
                    clear hgo hEq
                    go_wp2_with fail
                    refine wp_region_held_drew (S := fun w' => True) (by kernel_rfl) (trivial) (fun hHeld => ?_)
                    refine wpAnyH_take (i := 0) (oi := { dst := some 67, op := Op.move (Operand.tmp 8), type := 3, pos := _, after := #[], guard := none }) (v := ?_) rfl (by kernel_rfl) (by kernel_rfl) (by kernel_rfl) (fun _ _ _ h => h) (Or.inl ⟨by kernel_rfl, ?_⟩) (by assumption) ?_
                    rotate_left
                    · intro w hSw; go_simp; first | done | (with_reducible rfl)
                    try simp only [Act.put, List.setIfInBounds_toArray, List.set_cons_zero, List.set_cons_succ]
                    refine wpAnyH_take (i := 2) (oi := { dst := some 69, op := Op.move (Operand.tmp 3), type := 9, pos := _, after := #[], guard := none }) (v := ?_) rfl (by kernel_rfl) (by kernel_rfl) (by kernel_rfl) (fun _ _ _ h => h) (Or.inl ⟨by kernel_rfl, ?_⟩) (by assumption) ?_
                    rotate_left
                    · intro w hSw; go_simp; first | done | (with_reducible rfl)
                    try simp only [Act.put, List.setIfInBounds_toArray, List.set_cons_zero, List.set_cons_succ]
                    refine wpAnyH_take (i := 3) (oi := { dst := some 70, op := Op.move (Operand.tmp 5), type := 3, pos := _, after := #[], guard := none }) (v := ?_) rfl (by kernel_rfl) (by kernel_rfl) (by kernel_rfl) (fun _ _ _ h => h) (Or.inl ⟨by kernel_rfl, ?_⟩) (by assumption) ?_
                    rotate_left
                    · intro w hSw; go_simp; first | done | (with_reducible rfl)
                    try simp only [Act.put, List.setIfInBounds_toArray, List.set_cons_zero, List.set_cons_succ]
                    refine wpAnyH_take (i := 4) (oi := { dst := some 71, op := Op.move (Operand.tmp 5), type := 3, pos := _, after := #[], guard := none }) (v := ?_) rfl (by kernel_rfl) (by kernel_rfl) (by kernel_rfl) (fun _ _ _ h => h) (Or.inl ⟨by kernel_rfl, ?_⟩) (by assumption) ?_
                    rotate_left
                    · intro w hSw; go_simp; first | done | (with_reducible rfl)
                    try simp only [Act.put, List.setIfInBounds_toArray, List.set_cons_zero, List.set_cons_succ]
                    refine wpAnyH_take (i := 5) (oi := { dst := some 72, op := Op.move (Operand.tmp 7), type := 3, pos := _, after := #[], guard := none }) (v := ?_) rfl (by kernel_rfl) (by kernel_rfl) (by kernel_rfl) (fun _ _ _ h => h) (Or.inl ⟨by kernel_rfl, ?_⟩) (by assumption) ?_
                    rotate_left
                    · intro w hSw; go_simp; first | done | (with_reducible rfl)
                    try simp only [Act.put, List.setIfInBounds_toArray, List.set_cons_zero, List.set_cons_succ]
                    refine wpAnyH_take (i := 6) (oi := { dst := some 73, op := Op.binOp BinOp.add 3 (Operand.tmp 71) (Operand.tmp 72) 3, type := 3, pos := _, after := #[{ on := 4, ground := Ground.data }, { on := 5, ground := Ground.data }], guard := none }) (v := ?_) rfl (by kernel_rfl) (by kernel_rfl) (by kernel_rfl) (fun _ _ _ h => h) (Or.inl ⟨by kernel_rfl, ?_⟩) (by assumption) ?_
                    rotate_left
                    · intro w hSw; go_simp; first | done | (with_reducible rfl)
                    try simp only [Act.put, List.setIfInBounds_toArray, List.set_cons_zero, List.set_cons_succ]
                    refine wpAnyH_take (i := 7) (oi := { dst := some 74, op := Op.slice 9 (Operand.tmp 69) (some (Operand.tmp 70)) (some (Operand.tmp 73)) none, type := 9, pos := _, after := #[{ on := 2, ground := Ground.data }, { on := 3, ground := Ground.data }, { on := 6, ground := Ground.data }], guard := none }) (v := ?_) rfl (by kernel_rfl) (by kernel_rfl) (by kernel_rfl) (fun _ _ _ h => h) (Or.inl ⟨by kernel_rfl, ?_⟩) (by assumption) ?_
                    rotate_left
                    · intro w hSw; go_simp; first | done | (with_reducible rfl)
                    try simp only [Act.put, List.setIfInBounds_toArray, List.set_cons_zero, List.set_cons_succ]
                    refine wpAnyH_ready (rs := [1]) (by kernel_rfl) (by simp) ?_
                    refine AllReadyH.cons (o := { dst := some 68, op := Op.call { callee := Callee.value (Operand.func 14), args := #[Operand.tmp 67], argTypes := #[3] }, type := 9, pos := _, after := #[{ on := 0, ground := Ground.data }], guard := none }) rfl (fun K hK => ?_) AllReadyH.nil
                    rw [if_pos (by kernel_rfl)]
                    go_simp
                    go_at_call 14
                    refine (hR _).mono ?_
                    rintro e w4 ⟨rfl, rfl⟩
                    go_wp2_with fail
                    refine hK.out _ _ trivial (fun _ => ?_)
                    clear hK K
                    try simp only [Act.put, List.setIfInBounds_toArray, List.set_cons_zero, List.set_cons_succ]
                    refine wpAnyH_take (i := 8) (oi := { dst := some 75, op := Op.binOp BinOp.neq 9 (Operand.tmp 68) (Operand.tmp 74) 9, type := 4, pos := _, after := #[{ on := 1, ground := Ground.data }, { on := 7, ground := Ground.data }], guard := none }) (v := ?_) rfl (by kernel_rfl) (by kernel_rfl) (by kernel_rfl) (fun _ _ _ h => h) (Or.inl ⟨by kernel_rfl, ?_⟩) (by assumption) ?_
                    rotate_left
                    · intro w hSw; go_simp; first | done | (with_reducible rfl)
                    try simp only [Act.put, List.setIfInBounds_toArray, List.set_cons_zero, List.set_cons_succ]
                    refine wpAnyH_done (by kernel_rfl) ?_ _
                    go_wp2
                    go_roundw
                    case rel => exact ⟨k + 3, by omega, by first | rfl | (simp; done) | go_num, HGO.out.symm, hbx.drew⟩
                    case measure => simp [intOf]; omega
                  · have hne := str_ne hEq
                    clear hEq
                    generalize bs (encR n) = t at hR hne
                    go_wp2_with fail
                    refine wp_region_held_drew (S := fun w' => True) (by kernel_rfl) (trivial) (fun hHeld => ?_)
                    refine wpAnyH_take (i := 0) (oi := { dst := some 67, op := Op.move (Operand.tmp 8), type := 3, pos := _, after := #[], guard := none }) (v := ?_) rfl (by kernel_rfl) (by kernel_rfl) (by kernel_rfl) (fun _ _ _ h => h) (Or.inl ⟨by kernel_rfl, ?_⟩) (by assumption) ?_
                    rotate_left
                    · intro w hSw; go_simp; first | done | (with_reducible rfl)
                    try simp only [Act.put, List.setIfInBounds_toArray, List.set_cons_zero, List.set_cons_succ]
                    refine wpAnyH_take (i := 2) (oi := { dst := some 69, op := Op.move (Operand.tmp 3), type := 9, pos := _, after := #[], guard := none }) (v := ?_) rfl (by kernel_rfl) (by kernel_rfl) (by kernel_rfl) (fun _ _ _ h => h) (Or.inl ⟨by kernel_rfl, ?_⟩) (by assumption) ?_
                    rotate_left
                    · intro w hSw; go_simp; first | done | (with_reducible rfl)
                    try simp only [Act.put, List.setIfInBounds_toArray, List.set_cons_zero, List.set_cons_succ]
                    refine wpAnyH_take (i := 3) (oi := { dst := some 70, op := Op.move (Operand.tmp 5), type := 3, pos := _, after := #[], guard := none }) (v := ?_) rfl (by kernel_rfl) (by kernel_rfl) (by kernel_rfl) (fun _ _ _ h => h) (Or.inl ⟨by kernel_rfl, ?_⟩) (by assumption) ?_
                    rotate_left
                    · intro w hSw; go_simp; first | done | (with_reducible rfl)
                    try simp only [Act.put, List.setIfInBounds_toArray, List.set_cons_zero, List.set_cons_succ]
                    refine wpAnyH_take (i := 4) (oi := { dst := some 71, op := Op.move (Operand.tmp 5), type := 3, pos := _, after := #[], guard := none }) (v := ?_) rfl (by kernel_rfl) (by kernel_rfl) (by kernel_rfl) (fun _ _ _ h => h) (Or.inl ⟨by kernel_rfl, ?_⟩) (by assumption) ?_
                    rotate_left
                    · intro w hSw; go_simp; first | done | (with_reducible rfl)
                    try simp only [Act.put, List.setIfInBounds_toArray, List.set_cons_zero, List.set_cons_succ]
                    refine wpAnyH_take (i := 5) (oi := { dst := some 72, op := Op.move (Operand.tmp 7), type := 3, pos := _, after := #[], guard := none }) (v := ?_) rfl (by kernel_rfl) (by kernel_rfl) (by kernel_rfl) (fun _ _ _ h => h) (Or.inl ⟨by kernel_rfl, ?_⟩) (by assumption) ?_
                    rotate_left
                    · intro w hSw; go_simp; first | done | (with_reducible rfl)
                    try simp only [Act.put, List.setIfInBounds_toArray, List.set_cons_zero, List.set_cons_succ]
                    refine wpAnyH_take (i := 6) (oi := { dst := some 73, op := Op.binOp BinOp.add 3 (Operand.tmp 71) (Operand.tmp 72) 3, type := 3, pos := _, after := #[{ on := 4, ground := Ground.data }, { on := 5, ground := Ground.data }], guard := none }) (v := ?_) rfl (by kernel_rfl) (by kernel_rfl) (by kernel_rfl) (fun _ _ _ h => h) (Or.inl ⟨by kernel_rfl, ?_⟩) (by assumption) ?_
                    rotate_left
                    · intro w hSw; go_simp; first | done | (with_reducible rfl)
                    try simp only [Act.put, List.setIfInBounds_toArray, List.set_cons_zero, List.set_cons_succ]
                    refine wpAnyH_take (i := 7) (oi := { dst := some 74, op := Op.slice 9 (Operand.tmp 69) (some (Operand.tmp 70)) (some (Operand.tmp 73)) none, type := 9, pos := _, after := #[{ on := 2, ground := Ground.data }, { on := 3, ground := Ground.data }, { on := 6, ground := Ground.data }], guard := none }) (v := ?_) rfl (by kernel_rfl) (by kernel_rfl) (by kernel_rfl) (fun _ _ _ h => h) (Or.inl ⟨by kernel_rfl, ?_⟩) (by assumption) ?_
                    rotate_left
                    · intro w hSw; go_simp; first | done | (with_reducible rfl)
                    try simp only [Act.put, List.setIfInBounds_toArray, List.set_cons_zero, List.set_cons_succ]
                    refine wpAnyH_ready (rs := [1]) (by kernel_rfl) (by simp) ?_
                    refine AllReadyH.cons (o := { dst := some 68, op := Op.call { callee := Callee.value (Operand.func 14), args := #[Operand.tmp 67], argTypes := #[3] }, type := 9, pos := _, after := #[{ on := 0, ground := Ground.data }], guard := none }) rfl (fun K hK => ?_) AllReadyH.nil
                    rw [if_pos (by kernel_rfl)]
                    go_simp
                    go_at_call 14
                    refine (hR _).mono ?_
                    rintro e w4 ⟨rfl, rfl⟩
                    go_wp2_with fail
                    refine hK.out _ _ trivial (fun _ => ?_)
                    clear hK K
                    try simp only [Act.put, List.setIfInBounds_toArray, List.set_cons_zero, List.set_cons_succ]
                    refine wpAnyH_take (i := 8) (oi := { dst := some 75, op := Op.binOp BinOp.neq 9 (Operand.tmp 68) (Operand.tmp 74) 9, type := 4, pos := _, after := #[{ on := 1, ground := Ground.data }, { on := 7, ground := Ground.data }], guard := none }) (v := ?_) rfl (by kernel_rfl) (by kernel_rfl) (by kernel_rfl) (fun _ _ _ h => h) (Or.inl ⟨by kernel_rfl, ?_⟩) (by assumption) ?_
                    rotate_left
                    · intro w hSw; go_simp; first | done | (with_reducible rfl)
                    try simp only [Act.put, List.setIfInBounds_toArray, List.set_cons_zero, List.set_cons_succ]
                    refine wpAnyH_done (by kernel_rfl) ?_ _
                    go_wp2
                    go_ret
                    exact ⟨rfl, hbx.drew⟩
            · have hfn : (s.size : Int) < (k : Int) + 3 := by omega
              have hfw : IntKind.i64.wrap ((k : Int) + 3) = (k : Int) + 3 := IntWalk.i64_in _ (by omega)
              go_wp2
              go_ret
              exact ⟨rfl, hbel⟩
          · obtain ⟨B, hB⟩ : ∃ B : Int, B = baseB (s[k]).toNat := ⟨_, rfl⟩
            rw [e2] at hB
            have HB := Lib.hid hB
            have Hbd := Lib.hid (decB_bd B (by omega) (by omega))
            clear hB
            by_cases hfit : k + 2 ≤ s.size
            · have hfi : (k : Int) + 2 ≤ (s.size : Int) := by omega
              have hfn : ¬ (s.size : Int) < (k : Int) + 2 := by omega
              have hfw : IntKind.i64.wrap ((k : Int) + 2) = (k : Int) + 2 := IntWalk.i64_in _ (by omega)
              have hfz : (0 : Int) ≤ (k : Int) + 2 := by omega
              go_wp2_with fail
              go_loopw [8, 9] (fun u c wx => ∃ i : Nat, 1 ≤ i ∧ i ≤ 2 ∧ u = .int .i64 (decB B (((bl s).drop (k + 1)).take (i - 1))) ∧ c = .int .i64 i ∧ Below w.heap.size w wx) (fun _ c _ => 2 - (intOf c).toNat)
              case atStart => exact ⟨1, by omega, by omega, by first | rfl | (show Value.int IntKind.i64 _ = Value.int IntKind.i64 B; first | rfl | rw [HB.out]), rfl, hbel⟩
              case round =>
                obtain ⟨i, hi0, hi, rfl, rfl, hbx⟩ := hrel
                have hbd := Hbd.out (((bl s).drop (k + 1)).take (i - 1)) (fun b hb => bl_lt s b (List.mem_of_mem_drop (List.mem_of_mem_take hb))) (by rw [List.length_take]; omega)
                obtain ⟨n, hn⟩ : ∃ n, n = decB B (((bl s).drop (k + 1)).take (i - 1)) := ⟨_, rfl⟩
                rw [← hn] at hbd ⊢
                have HN := Lib.hid hn
                clear hn
                obtain ⟨hn0, hn1⟩ := hbd
                by_cases hil : i < 2
                · have hki : k + i < s.size := by omega
                  have hy : (s[k + i]).toNat < 256 := (s[k + i]).toNat_lt
                  have hti : ((k : Int) + (i : Int)).toNat = k + i := by omega
                  have hj0 : (0 : Int) ≤ (k : Int) + (i : Int) := by omega
                  have hj1 : (k : Int) + (i : Int) < (s.size : Int) := by omega
                  have hjw : IntKind.i64.wrap ((k : Int) + (i : Int)) = (k : Int) + (i : Int) := IntWalk.i64_in _ (by omega)
                  have HST : Hid (decB B (((bl s).drop (k + 1)).take i) = 64 * n + ((s[k + i]).toNat : Int) - 128) := Lib.hid (by
                    obtain ⟨j, rfl⟩ : ∃ j, i = j + 1 := ⟨i - 1, by omega⟩
                    rw [HN.out, take_snoc2 (by rw [List.length_drop, HL.out]; omega), decB_snoc, Nat.add_sub_cancel]
                    have : ((bl s).drop (k + 1)).getD j 0 = (s[k + (j + 1)]).toNat := by
                      rw [← bl_get s (k + (j + 1)) hki]
                      simp [List.getD, List.getElem?_drop, Nat.add_assoc, Nat.add_comm 1 j]
                    rw [this])
                  go_wp2
                  go_roundw
                  case rel => exact ⟨i + 1, by omega, by omega, by rw [Nat.add_sub_cancel, HST.out] <;> first | rfl | (congr 1; omega), by go_num, hbx⟩
                  case measure => simp [intOf]; omega
                · obtain rfl : i = 2 := by omega
                  have HN2 : Hid (n = decB B (((bl s).drop (k + 1)).take (2 - 1))) := HN
                  have hslc : ∀ wx : World, (Instr.slice 9 (.string s) (some (.int .i64 (k : Int))) (some (.int .i64 ((k : Int) + 2))) none).run Try.prog wx = .ok (.string (s.extract k (k + 2))) wx := fun wx => by
                    have h := run_slice_string (P := Try.prog) wx 9 s .i64 .i64 (k : Int) ((k : Int) + 2) Try.underlying9 (by omega) (by omega) (by omega)
                    rw [show ((k : Int) + 2).toNat = k + 2 from by omega] at h
                    exact h
                  have hR := fun w => cI_RuneText n w (by omega) (by omega)
                  by_cases hEq : encR n = ((bl s).drop k).take 2
                  · rw [str_eq hEq] at hR
                    have hgo := good_on (by omega) hfit hEq
                    rw [hgk] at hgo
                    have HGO := Lib.hid hgo
                    clear hgo hEq
                    go_wp2_with fail
                    refine wp_region_held_drew (S := fun w' => True) (by kernel_rfl) (trivial) (fun hHeld => ?_)
                    refine wpAnyH_take (i := 0) (oi := { dst := some 67, op := Op.move (Operand.tmp 8), type := 3, pos := _, after := #[], guard := none }) (v := ?_) rfl (by kernel_rfl) (by kernel_rfl) (by kernel_rfl) (fun _ _ _ h => h) (Or.inl ⟨by kernel_rfl, ?_⟩) (by assumption) ?_
                    rotate_left
                    · intro w hSw; go_simp; first | done | (with_reducible rfl)
                    try simp only [Act.put, List.setIfInBounds_toArray, List.set_cons_zero, List.set_cons_succ]
                    refine wpAnyH_take (i := 2) (oi := { dst := some 69, op := Op.move (Operand.tmp 3), type := 9, pos := _, after := #[], guard := none }) (v := ?_) rfl (by kernel_rfl) (by kernel_rfl) (by kernel_rfl) (fun _ _ _ h => h) (Or.inl ⟨by kernel_rfl, ?_⟩) (by assumption) ?_
                    rotate_left
                    · intro w hSw; go_simp; first | done | (with_reducible rfl)
                    try simp only [Act.put, List.setIfInBounds_toArray, List.set_cons_zero, List.set_cons_succ]
                    refine wpAnyH_take (i := 3) (oi := { dst := some 70, op := Op.move (Operand.tmp 5), type := 3, pos := _, after := #[], guard := none }) (v := ?_) rfl (by kernel_rfl) (by kernel_rfl) (by kernel_rfl) (fun _ _ _ h => h) (Or.inl ⟨by kernel_rfl, ?_⟩) (by assumption) ?_
                    rotate_left
                    · intro w hSw; go_simp; first | done | (with_reducible rfl)
                    try simp only [Act.put, List.setIfInBounds_toArray, List.set_cons_zero, List.set_cons_succ]
                    refine wpAnyH_take (i := 4) (oi := { dst := some 71, op := Op.move (Operand.tmp 5), type := 3, pos := _, after := #[], guard := none }) (v := ?_) rfl (by kernel_rfl) (by kernel_rfl) (by kernel_rfl) (fun _ _ _ h => h) (Or.inl ⟨by kernel_rfl, ?_⟩) (by assumption) ?_
                    rotate_left
                    · intro w hSw; go_simp; first | done | (with_reducible rfl)
                    try simp only [Act.put, List.setIfInBounds_toArray, List.set_cons_zero, List.set_cons_succ]
                    refine wpAnyH_take (i := 5) (oi := { dst := some 72, op := Op.move (Operand.tmp 7), type := 3, pos := _, after := #[], guard := none }) (v := ?_) rfl (by kernel_rfl) (by kernel_rfl) (by kernel_rfl) (fun _ _ _ h => h) (Or.inl ⟨by kernel_rfl, ?_⟩) (by assumption) ?_
                    rotate_left
                    · intro w hSw; go_simp; first | done | (with_reducible rfl)
                    try simp only [Act.put, List.setIfInBounds_toArray, List.set_cons_zero, List.set_cons_succ]
                    refine wpAnyH_take (i := 6) (oi := { dst := some 73, op := Op.binOp BinOp.add 3 (Operand.tmp 71) (Operand.tmp 72) 3, type := 3, pos := _, after := #[{ on := 4, ground := Ground.data }, { on := 5, ground := Ground.data }], guard := none }) (v := ?_) rfl (by kernel_rfl) (by kernel_rfl) (by kernel_rfl) (fun _ _ _ h => h) (Or.inl ⟨by kernel_rfl, ?_⟩) (by assumption) ?_
                    rotate_left
                    · intro w hSw; go_simp; first | done | (with_reducible rfl)
                    try simp only [Act.put, List.setIfInBounds_toArray, List.set_cons_zero, List.set_cons_succ]
                    refine wpAnyH_take (i := 7) (oi := { dst := some 74, op := Op.slice 9 (Operand.tmp 69) (some (Operand.tmp 70)) (some (Operand.tmp 73)) none, type := 9, pos := _, after := #[{ on := 2, ground := Ground.data }, { on := 3, ground := Ground.data }, { on := 6, ground := Ground.data }], guard := none }) (v := ?_) rfl (by kernel_rfl) (by kernel_rfl) (by kernel_rfl) (fun _ _ _ h => h) (Or.inl ⟨by kernel_rfl, ?_⟩) (by assumption) ?_
                    rotate_left
                    · intro w hSw; go_simp; first | done | (with_reducible rfl)
                    try simp only [Act.put, List.setIfInBounds_toArray, List.set_cons_zero, List.set_cons_succ]
                    refine wpAnyH_ready (rs := [1]) (by kernel_rfl) (by simp) ?_
                    refine AllReadyH.cons (o := { dst := some 68, op := Op.call { callee := Callee.value (Operand.func 14), args := #[Operand.tmp 67], argTypes := #[3] }, type := 9, pos := _, after := #[{ on := 0, ground := Ground.data }], guard := none }) rfl (fun K hK => ?_) AllReadyH.nil
                    rw [if_pos (by kernel_rfl)]
                    go_simp
                    go_at_call 14
                    refine (hR _).mono ?_
                    rintro e w4 ⟨rfl, rfl⟩
                    go_wp2_with fail
                    refine hK.out _ _ trivial (fun _ => ?_)
                    clear hK K
                    try simp only [Act.put, List.setIfInBounds_toArray, List.set_cons_zero, List.set_cons_succ]
                    refine wpAnyH_take (i := 8) (oi := { dst := some 75, op := Op.binOp BinOp.neq 9 (Operand.tmp 68) (Operand.tmp 74) 9, type := 4, pos := _, after := #[{ on := 1, ground := Ground.data }, { on := 7, ground := Ground.data }], guard := none }) (v := ?_) rfl (by kernel_rfl) (by kernel_rfl) (by kernel_rfl) (fun _ _ _ h => h) (Or.inl ⟨by kernel_rfl, ?_⟩) (by assumption) ?_
                    rotate_left
                    · intro w hSw; go_simp; first | done | (with_reducible rfl)
                    try simp only [Act.put, List.setIfInBounds_toArray, List.set_cons_zero, List.set_cons_succ]
                    refine wpAnyH_done (by kernel_rfl) ?_ _
                    go_wp2
                    go_roundw
                    case rel => exact ⟨k + 2, by omega, by first | rfl | (simp; done) | go_num, HGO.out.symm, hbx.drew⟩
                    case measure => simp [intOf]; omega
                  · have hne := str_ne hEq
                    clear hEq
                    generalize bs (encR n) = t at hR hne
                    go_wp2_with fail
                    refine wp_region_held_drew (S := fun w' => True) (by kernel_rfl) (trivial) (fun hHeld => ?_)
                    refine wpAnyH_take (i := 0) (oi := { dst := some 67, op := Op.move (Operand.tmp 8), type := 3, pos := _, after := #[], guard := none }) (v := ?_) rfl (by kernel_rfl) (by kernel_rfl) (by kernel_rfl) (fun _ _ _ h => h) (Or.inl ⟨by kernel_rfl, ?_⟩) (by assumption) ?_
                    rotate_left
                    · intro w hSw; go_simp; first | done | (with_reducible rfl)
                    try simp only [Act.put, List.setIfInBounds_toArray, List.set_cons_zero, List.set_cons_succ]
                    refine wpAnyH_take (i := 2) (oi := { dst := some 69, op := Op.move (Operand.tmp 3), type := 9, pos := _, after := #[], guard := none }) (v := ?_) rfl (by kernel_rfl) (by kernel_rfl) (by kernel_rfl) (fun _ _ _ h => h) (Or.inl ⟨by kernel_rfl, ?_⟩) (by assumption) ?_
                    rotate_left
                    · intro w hSw; go_simp; first | done | (with_reducible rfl)
                    try simp only [Act.put, List.setIfInBounds_toArray, List.set_cons_zero, List.set_cons_succ]
                    refine wpAnyH_take (i := 3) (oi := { dst := some 70, op := Op.move (Operand.tmp 5), type := 3, pos := _, after := #[], guard := none }) (v := ?_) rfl (by kernel_rfl) (by kernel_rfl) (by kernel_rfl) (fun _ _ _ h => h) (Or.inl ⟨by kernel_rfl, ?_⟩) (by assumption) ?_
                    rotate_left
                    · intro w hSw; go_simp; first | done | (with_reducible rfl)
                    try simp only [Act.put, List.setIfInBounds_toArray, List.set_cons_zero, List.set_cons_succ]
                    refine wpAnyH_take (i := 4) (oi := { dst := some 71, op := Op.move (Operand.tmp 5), type := 3, pos := _, after := #[], guard := none }) (v := ?_) rfl (by kernel_rfl) (by kernel_rfl) (by kernel_rfl) (fun _ _ _ h => h) (Or.inl ⟨by kernel_rfl, ?_⟩) (by assumption) ?_
                    rotate_left
                    · intro w hSw; go_simp; first | done | (with_reducible rfl)
                    try simp only [Act.put, List.setIfInBounds_toArray, List.set_cons_zero, List.set_cons_succ]
                    refine wpAnyH_take (i := 5) (oi := { dst := some 72, op := Op.move (Operand.tmp 7), type := 3, pos := _, after := #[], guard := none }) (v := ?_) rfl (by kernel_rfl) (by kernel_rfl) (by kernel_rfl) (fun _ _ _ h => h) (Or.inl ⟨by kernel_rfl, ?_⟩) (by assumption) ?_
                    rotate_left
                    · intro w hSw; go_simp; first | done | (with_reducible rfl)
                    try simp only [Act.put, List.setIfInBounds_toArray, List.set_cons_zero, List.set_cons_succ]
                    refine wpAnyH_take (i := 6) (oi := { dst := some 73, op := Op.binOp BinOp.add 3 (Operand.tmp 71) (Operand.tmp 72) 3, type := 3, pos := _, after := #[{ on := 4, ground := Ground.data }, { on := 5, ground := Ground.data }], guard := none }) (v := ?_) rfl (by kernel_rfl) (by kernel_rfl) (by kernel_rfl) (fun _ _ _ h => h) (Or.inl ⟨by kernel_rfl, ?_⟩) (by assumption) ?_
                    rotate_left
                    · intro w hSw; go_simp; first | done | (with_reducible rfl)
                    try simp only [Act.put, List.setIfInBounds_toArray, List.set_cons_zero, List.set_cons_succ]
                    refine wpAnyH_take (i := 7) (oi := { dst := some 74, op := Op.slice 9 (Operand.tmp 69) (some (Operand.tmp 70)) (some (Operand.tmp 73)) none, type := 9, pos := _, after := #[{ on := 2, ground := Ground.data }, { on := 3, ground := Ground.data }, { on := 6, ground := Ground.data }], guard := none }) (v := ?_) rfl (by kernel_rfl) (by kernel_rfl) (by kernel_rfl) (fun _ _ _ h => h) (Or.inl ⟨by kernel_rfl, ?_⟩) (by assumption) ?_
                    rotate_left
                    · intro w hSw; go_simp; first | done | (with_reducible rfl)
                    try simp only [Act.put, List.setIfInBounds_toArray, List.set_cons_zero, List.set_cons_succ]
                    refine wpAnyH_ready (rs := [1]) (by kernel_rfl) (by simp) ?_
                    refine AllReadyH.cons (o := { dst := some 68, op := Op.call { callee := Callee.value (Operand.func 14), args := #[Operand.tmp 67], argTypes := #[3] }, type := 9, pos := _, after := #[{ on := 0, ground := Ground.data }], guard := none }) rfl (fun K hK => ?_) AllReadyH.nil
                    rw [if_pos (by kernel_rfl)]
                    go_simp
                    go_at_call 14
                    refine (hR _).mono ?_
                    rintro e w4 ⟨rfl, rfl⟩
                    go_wp2_with fail
                    refine hK.out _ _ trivial (fun _ => ?_)
                    clear hK K
                    try simp only [Act.put, List.setIfInBounds_toArray, List.set_cons_zero, List.set_cons_succ]
                    refine wpAnyH_take (i := 8) (oi := { dst := some 75, op := Op.binOp BinOp.neq 9 (Operand.tmp 68) (Operand.tmp 74) 9, type := 4, pos := _, after := #[{ on := 1, ground := Ground.data }, { on := 7, ground := Ground.data }], guard := none }) (v := ?_) rfl (by kernel_rfl) (by kernel_rfl) (by kernel_rfl) (fun _ _ _ h => h) (Or.inl ⟨by kernel_rfl, ?_⟩) (by assumption) ?_
                    rotate_left
                    · intro w hSw; go_simp; first | done | (with_reducible rfl)
                    try simp only [Act.put, List.setIfInBounds_toArray, List.set_cons_zero, List.set_cons_succ]
                    refine wpAnyH_done (by kernel_rfl) ?_ _
                    go_wp2
                    go_ret
                    exact ⟨rfl, hbx.drew⟩
            · have hfn : (s.size : Int) < (k : Int) + 2 := by omega
              have hfw : IntKind.i64.wrap ((k : Int) + 2) = (k : Int) + 2 := IntWalk.i64_in _ (by omega)
              go_wp2
              go_ret
              exact ⟨rfl, hbel⟩
          · obtain ⟨B, hB⟩ : ∃ B : Int, B = baseB (s[k]).toNat := ⟨_, rfl⟩
            rw [e2] at hB
            have HB := Lib.hid hB
            have Hbd := Lib.hid (decB_bd B (by omega) (by omega))
            clear hB
            by_cases hfit : k + 1 ≤ s.size
            · have hfi : (k : Int) + 1 ≤ (s.size : Int) := by omega
              have hfn : ¬ (s.size : Int) < (k : Int) + 1 := by omega
              have hfw : IntKind.i64.wrap ((k : Int) + 1) = (k : Int) + 1 := IntWalk.i64_in _ (by omega)
              have hfz : (0 : Int) ≤ (k : Int) + 1 := by omega
              go_wp2_with fail
              go_loopw [8, 9] (fun u c wx => ∃ i : Nat, 1 ≤ i ∧ i ≤ 1 ∧ u = .int .i64 (decB B (((bl s).drop (k + 1)).take (i - 1))) ∧ c = .int .i64 i ∧ Below w.heap.size w wx) (fun _ c _ => 1 - (intOf c).toNat)
              case atStart => exact ⟨1, by omega, by omega, by first | rfl | (show Value.int IntKind.i64 _ = Value.int IntKind.i64 B; first | rfl | rw [HB.out]), rfl, hbel⟩
              case round =>
                obtain ⟨i, hi0, hi, rfl, rfl, hbx⟩ := hrel
                have hbd := Hbd.out (((bl s).drop (k + 1)).take (i - 1)) (fun b hb => bl_lt s b (List.mem_of_mem_drop (List.mem_of_mem_take hb))) (by rw [List.length_take]; omega)
                obtain ⟨n, hn⟩ : ∃ n, n = decB B (((bl s).drop (k + 1)).take (i - 1)) := ⟨_, rfl⟩
                rw [← hn] at hbd ⊢
                have HN := Lib.hid hn
                clear hn
                obtain ⟨hn0, hn1⟩ := hbd
                by_cases hil : i < 1
                · exact absurd hil (by omega)
                · obtain rfl : i = 1 := by omega
                  have HN2 : Hid (n = decB B (((bl s).drop (k + 1)).take (1 - 1))) := HN
                  have hslc : ∀ wx : World, (Instr.slice 9 (.string s) (some (.int .i64 (k : Int))) (some (.int .i64 ((k : Int) + 1))) none).run Try.prog wx = .ok (.string (s.extract k (k + 1))) wx := fun wx => by
                    have h := run_slice_string (P := Try.prog) wx 9 s .i64 .i64 (k : Int) ((k : Int) + 1) Try.underlying9 (by omega) (by omega) (by omega)
                    rw [show ((k : Int) + 1).toNat = k + 1 from by omega] at h
                    exact h
                  have hR := fun w => cI_RuneText n w (by omega) (by omega)
                  by_cases hEq : encR n = ((bl s).drop k).take 1
                  · rw [str_eq hEq] at hR
                    have hgo := good_on (by omega) hfit hEq
                    rw [hgk] at hgo
                    have HGO := Lib.hid hgo
                    clear hgo hEq
                    go_wp2_with fail
                    refine wp_region_held_drew (S := fun w' => True) (by kernel_rfl) (trivial) (fun hHeld => ?_)
                    refine wpAnyH_take (i := 0) (oi := { dst := some 67, op := Op.move (Operand.tmp 8), type := 3, pos := _, after := #[], guard := none }) (v := ?_) rfl (by kernel_rfl) (by kernel_rfl) (by kernel_rfl) (fun _ _ _ h => h) (Or.inl ⟨by kernel_rfl, ?_⟩) (by assumption) ?_
                    rotate_left
                    · intro w hSw; go_simp; first | done | (with_reducible rfl)
                    try simp only [Act.put, List.setIfInBounds_toArray, List.set_cons_zero, List.set_cons_succ]
                    refine wpAnyH_take (i := 2) (oi := { dst := some 69, op := Op.move (Operand.tmp 3), type := 9, pos := _, after := #[], guard := none }) (v := ?_) rfl (by kernel_rfl) (by kernel_rfl) (by kernel_rfl) (fun _ _ _ h => h) (Or.inl ⟨by kernel_rfl, ?_⟩) (by assumption) ?_
                    rotate_left
                    · intro w hSw; go_simp; first | done | (with_reducible rfl)
                    try simp only [Act.put, List.setIfInBounds_toArray, List.set_cons_zero, List.set_cons_succ]
                    refine wpAnyH_take (i := 3) (oi := { dst := some 70, op := Op.move (Operand.tmp 5), type := 3, pos := _, after := #[], guard := none }) (v := ?_) rfl (by kernel_rfl) (by kernel_rfl) (by kernel_rfl) (fun _ _ _ h => h) (Or.inl ⟨by kernel_rfl, ?_⟩) (by assumption) ?_
                    rotate_left
                    · intro w hSw; go_simp; first | done | (with_reducible rfl)
                    try simp only [Act.put, List.setIfInBounds_toArray, List.set_cons_zero, List.set_cons_succ]
                    refine wpAnyH_take (i := 4) (oi := { dst := some 71, op := Op.move (Operand.tmp 5), type := 3, pos := _, after := #[], guard := none }) (v := ?_) rfl (by kernel_rfl) (by kernel_rfl) (by kernel_rfl) (fun _ _ _ h => h) (Or.inl ⟨by kernel_rfl, ?_⟩) (by assumption) ?_
                    rotate_left
                    · intro w hSw; go_simp; first | done | (with_reducible rfl)
                    try simp only [Act.put, List.setIfInBounds_toArray, List.set_cons_zero, List.set_cons_succ]
                    refine wpAnyH_take (i := 5) (oi := { dst := some 72, op := Op.move (Operand.tmp 7), type := 3, pos := _, after := #[], guard := none }) (v := ?_) rfl (by kernel_rfl) (by kernel_rfl) (by kernel_rfl) (fun _ _ _ h => h) (Or.inl ⟨by kernel_rfl, ?_⟩) (by assumption) ?_
                    rotate_left
                    · intro w hSw; go_simp; first | done | (with_reducible rfl)
                    try simp only [Act.put, List.setIfInBounds_toArray, List.set_cons_zero, List.set_cons_succ]
                    refine wpAnyH_take (i := 6) (oi := { dst := some 73, op := Op.binOp BinOp.add 3 (Operand.tmp 71) (Operand.tmp 72) 3, type := 3, pos := _, after := #[{ on := 4, ground := Ground.data }, { on := 5, ground := Ground.data }], guard := none }) (v := ?_) rfl (by kernel_rfl) (by kernel_rfl) (by kernel_rfl) (fun _ _ _ h => h) (Or.inl ⟨by kernel_rfl, ?_⟩) (by assumption) ?_
                    rotate_left
                    · intro w hSw; go_simp; first | done | (with_reducible rfl)
                    try simp only [Act.put, List.setIfInBounds_toArray, List.set_cons_zero, List.set_cons_succ]
                    refine wpAnyH_take (i := 7) (oi := { dst := some 74, op := Op.slice 9 (Operand.tmp 69) (some (Operand.tmp 70)) (some (Operand.tmp 73)) none, type := 9, pos := _, after := #[{ on := 2, ground := Ground.data }, { on := 3, ground := Ground.data }, { on := 6, ground := Ground.data }], guard := none }) (v := ?_) rfl (by kernel_rfl) (by kernel_rfl) (by kernel_rfl) (fun _ _ _ h => h) (Or.inl ⟨by kernel_rfl, ?_⟩) (by assumption) ?_
                    rotate_left
                    · intro w hSw; go_simp; first | done | (with_reducible rfl)
                    try simp only [Act.put, List.setIfInBounds_toArray, List.set_cons_zero, List.set_cons_succ]
                    refine wpAnyH_ready (rs := [1]) (by kernel_rfl) (by simp) ?_
                    refine AllReadyH.cons (o := { dst := some 68, op := Op.call { callee := Callee.value (Operand.func 14), args := #[Operand.tmp 67], argTypes := #[3] }, type := 9, pos := _, after := #[{ on := 0, ground := Ground.data }], guard := none }) rfl (fun K hK => ?_) AllReadyH.nil
                    rw [if_pos (by kernel_rfl)]
                    go_simp
                    go_at_call 14
                    refine (hR _).mono ?_
                    rintro e w4 ⟨rfl, rfl⟩
                    go_wp2_with fail
                    refine hK.out _ _ trivial (fun _ => ?_)
                    clear hK K
                    try simp only [Act.put, List.setIfInBounds_toArray, List.set_cons_zero, List.set_cons_succ]
                    refine wpAnyH_take (i := 8) (oi := { dst := some 75, op := Op.binOp BinOp.neq 9 (Operand.tmp 68) (Operand.tmp 74) 9, type := 4, pos := _, after := #[{ on := 1, ground := Ground.data }, { on := 7, ground := Ground.data }], guard := none }) (v := ?_) rfl (by kernel_rfl) (by kernel_rfl) (by kernel_rfl) (fun _ _ _ h => h) (Or.inl ⟨by kernel_rfl, ?_⟩) (by assumption) ?_
                    rotate_left
                    · intro w hSw; go_simp; first | done | (with_reducible rfl)
                    try simp only [Act.put, List.setIfInBounds_toArray, List.set_cons_zero, List.set_cons_succ]
                    refine wpAnyH_done (by kernel_rfl) ?_ _
                    go_wp2
                    go_roundw
                    case rel => exact ⟨k + 1, by omega, by first | rfl | (simp; done) | go_num, HGO.out.symm, hbx.drew⟩
                    case measure => simp [intOf]; omega
                  · have hne := str_ne hEq
                    clear hEq
                    generalize bs (encR n) = t at hR hne
                    go_wp2_with fail
                    refine wp_region_held_drew (S := fun w' => True) (by kernel_rfl) (trivial) (fun hHeld => ?_)
                    refine wpAnyH_take (i := 0) (oi := { dst := some 67, op := Op.move (Operand.tmp 8), type := 3, pos := _, after := #[], guard := none }) (v := ?_) rfl (by kernel_rfl) (by kernel_rfl) (by kernel_rfl) (fun _ _ _ h => h) (Or.inl ⟨by kernel_rfl, ?_⟩) (by assumption) ?_
                    rotate_left
                    · intro w hSw; go_simp; first | done | (with_reducible rfl)
                    try simp only [Act.put, List.setIfInBounds_toArray, List.set_cons_zero, List.set_cons_succ]
                    refine wpAnyH_take (i := 2) (oi := { dst := some 69, op := Op.move (Operand.tmp 3), type := 9, pos := _, after := #[], guard := none }) (v := ?_) rfl (by kernel_rfl) (by kernel_rfl) (by kernel_rfl) (fun _ _ _ h => h) (Or.inl ⟨by kernel_rfl, ?_⟩) (by assumption) ?_
                    rotate_left
                    · intro w hSw; go_simp; first | done | (with_reducible rfl)
                    try simp only [Act.put, List.setIfInBounds_toArray, List.set_cons_zero, List.set_cons_succ]
                    refine wpAnyH_take (i := 3) (oi := { dst := some 70, op := Op.move (Operand.tmp 5), type := 3, pos := _, after := #[], guard := none }) (v := ?_) rfl (by kernel_rfl) (by kernel_rfl) (by kernel_rfl) (fun _ _ _ h => h) (Or.inl ⟨by kernel_rfl, ?_⟩) (by assumption) ?_
                    rotate_left
                    · intro w hSw; go_simp; first | done | (with_reducible rfl)
                    try simp only [Act.put, List.setIfInBounds_toArray, List.set_cons_zero, List.set_cons_succ]
                    refine wpAnyH_take (i := 4) (oi := { dst := some 71, op := Op.move (Operand.tmp 5), type := 3, pos := _, after := #[], guard := none }) (v := ?_) rfl (by kernel_rfl) (by kernel_rfl) (by kernel_rfl) (fun _ _ _ h => h) (Or.inl ⟨by kernel_rfl, ?_⟩) (by assumption) ?_
                    rotate_left
                    · intro w hSw; go_simp; first | done | (with_reducible rfl)
                    try simp only [Act.put, List.setIfInBounds_toArray, List.set_cons_zero, List.set_cons_succ]
                    refine wpAnyH_take (i := 5) (oi := { dst := some 72, op := Op.move (Operand.tmp 7), type := 3, pos := _, after := #[], guard := none }) (v := ?_) rfl (by kernel_rfl) (by kernel_rfl) (by kernel_rfl) (fun _ _ _ h => h) (Or.inl ⟨by kernel_rfl, ?_⟩) (by assumption) ?_
                    rotate_left
                    · intro w hSw; go_simp; first | done | (with_reducible rfl)
                    try simp only [Act.put, List.setIfInBounds_toArray, List.set_cons_zero, List.set_cons_succ]
                    refine wpAnyH_take (i := 6) (oi := { dst := some 73, op := Op.binOp BinOp.add 3 (Operand.tmp 71) (Operand.tmp 72) 3, type := 3, pos := _, after := #[{ on := 4, ground := Ground.data }, { on := 5, ground := Ground.data }], guard := none }) (v := ?_) rfl (by kernel_rfl) (by kernel_rfl) (by kernel_rfl) (fun _ _ _ h => h) (Or.inl ⟨by kernel_rfl, ?_⟩) (by assumption) ?_
                    rotate_left
                    · intro w hSw; go_simp; first | done | (with_reducible rfl)
                    try simp only [Act.put, List.setIfInBounds_toArray, List.set_cons_zero, List.set_cons_succ]
                    refine wpAnyH_take (i := 7) (oi := { dst := some 74, op := Op.slice 9 (Operand.tmp 69) (some (Operand.tmp 70)) (some (Operand.tmp 73)) none, type := 9, pos := _, after := #[{ on := 2, ground := Ground.data }, { on := 3, ground := Ground.data }, { on := 6, ground := Ground.data }], guard := none }) (v := ?_) rfl (by kernel_rfl) (by kernel_rfl) (by kernel_rfl) (fun _ _ _ h => h) (Or.inl ⟨by kernel_rfl, ?_⟩) (by assumption) ?_
                    rotate_left
                    · intro w hSw; go_simp; first | done | (with_reducible rfl)
                    try simp only [Act.put, List.setIfInBounds_toArray, List.set_cons_zero, List.set_cons_succ]
                    refine wpAnyH_ready (rs := [1]) (by kernel_rfl) (by simp) ?_
                    refine AllReadyH.cons (o := { dst := some 68, op := Op.call { callee := Callee.value (Operand.func 14), args := #[Operand.tmp 67], argTypes := #[3] }, type := 9, pos := _, after := #[{ on := 0, ground := Ground.data }], guard := none }) rfl (fun K hK => ?_) AllReadyH.nil
                    rw [if_pos (by kernel_rfl)]
                    go_simp
                    go_at_call 14
                    refine (hR _).mono ?_
                    rintro e w4 ⟨rfl, rfl⟩
                    go_wp2_with fail
                    refine hK.out _ _ trivial (fun _ => ?_)
                    clear hK K
                    try simp only [Act.put, List.setIfInBounds_toArray, List.set_cons_zero, List.set_cons_succ]
                    refine wpAnyH_take (i := 8) (oi := { dst := some 75, op := Op.binOp BinOp.neq 9 (Operand.tmp 68) (Operand.tmp 74) 9, type := 4, pos := _, after := #[{ on := 1, ground := Ground.data }, { on := 7, ground := Ground.data }], guard := none }) (v := ?_) rfl (by kernel_rfl) (by kernel_rfl) (by kernel_rfl) (fun _ _ _ h => h) (Or.inl ⟨by kernel_rfl, ?_⟩) (by assumption) ?_
                    rotate_left
                    · intro w hSw; go_simp; first | done | (with_reducible rfl)
                    try simp only [Act.put, List.setIfInBounds_toArray, List.set_cons_zero, List.set_cons_succ]
                    refine wpAnyH_done (by kernel_rfl) ?_ _
                    go_wp2
                    go_ret
                    exact ⟨rfl, hbx.drew⟩
            · have hfn : (s.size : Int) < (k : Int) + 1 := by omega
              have hfw : IntKind.i64.wrap ((k : Int) + 1) = (k : Int) + 1 := IntWalk.i64_in _ (by omega)
              go_wp2
              go_ret
              exact ⟨rfl, hbel⟩
        · obtain rfl : k = s.size := by omega
          rw [List.drop_of_length_le (by rw [HL.out]; exact Nat.le_refl _)] at hgk
          exact absurd hgk (by decide)
    · rw [hgd] at hI hP
      have hg0 : goodU (0, 0, 0) ((bl s).drop 0) = true := hgd
      clear hgd
      go_wp2_with fail
      refine (hI _).mono ?_
      rintro e w2 ⟨rfl, hb2⟩
      have B2 := hb1.trans (hb2.mono hb1.size)
      go_wp2_with fail
      refine (hP _).mono ?_
      rintro e w3 ⟨rfl, hb3⟩
      have B3 := B2.trans (hb3.mono B2.size)
      clear hI hP hb1 hb2 hb3
      go_wp2_with fail
      go_loopw [5] (fun c wr => ∃ k : Nat, k ≤ s.size ∧ c = .int .i64 k ∧ goodU (0, 0, 0) ((bl s).drop k) = true ∧ Below w.heap.size w wr) (fun c _ => s.size - (intOf c).toNat)
      case atStart => exact ⟨0, Nat.zero_le _, rfl, hg0, B3⟩
      case round =>
        obtain ⟨k, hk, rfl, hgk, hbel⟩ := hrel
        by_cases hlt : k < s.size
        · have hk0 : (0 : Int) ≤ (k : Int) := by omega
          have hk1 : (k : Int) < (s.size : Int) := by omega
          have hx : (s[k]).toNat < 256 := (s[k]).toNat_lt
          rcases size_cases (s[k]).toNat hx with ⟨e1, e2, x1⟩ | ⟨e1, e2, x1, x2⟩ | ⟨e1, e2, x1, x2, x3⟩ | ⟨e1, e2, x1, x2, x3⟩
          · have hgk2 : goodU (0, 0, 0) ((s[k]).toNat :: (bl s).drop (k + 1)) = true := by rw [← head_at hlt]; exact hgk
            have hgh := good_head hx hgk2
            rw [e1, e2, ← head_at hlt] at hgh
            have hfit : k + 4 ≤ s.size := by have := hgh.1; rw [List.length_drop, HL.out] at this; omega
            obtain ⟨B, hB⟩ : ∃ B : Int, B = baseB (s[k]).toNat := ⟨_, rfl⟩
            rw [e2] at hB
            have HB := Lib.hid hB
            have Hbd := Lib.hid (decB_bd B (by omega) (by omega))
            clear hB
            have hfi : (k : Int) + 4 ≤ (s.size : Int) := by omega
            have hfn : ¬ (s.size : Int) < (k : Int) + 4 := by omega
            have hfw : IntKind.i64.wrap ((k : Int) + 4) = (k : Int) + 4 := IntWalk.i64_in _ (by omega)
            have hfz : (0 : Int) ≤ (k : Int) + 4 := by omega
            go_wp2_with fail
            go_loopw [8, 9] (fun u c wx => ∃ i : Nat, 1 ≤ i ∧ i ≤ 4 ∧ u = .int .i64 (decB B (((bl s).drop (k + 1)).take (i - 1))) ∧ c = .int .i64 i ∧ Below w.heap.size w wx) (fun _ c _ => 4 - (intOf c).toNat)
            case atStart => exact ⟨1, by omega, by omega, by first | rfl | (show Value.int IntKind.i64 _ = Value.int IntKind.i64 B; first | rfl | rw [HB.out]), rfl, hbel⟩
            case round =>
              obtain ⟨i, hi0, hi, rfl, rfl, hbx⟩ := hrel
              have hbd := Hbd.out (((bl s).drop (k + 1)).take (i - 1)) (fun b hb => bl_lt s b (List.mem_of_mem_drop (List.mem_of_mem_take hb))) (by rw [List.length_take]; omega)
              obtain ⟨n, hn⟩ : ∃ n, n = decB B (((bl s).drop (k + 1)).take (i - 1)) := ⟨_, rfl⟩
              rw [← hn] at hbd ⊢
              have HN := Lib.hid hn
              clear hn
              obtain ⟨hn0, hn1⟩ := hbd
              by_cases hil : i < 4
              · have hki : k + i < s.size := by omega
                have hy : (s[k + i]).toNat < 256 := (s[k + i]).toNat_lt
                have hti : ((k : Int) + (i : Int)).toNat = k + i := by omega
                have hj0 : (0 : Int) ≤ (k : Int) + (i : Int) := by omega
                have hj1 : (k : Int) + (i : Int) < (s.size : Int) := by omega
                have hjw : IntKind.i64.wrap ((k : Int) + (i : Int)) = (k : Int) + (i : Int) := IntWalk.i64_in _ (by omega)
                have HST : Hid (decB B (((bl s).drop (k + 1)).take i) = 64 * n + ((s[k + i]).toNat : Int) - 128) := Lib.hid (by
                  obtain ⟨j, rfl⟩ : ∃ j, i = j + 1 := ⟨i - 1, by omega⟩
                  rw [HN.out, take_snoc2 (by rw [List.length_drop, HL.out]; omega), decB_snoc, Nat.add_sub_cancel]
                  have : ((bl s).drop (k + 1)).getD j 0 = (s[k + (j + 1)]).toNat := by
                    rw [← bl_get s (k + (j + 1)) hki]
                    simp [List.getD, List.getElem?_drop, Nat.add_assoc, Nat.add_comm 1 j]
                  rw [this])
                go_wp2
                go_roundw
                case rel => exact ⟨i + 1, by omega, by omega, by rw [Nat.add_sub_cancel, HST.out] <;> first | rfl | (congr 1; omega), by go_num, hbx⟩
                case measure => simp [intOf]; omega
              · obtain rfl : i = 4 := by omega
                have HN2 : Hid (n = decB B (((bl s).drop (k + 1)).take (4 - 1))) := HN
                have hslc : ∀ wx : World, (Instr.slice 9 (.string s) (some (.int .i64 (k : Int))) (some (.int .i64 ((k : Int) + 4))) none).run Try.prog wx = .ok (.string (s.extract k (k + 4))) wx := fun wx => by
                  have h := run_slice_string (P := Try.prog) wx 9 s .i64 .i64 (k : Int) ((k : Int) + 4) Try.underlying9 (by omega) (by omega) (by omega)
                  rw [show ((k : Int) + 4).toNat = k + 4 from by omega] at h
                  exact h
                have hR := fun w => cI_RuneText n w (by omega) (by omega)
                have hEq : encR n = ((bl s).drop k).take 4 := by rw [HN2.out]; have h := hgh.2; rw [← HB.out] at h; exact h
                rw [str_eq hEq] at hR
                have hgo := good_on (by omega) hfit hEq
                rw [hgk] at hgo
                have HGO := Lib.hid hgo
                clear hgo hEq hgh hgk2
                go_wp2_with fail
                refine wp_region_held_drew (S := fun w' => True) (by kernel_rfl) (trivial) (fun hHeld => ?_)
                refine wpAnyH_take (i := 0) (oi := { dst := some 67, op := Op.move (Operand.tmp 8), type := 3, pos := _, after := #[], guard := none }) (v := ?_) rfl (by kernel_rfl) (by kernel_rfl) (by kernel_rfl) (fun _ _ _ h => h) (Or.inl ⟨by kernel_rfl, ?_⟩) (by assumption) ?_
                rotate_left
                · intro w hSw; go_simp; first | done | (with_reducible rfl)
                try simp only [Act.put, List.setIfInBounds_toArray, List.set_cons_zero, List.set_cons_succ]
                refine wpAnyH_take (i := 2) (oi := { dst := some 69, op := Op.move (Operand.tmp 3), type := 9, pos := _, after := #[], guard := none }) (v := ?_) rfl (by kernel_rfl) (by kernel_rfl) (by kernel_rfl) (fun _ _ _ h => h) (Or.inl ⟨by kernel_rfl, ?_⟩) (by assumption) ?_
                rotate_left
                · intro w hSw; go_simp; first | done | (with_reducible rfl)
                try simp only [Act.put, List.setIfInBounds_toArray, List.set_cons_zero, List.set_cons_succ]
                refine wpAnyH_take (i := 3) (oi := { dst := some 70, op := Op.move (Operand.tmp 5), type := 3, pos := _, after := #[], guard := none }) (v := ?_) rfl (by kernel_rfl) (by kernel_rfl) (by kernel_rfl) (fun _ _ _ h => h) (Or.inl ⟨by kernel_rfl, ?_⟩) (by assumption) ?_
                rotate_left
                · intro w hSw; go_simp; first | done | (with_reducible rfl)
                try simp only [Act.put, List.setIfInBounds_toArray, List.set_cons_zero, List.set_cons_succ]
                refine wpAnyH_take (i := 4) (oi := { dst := some 71, op := Op.move (Operand.tmp 5), type := 3, pos := _, after := #[], guard := none }) (v := ?_) rfl (by kernel_rfl) (by kernel_rfl) (by kernel_rfl) (fun _ _ _ h => h) (Or.inl ⟨by kernel_rfl, ?_⟩) (by assumption) ?_
                rotate_left
                · intro w hSw; go_simp; first | done | (with_reducible rfl)
                try simp only [Act.put, List.setIfInBounds_toArray, List.set_cons_zero, List.set_cons_succ]
                refine wpAnyH_take (i := 5) (oi := { dst := some 72, op := Op.move (Operand.tmp 7), type := 3, pos := _, after := #[], guard := none }) (v := ?_) rfl (by kernel_rfl) (by kernel_rfl) (by kernel_rfl) (fun _ _ _ h => h) (Or.inl ⟨by kernel_rfl, ?_⟩) (by assumption) ?_
                rotate_left
                · intro w hSw; go_simp; first | done | (with_reducible rfl)
                try simp only [Act.put, List.setIfInBounds_toArray, List.set_cons_zero, List.set_cons_succ]
                refine wpAnyH_take (i := 6) (oi := { dst := some 73, op := Op.binOp BinOp.add 3 (Operand.tmp 71) (Operand.tmp 72) 3, type := 3, pos := _, after := #[{ on := 4, ground := Ground.data }, { on := 5, ground := Ground.data }], guard := none }) (v := ?_) rfl (by kernel_rfl) (by kernel_rfl) (by kernel_rfl) (fun _ _ _ h => h) (Or.inl ⟨by kernel_rfl, ?_⟩) (by assumption) ?_
                rotate_left
                · intro w hSw; go_simp; first | done | (with_reducible rfl)
                try simp only [Act.put, List.setIfInBounds_toArray, List.set_cons_zero, List.set_cons_succ]
                refine wpAnyH_take (i := 7) (oi := { dst := some 74, op := Op.slice 9 (Operand.tmp 69) (some (Operand.tmp 70)) (some (Operand.tmp 73)) none, type := 9, pos := _, after := #[{ on := 2, ground := Ground.data }, { on := 3, ground := Ground.data }, { on := 6, ground := Ground.data }], guard := none }) (v := ?_) rfl (by kernel_rfl) (by kernel_rfl) (by kernel_rfl) (fun _ _ _ h => h) (Or.inl ⟨by kernel_rfl, ?_⟩) (by assumption) ?_
                rotate_left
                · intro w hSw; go_simp; first | done | (with_reducible rfl)
                try simp only [Act.put, List.setIfInBounds_toArray, List.set_cons_zero, List.set_cons_succ]
                refine wpAnyH_ready (rs := [1]) (by kernel_rfl) (by simp) ?_
                refine AllReadyH.cons (o := { dst := some 68, op := Op.call { callee := Callee.value (Operand.func 14), args := #[Operand.tmp 67], argTypes := #[3] }, type := 9, pos := _, after := #[{ on := 0, ground := Ground.data }], guard := none }) rfl (fun K hK => ?_) AllReadyH.nil
                rw [if_pos (by kernel_rfl)]
                go_simp
                go_at_call 14
                refine (hR _).mono ?_
                rintro e w4 ⟨rfl, rfl⟩
                go_wp2_with fail
                refine hK.out _ _ trivial (fun _ => ?_)
                clear hK K
                try simp only [Act.put, List.setIfInBounds_toArray, List.set_cons_zero, List.set_cons_succ]
                refine wpAnyH_take (i := 8) (oi := { dst := some 75, op := Op.binOp BinOp.neq 9 (Operand.tmp 68) (Operand.tmp 74) 9, type := 4, pos := _, after := #[{ on := 1, ground := Ground.data }, { on := 7, ground := Ground.data }], guard := none }) (v := ?_) rfl (by kernel_rfl) (by kernel_rfl) (by kernel_rfl) (fun _ _ _ h => h) (Or.inl ⟨by kernel_rfl, ?_⟩) (by assumption) ?_
                rotate_left
                · intro w hSw; go_simp; first | done | (with_reducible rfl)
                try simp only [Act.put, List.setIfInBounds_toArray, List.set_cons_zero, List.set_cons_succ]
                refine wpAnyH_done (by kernel_rfl) ?_ _
                go_wp2
                go_roundw
                case rel => exact ⟨k + 4, by omega, by first | rfl | (simp; done) | go_num, HGO.out.symm, hbx.drew⟩
                case measure => simp [intOf]; omega
          · have hgk2 : goodU (0, 0, 0) ((s[k]).toNat :: (bl s).drop (k + 1)) = true := by rw [← head_at hlt]; exact hgk
            have hgh := good_head hx hgk2
            rw [e1, e2, ← head_at hlt] at hgh
            have hfit : k + 3 ≤ s.size := by have := hgh.1; rw [List.length_drop, HL.out] at this; omega
            obtain ⟨B, hB⟩ : ∃ B : Int, B = baseB (s[k]).toNat := ⟨_, rfl⟩
            rw [e2] at hB
            have HB := Lib.hid hB
            have Hbd := Lib.hid (decB_bd B (by omega) (by omega))
            clear hB
            have hfi : (k : Int) + 3 ≤ (s.size : Int) := by omega
            have hfn : ¬ (s.size : Int) < (k : Int) + 3 := by omega
            have hfw : IntKind.i64.wrap ((k : Int) + 3) = (k : Int) + 3 := IntWalk.i64_in _ (by omega)
            have hfz : (0 : Int) ≤ (k : Int) + 3 := by omega
            go_wp2_with fail
            go_loopw [8, 9] (fun u c wx => ∃ i : Nat, 1 ≤ i ∧ i ≤ 3 ∧ u = .int .i64 (decB B (((bl s).drop (k + 1)).take (i - 1))) ∧ c = .int .i64 i ∧ Below w.heap.size w wx) (fun _ c _ => 3 - (intOf c).toNat)
            case atStart => exact ⟨1, by omega, by omega, by first | rfl | (show Value.int IntKind.i64 _ = Value.int IntKind.i64 B; first | rfl | rw [HB.out]), rfl, hbel⟩
            case round =>
              obtain ⟨i, hi0, hi, rfl, rfl, hbx⟩ := hrel
              have hbd := Hbd.out (((bl s).drop (k + 1)).take (i - 1)) (fun b hb => bl_lt s b (List.mem_of_mem_drop (List.mem_of_mem_take hb))) (by rw [List.length_take]; omega)
              obtain ⟨n, hn⟩ : ∃ n, n = decB B (((bl s).drop (k + 1)).take (i - 1)) := ⟨_, rfl⟩
              rw [← hn] at hbd ⊢
              have HN := Lib.hid hn
              clear hn
              obtain ⟨hn0, hn1⟩ := hbd
              by_cases hil : i < 3
              · have hki : k + i < s.size := by omega
                have hy : (s[k + i]).toNat < 256 := (s[k + i]).toNat_lt
                have hti : ((k : Int) + (i : Int)).toNat = k + i := by omega
                have hj0 : (0 : Int) ≤ (k : Int) + (i : Int) := by omega
                have hj1 : (k : Int) + (i : Int) < (s.size : Int) := by omega
                have hjw : IntKind.i64.wrap ((k : Int) + (i : Int)) = (k : Int) + (i : Int) := IntWalk.i64_in _ (by omega)
                have HST : Hid (decB B (((bl s).drop (k + 1)).take i) = 64 * n + ((s[k + i]).toNat : Int) - 128) := Lib.hid (by
                  obtain ⟨j, rfl⟩ : ∃ j, i = j + 1 := ⟨i - 1, by omega⟩
                  rw [HN.out, take_snoc2 (by rw [List.length_drop, HL.out]; omega), decB_snoc, Nat.add_sub_cancel]
                  have : ((bl s).drop (k + 1)).getD j 0 = (s[k + (j + 1)]).toNat := by
                    rw [← bl_get s (k + (j + 1)) hki]
                    simp [List.getD, List.getElem?_drop, Nat.add_assoc, Nat.add_comm 1 j]
                  rw [this])
                go_wp2
                go_roundw
                case rel => exact ⟨i + 1, by omega, by omega, by rw [Nat.add_sub_cancel, HST.out] <;> first | rfl | (congr 1; omega), by go_num, hbx⟩
                case measure => simp [intOf]; omega
              · obtain rfl : i = 3 := by omega
                have HN2 : Hid (n = decB B (((bl s).drop (k + 1)).take (3 - 1))) := HN
                have hslc : ∀ wx : World, (Instr.slice 9 (.string s) (some (.int .i64 (k : Int))) (some (.int .i64 ((k : Int) + 3))) none).run Try.prog wx = .ok (.string (s.extract k (k + 3))) wx := fun wx => by
                  have h := run_slice_string (P := Try.prog) wx 9 s .i64 .i64 (k : Int) ((k : Int) + 3) Try.underlying9 (by omega) (by omega) (by omega)
                  rw [show ((k : Int) + 3).toNat = k + 3 from by omega] at h
                  exact h
                have hR := fun w => cI_RuneText n w (by omega) (by omega)
                have hEq : encR n = ((bl s).drop k).take 3 := by rw [HN2.out]; have h := hgh.2; rw [← HB.out] at h; exact h
                rw [str_eq hEq] at hR
                have hgo := good_on (by omega) hfit hEq
                rw [hgk] at hgo
                have HGO := Lib.hid hgo
                clear hgo hEq hgh hgk2
                go_wp2_with fail
                refine wp_region_held_drew (S := fun w' => True) (by kernel_rfl) (trivial) (fun hHeld => ?_)
                refine wpAnyH_take (i := 0) (oi := { dst := some 67, op := Op.move (Operand.tmp 8), type := 3, pos := _, after := #[], guard := none }) (v := ?_) rfl (by kernel_rfl) (by kernel_rfl) (by kernel_rfl) (fun _ _ _ h => h) (Or.inl ⟨by kernel_rfl, ?_⟩) (by assumption) ?_
                rotate_left
                · intro w hSw; go_simp; first | done | (with_reducible rfl)
                try simp only [Act.put, List.setIfInBounds_toArray, List.set_cons_zero, List.set_cons_succ]
                refine wpAnyH_take (i := 2) (oi := { dst := some 69, op := Op.move (Operand.tmp 3), type := 9, pos := _, after := #[], guard := none }) (v := ?_) rfl (by kernel_rfl) (by kernel_rfl) (by kernel_rfl) (fun _ _ _ h => h) (Or.inl ⟨by kernel_rfl, ?_⟩) (by assumption) ?_
                rotate_left
                · intro w hSw; go_simp; first | done | (with_reducible rfl)
                try simp only [Act.put, List.setIfInBounds_toArray, List.set_cons_zero, List.set_cons_succ]
                refine wpAnyH_take (i := 3) (oi := { dst := some 70, op := Op.move (Operand.tmp 5), type := 3, pos := _, after := #[], guard := none }) (v := ?_) rfl (by kernel_rfl) (by kernel_rfl) (by kernel_rfl) (fun _ _ _ h => h) (Or.inl ⟨by kernel_rfl, ?_⟩) (by assumption) ?_
                rotate_left
                · intro w hSw; go_simp; first | done | (with_reducible rfl)
                try simp only [Act.put, List.setIfInBounds_toArray, List.set_cons_zero, List.set_cons_succ]
                refine wpAnyH_take (i := 4) (oi := { dst := some 71, op := Op.move (Operand.tmp 5), type := 3, pos := _, after := #[], guard := none }) (v := ?_) rfl (by kernel_rfl) (by kernel_rfl) (by kernel_rfl) (fun _ _ _ h => h) (Or.inl ⟨by kernel_rfl, ?_⟩) (by assumption) ?_
                rotate_left
                · intro w hSw; go_simp; first | done | (with_reducible rfl)
                try simp only [Act.put, List.setIfInBounds_toArray, List.set_cons_zero, List.set_cons_succ]
                refine wpAnyH_take (i := 5) (oi := { dst := some 72, op := Op.move (Operand.tmp 7), type := 3, pos := _, after := #[], guard := none }) (v := ?_) rfl (by kernel_rfl) (by kernel_rfl) (by kernel_rfl) (fun _ _ _ h => h) (Or.inl ⟨by kernel_rfl, ?_⟩) (by assumption) ?_
                rotate_left
                · intro w hSw; go_simp; first | done | (with_reducible rfl)
                try simp only [Act.put, List.setIfInBounds_toArray, List.set_cons_zero, List.set_cons_succ]
                refine wpAnyH_take (i := 6) (oi := { dst := some 73, op := Op.binOp BinOp.add 3 (Operand.tmp 71) (Operand.tmp 72) 3, type := 3, pos := _, after := #[{ on := 4, ground := Ground.data }, { on := 5, ground := Ground.data }], guard := none }) (v := ?_) rfl (by kernel_rfl) (by kernel_rfl) (by kernel_rfl) (fun _ _ _ h => h) (Or.inl ⟨by kernel_rfl, ?_⟩) (by assumption) ?_
                rotate_left
                · intro w hSw; go_simp; first | done | (with_reducible rfl)
                try simp only [Act.put, List.setIfInBounds_toArray, List.set_cons_zero, List.set_cons_succ]
                refine wpAnyH_take (i := 7) (oi := { dst := some 74, op := Op.slice 9 (Operand.tmp 69) (some (Operand.tmp 70)) (some (Operand.tmp 73)) none, type := 9, pos := _, after := #[{ on := 2, ground := Ground.data }, { on := 3, ground := Ground.data }, { on := 6, ground := Ground.data }], guard := none }) (v := ?_) rfl (by kernel_rfl) (by kernel_rfl) (by kernel_rfl) (fun _ _ _ h => h) (Or.inl ⟨by kernel_rfl, ?_⟩) (by assumption) ?_
                rotate_left
                · intro w hSw; go_simp; first | done | (with_reducible rfl)
                try simp only [Act.put, List.setIfInBounds_toArray, List.set_cons_zero, List.set_cons_succ]
                refine wpAnyH_ready (rs := [1]) (by kernel_rfl) (by simp) ?_
                refine AllReadyH.cons (o := { dst := some 68, op := Op.call { callee := Callee.value (Operand.func 14), args := #[Operand.tmp 67], argTypes := #[3] }, type := 9, pos := _, after := #[{ on := 0, ground := Ground.data }], guard := none }) rfl (fun K hK => ?_) AllReadyH.nil
                rw [if_pos (by kernel_rfl)]
                go_simp
                go_at_call 14
                refine (hR _).mono ?_
                rintro e w4 ⟨rfl, rfl⟩
                go_wp2_with fail
                refine hK.out _ _ trivial (fun _ => ?_)
                clear hK K
                try simp only [Act.put, List.setIfInBounds_toArray, List.set_cons_zero, List.set_cons_succ]
                refine wpAnyH_take (i := 8) (oi := { dst := some 75, op := Op.binOp BinOp.neq 9 (Operand.tmp 68) (Operand.tmp 74) 9, type := 4, pos := _, after := #[{ on := 1, ground := Ground.data }, { on := 7, ground := Ground.data }], guard := none }) (v := ?_) rfl (by kernel_rfl) (by kernel_rfl) (by kernel_rfl) (fun _ _ _ h => h) (Or.inl ⟨by kernel_rfl, ?_⟩) (by assumption) ?_
                rotate_left
                · intro w hSw; go_simp; first | done | (with_reducible rfl)
                try simp only [Act.put, List.setIfInBounds_toArray, List.set_cons_zero, List.set_cons_succ]
                refine wpAnyH_done (by kernel_rfl) ?_ _
                go_wp2
                go_roundw
                case rel => exact ⟨k + 3, by omega, by first | rfl | (simp; done) | go_num, HGO.out.symm, hbx.drew⟩
                case measure => simp [intOf]; omega
          · have hgk2 : goodU (0, 0, 0) ((s[k]).toNat :: (bl s).drop (k + 1)) = true := by rw [← head_at hlt]; exact hgk
            have hgh := good_head hx hgk2
            rw [e1, e2, ← head_at hlt] at hgh
            have hfit : k + 2 ≤ s.size := by have := hgh.1; rw [List.length_drop, HL.out] at this; omega
            obtain ⟨B, hB⟩ : ∃ B : Int, B = baseB (s[k]).toNat := ⟨_, rfl⟩
            rw [e2] at hB
            have HB := Lib.hid hB
            have Hbd := Lib.hid (decB_bd B (by omega) (by omega))
            clear hB
            have hfi : (k : Int) + 2 ≤ (s.size : Int) := by omega
            have hfn : ¬ (s.size : Int) < (k : Int) + 2 := by omega
            have hfw : IntKind.i64.wrap ((k : Int) + 2) = (k : Int) + 2 := IntWalk.i64_in _ (by omega)
            have hfz : (0 : Int) ≤ (k : Int) + 2 := by omega
            go_wp2_with fail
            go_loopw [8, 9] (fun u c wx => ∃ i : Nat, 1 ≤ i ∧ i ≤ 2 ∧ u = .int .i64 (decB B (((bl s).drop (k + 1)).take (i - 1))) ∧ c = .int .i64 i ∧ Below w.heap.size w wx) (fun _ c _ => 2 - (intOf c).toNat)
            case atStart => exact ⟨1, by omega, by omega, by first | rfl | (show Value.int IntKind.i64 _ = Value.int IntKind.i64 B; first | rfl | rw [HB.out]), rfl, hbel⟩
            case round =>
              obtain ⟨i, hi0, hi, rfl, rfl, hbx⟩ := hrel
              have hbd := Hbd.out (((bl s).drop (k + 1)).take (i - 1)) (fun b hb => bl_lt s b (List.mem_of_mem_drop (List.mem_of_mem_take hb))) (by rw [List.length_take]; omega)
              obtain ⟨n, hn⟩ : ∃ n, n = decB B (((bl s).drop (k + 1)).take (i - 1)) := ⟨_, rfl⟩
              rw [← hn] at hbd ⊢
              have HN := Lib.hid hn
              clear hn
              obtain ⟨hn0, hn1⟩ := hbd
              by_cases hil : i < 2
              · have hki : k + i < s.size := by omega
                have hy : (s[k + i]).toNat < 256 := (s[k + i]).toNat_lt
                have hti : ((k : Int) + (i : Int)).toNat = k + i := by omega
                have hj0 : (0 : Int) ≤ (k : Int) + (i : Int) := by omega
                have hj1 : (k : Int) + (i : Int) < (s.size : Int) := by omega
                have hjw : IntKind.i64.wrap ((k : Int) + (i : Int)) = (k : Int) + (i : Int) := IntWalk.i64_in _ (by omega)
                have HST : Hid (decB B (((bl s).drop (k + 1)).take i) = 64 * n + ((s[k + i]).toNat : Int) - 128) := Lib.hid (by
                  obtain ⟨j, rfl⟩ : ∃ j, i = j + 1 := ⟨i - 1, by omega⟩
                  rw [HN.out, take_snoc2 (by rw [List.length_drop, HL.out]; omega), decB_snoc, Nat.add_sub_cancel]
                  have : ((bl s).drop (k + 1)).getD j 0 = (s[k + (j + 1)]).toNat := by
                    rw [← bl_get s (k + (j + 1)) hki]
                    simp [List.getD, List.getElem?_drop, Nat.add_assoc, Nat.add_comm 1 j]
                  rw [this])
                go_wp2
                go_roundw
                case rel => exact ⟨i + 1, by omega, by omega, by rw [Nat.add_sub_cancel, HST.out] <;> first | rfl | (congr 1; omega), by go_num, hbx⟩
                case measure => simp [intOf]; omega
              · obtain rfl : i = 2 := by omega
                have HN2 : Hid (n = decB B (((bl s).drop (k + 1)).take (2 - 1))) := HN
                have hslc : ∀ wx : World, (Instr.slice 9 (.string s) (some (.int .i64 (k : Int))) (some (.int .i64 ((k : Int) + 2))) none).run Try.prog wx = .ok (.string (s.extract k (k + 2))) wx := fun wx => by
                  have h := run_slice_string (P := Try.prog) wx 9 s .i64 .i64 (k : Int) ((k : Int) + 2) Try.underlying9 (by omega) (by omega) (by omega)
                  rw [show ((k : Int) + 2).toNat = k + 2 from by omega] at h
                  exact h
                have hR := fun w => cI_RuneText n w (by omega) (by omega)
                have hEq : encR n = ((bl s).drop k).take 2 := by rw [HN2.out]; have h := hgh.2; rw [← HB.out] at h; exact h
                rw [str_eq hEq] at hR
                have hgo := good_on (by omega) hfit hEq
                rw [hgk] at hgo
                have HGO := Lib.hid hgo
                clear hgo hEq hgh hgk2
                go_wp2_with fail
                refine wp_region_held_drew (S := fun w' => True) (by kernel_rfl) (trivial) (fun hHeld => ?_)
                refine wpAnyH_take (i := 0) (oi := { dst := some 67, op := Op.move (Operand.tmp 8), type := 3, pos := _, after := #[], guard := none }) (v := ?_) rfl (by kernel_rfl) (by kernel_rfl) (by kernel_rfl) (fun _ _ _ h => h) (Or.inl ⟨by kernel_rfl, ?_⟩) (by assumption) ?_
                rotate_left
                · intro w hSw; go_simp; first | done | (with_reducible rfl)
                try simp only [Act.put, List.setIfInBounds_toArray, List.set_cons_zero, List.set_cons_succ]
                refine wpAnyH_take (i := 2) (oi := { dst := some 69, op := Op.move (Operand.tmp 3), type := 9, pos := _, after := #[], guard := none }) (v := ?_) rfl (by kernel_rfl) (by kernel_rfl) (by kernel_rfl) (fun _ _ _ h => h) (Or.inl ⟨by kernel_rfl, ?_⟩) (by assumption) ?_
                rotate_left
                · intro w hSw; go_simp; first | done | (with_reducible rfl)
                try simp only [Act.put, List.setIfInBounds_toArray, List.set_cons_zero, List.set_cons_succ]
                refine wpAnyH_take (i := 3) (oi := { dst := some 70, op := Op.move (Operand.tmp 5), type := 3, pos := _, after := #[], guard := none }) (v := ?_) rfl (by kernel_rfl) (by kernel_rfl) (by kernel_rfl) (fun _ _ _ h => h) (Or.inl ⟨by kernel_rfl, ?_⟩) (by assumption) ?_
                rotate_left
                · intro w hSw; go_simp; first | done | (with_reducible rfl)
                try simp only [Act.put, List.setIfInBounds_toArray, List.set_cons_zero, List.set_cons_succ]
                refine wpAnyH_take (i := 4) (oi := { dst := some 71, op := Op.move (Operand.tmp 5), type := 3, pos := _, after := #[], guard := none }) (v := ?_) rfl (by kernel_rfl) (by kernel_rfl) (by kernel_rfl) (fun _ _ _ h => h) (Or.inl ⟨by kernel_rfl, ?_⟩) (by assumption) ?_
                rotate_left
                · intro w hSw; go_simp; first | done | (with_reducible rfl)
                try simp only [Act.put, List.setIfInBounds_toArray, List.set_cons_zero, List.set_cons_succ]
                refine wpAnyH_take (i := 5) (oi := { dst := some 72, op := Op.move (Operand.tmp 7), type := 3, pos := _, after := #[], guard := none }) (v := ?_) rfl (by kernel_rfl) (by kernel_rfl) (by kernel_rfl) (fun _ _ _ h => h) (Or.inl ⟨by kernel_rfl, ?_⟩) (by assumption) ?_
                rotate_left
                · intro w hSw; go_simp; first | done | (with_reducible rfl)
                try simp only [Act.put, List.setIfInBounds_toArray, List.set_cons_zero, List.set_cons_succ]
                refine wpAnyH_take (i := 6) (oi := { dst := some 73, op := Op.binOp BinOp.add 3 (Operand.tmp 71) (Operand.tmp 72) 3, type := 3, pos := _, after := #[{ on := 4, ground := Ground.data }, { on := 5, ground := Ground.data }], guard := none }) (v := ?_) rfl (by kernel_rfl) (by kernel_rfl) (by kernel_rfl) (fun _ _ _ h => h) (Or.inl ⟨by kernel_rfl, ?_⟩) (by assumption) ?_
                rotate_left
                · intro w hSw; go_simp; first | done | (with_reducible rfl)
                try simp only [Act.put, List.setIfInBounds_toArray, List.set_cons_zero, List.set_cons_succ]
                refine wpAnyH_take (i := 7) (oi := { dst := some 74, op := Op.slice 9 (Operand.tmp 69) (some (Operand.tmp 70)) (some (Operand.tmp 73)) none, type := 9, pos := _, after := #[{ on := 2, ground := Ground.data }, { on := 3, ground := Ground.data }, { on := 6, ground := Ground.data }], guard := none }) (v := ?_) rfl (by kernel_rfl) (by kernel_rfl) (by kernel_rfl) (fun _ _ _ h => h) (Or.inl ⟨by kernel_rfl, ?_⟩) (by assumption) ?_
                rotate_left
                · intro w hSw; go_simp; first | done | (with_reducible rfl)
                try simp only [Act.put, List.setIfInBounds_toArray, List.set_cons_zero, List.set_cons_succ]
                refine wpAnyH_ready (rs := [1]) (by kernel_rfl) (by simp) ?_
                refine AllReadyH.cons (o := { dst := some 68, op := Op.call { callee := Callee.value (Operand.func 14), args := #[Operand.tmp 67], argTypes := #[3] }, type := 9, pos := _, after := #[{ on := 0, ground := Ground.data }], guard := none }) rfl (fun K hK => ?_) AllReadyH.nil
                rw [if_pos (by kernel_rfl)]
                go_simp
                go_at_call 14
                refine (hR _).mono ?_
                rintro e w4 ⟨rfl, rfl⟩
                go_wp2_with fail
                refine hK.out _ _ trivial (fun _ => ?_)
                clear hK K
                try simp only [Act.put, List.setIfInBounds_toArray, List.set_cons_zero, List.set_cons_succ]
                refine wpAnyH_take (i := 8) (oi := { dst := some 75, op := Op.binOp BinOp.neq 9 (Operand.tmp 68) (Operand.tmp 74) 9, type := 4, pos := _, after := #[{ on := 1, ground := Ground.data }, { on := 7, ground := Ground.data }], guard := none }) (v := ?_) rfl (by kernel_rfl) (by kernel_rfl) (by kernel_rfl) (fun _ _ _ h => h) (Or.inl ⟨by kernel_rfl, ?_⟩) (by assumption) ?_
                rotate_left
                · intro w hSw; go_simp; first | done | (with_reducible rfl)
                try simp only [Act.put, List.setIfInBounds_toArray, List.set_cons_zero, List.set_cons_succ]
                refine wpAnyH_done (by kernel_rfl) ?_ _
                go_wp2
                go_roundw
                case rel => exact ⟨k + 2, by omega, by first | rfl | (simp; done) | go_num, HGO.out.symm, hbx.drew⟩
                case measure => simp [intOf]; omega
          · have hgk2 : goodU (0, 0, 0) ((s[k]).toNat :: (bl s).drop (k + 1)) = true := by rw [← head_at hlt]; exact hgk
            have hgh := good_head hx hgk2
            rw [e1, e2, ← head_at hlt] at hgh
            have hfit : k + 1 ≤ s.size := by have := hgh.1; rw [List.length_drop, HL.out] at this; omega
            obtain ⟨B, hB⟩ : ∃ B : Int, B = baseB (s[k]).toNat := ⟨_, rfl⟩
            rw [e2] at hB
            have HB := Lib.hid hB
            have Hbd := Lib.hid (decB_bd B (by omega) (by omega))
            clear hB
            have hfi : (k : Int) + 1 ≤ (s.size : Int) := by omega
            have hfn : ¬ (s.size : Int) < (k : Int) + 1 := by omega
            have hfw : IntKind.i64.wrap ((k : Int) + 1) = (k : Int) + 1 := IntWalk.i64_in _ (by omega)
            have hfz : (0 : Int) ≤ (k : Int) + 1 := by omega
            go_wp2_with fail
            go_loopw [8, 9] (fun u c wx => ∃ i : Nat, 1 ≤ i ∧ i ≤ 1 ∧ u = .int .i64 (decB B (((bl s).drop (k + 1)).take (i - 1))) ∧ c = .int .i64 i ∧ Below w.heap.size w wx) (fun _ c _ => 1 - (intOf c).toNat)
            case atStart => exact ⟨1, by omega, by omega, by first | rfl | (show Value.int IntKind.i64 _ = Value.int IntKind.i64 B; first | rfl | rw [HB.out]), rfl, hbel⟩
            case round =>
              obtain ⟨i, hi0, hi, rfl, rfl, hbx⟩ := hrel
              have hbd := Hbd.out (((bl s).drop (k + 1)).take (i - 1)) (fun b hb => bl_lt s b (List.mem_of_mem_drop (List.mem_of_mem_take hb))) (by rw [List.length_take]; omega)
              obtain ⟨n, hn⟩ : ∃ n, n = decB B (((bl s).drop (k + 1)).take (i - 1)) := ⟨_, rfl⟩
              rw [← hn] at hbd ⊢
              have HN := Lib.hid hn
              clear hn
              obtain ⟨hn0, hn1⟩ := hbd
              by_cases hil : i < 1
              · exact absurd hil (by omega)
              · obtain rfl : i = 1 := by omega
                have HN2 : Hid (n = decB B (((bl s).drop (k + 1)).take (1 - 1))) := HN
                have hslc : ∀ wx : World, (Instr.slice 9 (.string s) (some (.int .i64 (k : Int))) (some (.int .i64 ((k : Int) + 1))) none).run Try.prog wx = .ok (.string (s.extract k (k + 1))) wx := fun wx => by
                  have h := run_slice_string (P := Try.prog) wx 9 s .i64 .i64 (k : Int) ((k : Int) + 1) Try.underlying9 (by omega) (by omega) (by omega)
                  rw [show ((k : Int) + 1).toNat = k + 1 from by omega] at h
                  exact h
                have hR := fun w => cI_RuneText n w (by omega) (by omega)
                have hEq : encR n = ((bl s).drop k).take 1 := by rw [HN2.out]; have h := hgh.2; rw [← HB.out] at h; exact h
                rw [str_eq hEq] at hR
                have hgo := good_on (by omega) hfit hEq
                rw [hgk] at hgo
                have HGO := Lib.hid hgo
                clear hgo hEq hgh hgk2
                go_wp2_with fail
                refine wp_region_held_drew (S := fun w' => True) (by kernel_rfl) (trivial) (fun hHeld => ?_)
                refine wpAnyH_take (i := 0) (oi := { dst := some 67, op := Op.move (Operand.tmp 8), type := 3, pos := _, after := #[], guard := none }) (v := ?_) rfl (by kernel_rfl) (by kernel_rfl) (by kernel_rfl) (fun _ _ _ h => h) (Or.inl ⟨by kernel_rfl, ?_⟩) (by assumption) ?_
                rotate_left
                · intro w hSw; go_simp; first | done | (with_reducible rfl)
                try simp only [Act.put, List.setIfInBounds_toArray, List.set_cons_zero, List.set_cons_succ]
                refine wpAnyH_take (i := 2) (oi := { dst := some 69, op := Op.move (Operand.tmp 3), type := 9, pos := _, after := #[], guard := none }) (v := ?_) rfl (by kernel_rfl) (by kernel_rfl) (by kernel_rfl) (fun _ _ _ h => h) (Or.inl ⟨by kernel_rfl, ?_⟩) (by assumption) ?_
                rotate_left
                · intro w hSw; go_simp; first | done | (with_reducible rfl)
                try simp only [Act.put, List.setIfInBounds_toArray, List.set_cons_zero, List.set_cons_succ]
                refine wpAnyH_take (i := 3) (oi := { dst := some 70, op := Op.move (Operand.tmp 5), type := 3, pos := _, after := #[], guard := none }) (v := ?_) rfl (by kernel_rfl) (by kernel_rfl) (by kernel_rfl) (fun _ _ _ h => h) (Or.inl ⟨by kernel_rfl, ?_⟩) (by assumption) ?_
                rotate_left
                · intro w hSw; go_simp; first | done | (with_reducible rfl)
                try simp only [Act.put, List.setIfInBounds_toArray, List.set_cons_zero, List.set_cons_succ]
                refine wpAnyH_take (i := 4) (oi := { dst := some 71, op := Op.move (Operand.tmp 5), type := 3, pos := _, after := #[], guard := none }) (v := ?_) rfl (by kernel_rfl) (by kernel_rfl) (by kernel_rfl) (fun _ _ _ h => h) (Or.inl ⟨by kernel_rfl, ?_⟩) (by assumption) ?_
                rotate_left
                · intro w hSw; go_simp; first | done | (with_reducible rfl)
                try simp only [Act.put, List.setIfInBounds_toArray, List.set_cons_zero, List.set_cons_succ]
                refine wpAnyH_take (i := 5) (oi := { dst := some 72, op := Op.move (Operand.tmp 7), type := 3, pos := _, after := #[], guard := none }) (v := ?_) rfl (by kernel_rfl) (by kernel_rfl) (by kernel_rfl) (fun _ _ _ h => h) (Or.inl ⟨by kernel_rfl, ?_⟩) (by assumption) ?_
                rotate_left
                · intro w hSw; go_simp; first | done | (with_reducible rfl)
                try simp only [Act.put, List.setIfInBounds_toArray, List.set_cons_zero, List.set_cons_succ]
                refine wpAnyH_take (i := 6) (oi := { dst := some 73, op := Op.binOp BinOp.add 3 (Operand.tmp 71) (Operand.tmp 72) 3, type := 3, pos := _, after := #[{ on := 4, ground := Ground.data }, { on := 5, ground := Ground.data }], guard := none }) (v := ?_) rfl (by kernel_rfl) (by kernel_rfl) (by kernel_rfl) (fun _ _ _ h => h) (Or.inl ⟨by kernel_rfl, ?_⟩) (by assumption) ?_
                rotate_left
                · intro w hSw; go_simp; first | done | (with_reducible rfl)
                try simp only [Act.put, List.setIfInBounds_toArray, List.set_cons_zero, List.set_cons_succ]
                refine wpAnyH_take (i := 7) (oi := { dst := some 74, op := Op.slice 9 (Operand.tmp 69) (some (Operand.tmp 70)) (some (Operand.tmp 73)) none, type := 9, pos := _, after := #[{ on := 2, ground := Ground.data }, { on := 3, ground := Ground.data }, { on := 6, ground := Ground.data }], guard := none }) (v := ?_) rfl (by kernel_rfl) (by kernel_rfl) (by kernel_rfl) (fun _ _ _ h => h) (Or.inl ⟨by kernel_rfl, ?_⟩) (by assumption) ?_
                rotate_left
                · intro w hSw; go_simp; first | done | (with_reducible rfl)
                try simp only [Act.put, List.setIfInBounds_toArray, List.set_cons_zero, List.set_cons_succ]
                refine wpAnyH_ready (rs := [1]) (by kernel_rfl) (by simp) ?_
                refine AllReadyH.cons (o := { dst := some 68, op := Op.call { callee := Callee.value (Operand.func 14), args := #[Operand.tmp 67], argTypes := #[3] }, type := 9, pos := _, after := #[{ on := 0, ground := Ground.data }], guard := none }) rfl (fun K hK => ?_) AllReadyH.nil
                rw [if_pos (by kernel_rfl)]
                go_simp
                go_at_call 14
                refine (hR _).mono ?_
                rintro e w4 ⟨rfl, rfl⟩
                go_wp2_with fail
                refine hK.out _ _ trivial (fun _ => ?_)
                clear hK K
                try simp only [Act.put, List.setIfInBounds_toArray, List.set_cons_zero, List.set_cons_succ]
                refine wpAnyH_take (i := 8) (oi := { dst := some 75, op := Op.binOp BinOp.neq 9 (Operand.tmp 68) (Operand.tmp 74) 9, type := 4, pos := _, after := #[{ on := 1, ground := Ground.data }, { on := 7, ground := Ground.data }], guard := none }) (v := ?_) rfl (by kernel_rfl) (by kernel_rfl) (by kernel_rfl) (fun _ _ _ h => h) (Or.inl ⟨by kernel_rfl, ?_⟩) (by assumption) ?_
                rotate_left
                · intro w hSw; go_simp; first | done | (with_reducible rfl)
                try simp only [Act.put, List.setIfInBounds_toArray, List.set_cons_zero, List.set_cons_succ]
                refine wpAnyH_done (by kernel_rfl) ?_ _
                go_wp2
                go_roundw
                case rel => exact ⟨k + 1, by omega, by first | rfl | (simp; done) | go_num, HGO.out.symm, hbx.drew⟩
                case measure => simp [intOf]; omega
        · obtain rfl : k = s.size := by omega
          clear hgk
          go_wp2
          go_ret
          exact ⟨rfl, hbel⟩
  · go_enter Try.func11, Try.ntmps11
    go_wp2_with (go_at_call 21; refine (c_big _ _ _ _).mono ?_; rintro e w' ⟨rfl, rfl⟩; rw [hbig])
    go_ret
    exact ⟨rfl, Below.refl _ _⟩
end Go.Proofs.Ytmhlljonlbiajaa
