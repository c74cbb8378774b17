/- The walk of FnUtfRight. Conditions: the code's bytes can be read. -/
import Derived.Test.YtmhlljonlbiajaaLawU3
import Derived.Deep.RegionHeld3
namespace Go.Proofs.Ytmhlljonlbiajaa
open Go.RowKit Plain
set_option linter.unusedVariables false
set_option linter.unusedSimpArgs false
theorem ok_le {u : (Int × Int × Int)} (h : okSt u = true) : u.1 ≤ 3 := by
  rcases ok_cases h with rfl | rfl | rfl | rfl | rfl | rfl | rfl | rfl <;> decide
set_option maxHeartbeats 2000000 in
theorem walkFnUtfRight (a : Option Addr) (len cap : Nat) (z : List Int) (w : World) (hr : IsRow .u8 w a len cap z) : Calls Try.prog 10 #[.slice a len cap] w fun e w' => e = .returned (.bool true) ∧ Below w.heap.size w w' := by
  have hcode := Lib.hid (code_of_row hr)
  clear hr
  rcases hbig : decide (1048576 < len) with _ | _
  · have hl : len ≤ 1048576 := by simp at hbig; omega
    go_enter Try.func10, Try.ntmps10
    go_wp2_with (go_at_call 21; refine (c_big _ _ _ _).mono ?_; rintro e w' ⟨rfl, rfl⟩; rw [hbig])
    refine (d_DrawUtfByte _ hl hcode.out).mono ?_
    rintro e w1 ⟨W, L, H, b, rfl, hb1⟩
    have X1 := Box.new w1 27 #[.int .i64 W, .int .i64 L, .int .i64 H]
    have hI := fun w => cI_UtfByte W L H b w
    have hP := fun w => cP_UtfByte W L H b w
    have hOI := fun w => cI_UtfOk W L H w
    have hOP := fun w => cP_UtfOk W L H w
    generalize hob : okSt (W, L, H) = ob at hOI hOP
    clear hob
    rcases hst : stepU (W, L, H) b with _ | ⟨vW, vL, vH⟩
    · rw [hst] at hI hP
      unfold outU stV at hI hP
      clear hst
      go_wp2_with fail
      refine (hI _).mono ?_
      rintro e w2 ⟨rfl, hb2⟩
      have X2 := X1.all hb2
      have B2 := (hb1.alloc hb1.size (.cells #[.int .i64 W, .int .i64 L, .int .i64 H] 27)).trans (hb2.mono (by have := hb1.size; simp; omega))
      have Y2 := Box.new w2 27 #[.int .i64 W, .int .i64 L, .int .i64 H]
      have xl2 := X2.lt
      have x0 := X2.cell 0 rfl; have x1 := X2.cell 1 rfl; have x2 := X2.cell 2 rfl
      have X2' := X2.alloc (.cells #[.int .i64 W, .int .i64 L, .int .i64 H] 27)
      go_wp2_with fail
      refine (hP _).mono ?_
      rintro e w3 ⟨rfl, hb3⟩
      have X3 := X2'.all hb3
      have Y3 := Y2.all hb3
      have B3 := (B2.alloc B2.size (.cells #[.int .i64 W, .int .i64 L, .int .i64 H] 27)).trans (hb3.mono (by have := B2.size; simp; omega))
      have X3' := X3.alloc (.cells #[.int .i64 W, .int .i64 L, .int .i64 H] 27)
      have Y3' := Y3.alloc (.cells #[.int .i64 W, .int .i64 L, .int .i64 H] 27)
      have B3' := B3.alloc B3.size (.cells #[.int .i64 W, .int .i64 L, .int .i64 H] 27)
      have xl3 := X3.lt
      have yl3 := Y3.lt
      have u0 := X3.cell 0 rfl; have u1 := X3.cell 1 rfl; have u2 := X3.cell 2 rfl
      have y0 := Y3.cell 0 rfl; have y1 := Y3.cell 1 rfl; have y2 := Y3.cell 2 rfl
      go_wp2_with fail
      refine wp_region_held_drew (S := fun w' => w'.cell? ⟨w1.heap.size, 0, none⟩ = some (.int .i64 W) ∧ w'.cell? ⟨w1.heap.size, 1, none⟩ = some (.int .i64 L) ∧ w'.cell? ⟨w1.heap.size, 2, none⟩ = some (.int .i64 H) ∧ Below w3.heap.size w3 w') (by kernel_rfl) (⟨X3'.drew.cell 0 rfl, X3'.drew.cell 1 rfl, X3'.drew.cell 2 rfl, ((Below.refl _ _).alloc (Nat.le_refl _) _).drew⟩) (fun hHeld => ?_)
      refine wpAnyH_take (i := 0) (oi := { dst := some 28, op := Op.move (Operand.tmp 6), type := 4, pos := _, after := #[], guard := none }) (v := ?_) rfl (by kernel_rfl) (by kernel_rfl) (by kernel_rfl) (fun _ _ _ h => h) (Or.inl ⟨by kernel_rfl, ?_⟩) (by assumption) ?_
      rotate_left
      · intro w hSw; obtain ⟨z0, z1, z2, _⟩ := hSw; go_simp; first | done | (with_reducible rfl)
      try simp only [Act.put, List.setIfInBounds_toArray, List.set_cons_zero, List.set_cons_succ]
      refine wpAnyH_take (i := 1) (oi := { dst := some 29, op := Op.move (Operand.tmp 8), type := 4, pos := _, after := #[], guard := none }) (v := ?_) rfl (by kernel_rfl) (by kernel_rfl) (by kernel_rfl) (fun _ _ _ h => h) (Or.inl ⟨by kernel_rfl, ?_⟩) (by assumption) ?_
      rotate_left
      · intro w hSw; obtain ⟨z0, z1, z2, _⟩ := hSw; go_simp; first | done | (with_reducible rfl)
      try simp only [Act.put, List.setIfInBounds_toArray, List.set_cons_zero, List.set_cons_succ]
      refine wpAnyH_take (i := 2) (oi := { dst := some 30, op := Op.binOp BinOp.neq 4 (Operand.tmp 28) (Operand.tmp 29) 4, type := 4, pos := _, after := #[{ on := 0, ground := Ground.data }, { on := 1, ground := Ground.data }], guard := none }) (v := ?_) rfl (by kernel_rfl) (by kernel_rfl) (by kernel_rfl) (fun _ _ _ h => h) (Or.inl ⟨by kernel_rfl, ?_⟩) (by assumption) ?_
      rotate_left
      · intro w hSw; obtain ⟨z0, z1, z2, _⟩ := hSw; go_simp; first | done | (with_reducible rfl)
      try simp only [Act.put, List.setIfInBounds_toArray, List.set_cons_zero, List.set_cons_succ]
      refine wpAnyH_take (i := 3) (oi := { dst := some 31, op := Op.move (Operand.tmp 30), type := 4, pos := _, after := #[{ on := 2, ground := Ground.data }], guard := none }) (v := ?_) rfl (by kernel_rfl) (by kernel_rfl) (by kernel_rfl) (fun _ _ _ h => h) (Or.inl ⟨by kernel_rfl, ?_⟩) (by assumption) ?_
      rotate_left
      · intro w hSw; obtain ⟨z0, z1, z2, _⟩ := hSw; go_simp; first | done | (with_reducible rfl)
      try simp only [Act.put, List.setIfInBounds_toArray, List.set_cons_zero, List.set_cons_succ]
      refine wpAnyH_take (i := 4) (oi := { dst := some 32, op := Op.load 27 (Operand.tmp 3), type := 27, pos := _, after := #[{ on := 3, ground := Ground.guard }], guard := some (3, false) }) (v := ?_) rfl (by kernel_rfl) (by kernel_rfl) (by kernel_rfl) (fun _ _ _ h => h) (Or.inl ⟨by kernel_rfl, ?_⟩) (by assumption) ?_
      rotate_left
      · intro w hSw; obtain ⟨z0, z1, z2, _⟩ := hSw; go_simp; first | done | (with_reducible rfl)
      try simp only [Act.put, List.setIfInBounds_toArray, List.set_cons_zero, List.set_cons_succ]
      refine wpAnyH_take (i := 6) (oi := { dst := some 34, op := Op.load 27 (Operand.tmp 3), type := 27, pos := _, after := #[{ on := 3, ground := Ground.guard }], guard := some (3, false) }) (v := ?_) rfl (by kernel_rfl) (by kernel_rfl) (by kernel_rfl) (fun _ _ _ h => h) (Or.inl ⟨by kernel_rfl, ?_⟩) (by assumption) ?_
      rotate_left
      · intro w hSw; obtain ⟨z0, z1, z2, _⟩ := hSw; go_simp; first | done | (with_reducible rfl)
      try simp only [Act.put, List.setIfInBounds_toArray, List.set_cons_zero, List.set_cons_succ]
      refine wpAnyH_ready (rs := [5]) (by kernel_rfl) (by simp) ?_
      refine AllReadyH.cons (o := { dst := some 33, op := Op.call { callee := Callee.value (Operand.func 17), args := #[Operand.tmp 32], argTypes := #[27] }, type := 4, pos := _, after := #[{ on := 4, ground := Ground.data }, { on := 3, ground := Ground.chain }, { on := 3, ground := Ground.guard }], guard := some (3, false) }) rfl (fun K hK => ?_) AllReadyH.nil
      rw [if_pos (by kernel_rfl)]
      go_simp
      go_at_call 17
      refine (hOI _).mono ?_
      rintro e w4 ⟨rfl, hb4⟩
      have X4 := X3'.drew.all hb4
      have Y4 := Y3'.drew.all hb4
      have B4 := B3'.drew.trans (hb4.mono B3'.size)
      go_wp2_with fail
      refine hK.out _ _ ⟨X4.cell 0 rfl, X4.cell 1 rfl, X4.cell 2 rfl, hHeld.2.2.2.trans (hb4.mono hHeld.2.2.2.size)⟩ (fun hHeld2 => ?_)
      clear hK K
      try simp only [Act.put, List.setIfInBounds_toArray, List.set_cons_zero, List.set_cons_succ]
      refine wpAnyH_ready (rs := [7]) (by kernel_rfl) (by simp) ?_
      refine AllReadyH.cons (o := { dst := some 35, op := Op.call { callee := Callee.value (Operand.func 15), args := #[Operand.tmp 34], argTypes := #[27] }, type := 4, pos := _, after := #[{ on := 6, ground := Ground.data }, { on := 5, ground := Ground.chain }, { on := 3, ground := Ground.guard }], guard := some (3, false) }) rfl (fun K hK => ?_) AllReadyH.nil
      rw [if_pos (by kernel_rfl)]
      go_simp
      go_at_call 15
      refine (hOP _).mono ?_
      rintro e w5 ⟨rfl, hb5⟩
      have X5 := X4.all hb5
      have Y5 := Y4.all hb5
      have B5 := B4.trans (hb5.mono B4.size)
      go_wp2_with fail
      refine hK.out _ _ ⟨X5.cell 0 rfl, X5.cell 1 rfl, X5.cell 2 rfl, hHeld2.2.2.2.trans (hb5.mono hHeld2.2.2.2.size)⟩ (fun hHeld3 => ?_)
      clear hK K
      try simp only [Act.put, List.setIfInBounds_toArray, List.set_cons_zero, List.set_cons_succ]
      refine wpAnyH_take (i := 8) (oi := { dst := some 36, op := Op.binOp BinOp.neq 4 (Operand.tmp 33) (Operand.tmp 35) 4, type := 4, pos := _, after := #[{ on := 5, ground := Ground.data }, { on := 7, ground := Ground.data }, { on := 3, ground := Ground.guard }], guard := some (3, false) }) (v := ?_) rfl (by kernel_rfl) (by kernel_rfl) (by kernel_rfl) (fun _ _ _ h => h) (Or.inl ⟨by kernel_rfl, ?_⟩) (by assumption) ?_
      rotate_left
      · intro w hSw; obtain ⟨z0, z1, z2, _⟩ := hSw; go_simp; first | done | (with_reducible rfl)
      try simp only [Act.put, List.setIfInBounds_toArray, List.set_cons_zero, List.set_cons_succ]
      refine wpAnyH_take (i := 9) (oi := { dst := some 37, op := Op.pick (Operand.tmp 31) (Operand.const (Value.bool true)) (Operand.tmp 36), type := 4, pos := _, after := #[{ on := 3, ground := Ground.data }, { on := 8, ground := Ground.data }], guard := none }) (v := ?_) rfl (by kernel_rfl) (by kernel_rfl) (by kernel_rfl) (fun _ _ _ h => h) (Or.inl ⟨by kernel_rfl, ?_⟩) (by assumption) ?_
      rotate_left
      · intro w hSw; obtain ⟨z0, z1, z2, _⟩ := hSw; go_simp; first | done | (with_reducible rfl)
      try simp only [Act.put, List.setIfInBounds_toArray, List.set_cons_zero, List.set_cons_succ]
      refine wpAnyH_done (by kernel_rfl) ?_ _
      have p0 := X5.cell 0 rfl; have p1 := X5.cell 1 rfl; have p2 := X5.cell 2 rfl
      have q0 := Y5.cell 0 rfl; have q1 := Y5.cell 1 rfl; have q2 := Y5.cell 2 rfl
      have xl5 := X5.lt
      have yl5 := Y5.lt
      go_wp2
      go_ret
      exact ⟨ret_bool (by first | rfl | (simp; done) | (simp; omega)), B5⟩
    · rw [hst] at hI hP
      unfold outU stV at hI hP
      have hv := step_ok hst
      have hOX := fun w => cI_UtfOk vW vL vH w
      rw [hv] at hOX
      have hle : vW ≤ 3 := ok_le hv
      clear hv hst
      go_wp2_with fail
      refine (hI _).mono ?_
      rintro e w2 ⟨rfl, hb2⟩
      have X2 := X1.all hb2
      have B2 := (hb1.alloc hb1.size (.cells #[.int .i64 W, .int .i64 L, .int .i64 H] 27)).trans (hb2.mono (by have := hb1.size; simp; omega))
      have Y2 := Box.new w2 27 #[.int .i64 vW, .int .i64 vL, .int .i64 vH]
      have xl2 := X2.lt
      have x0 := X2.cell 0 rfl; have x1 := X2.cell 1 rfl; have x2 := X2.cell 2 rfl
      have X2' := X2.alloc (.cells #[.int .i64 vW, .int .i64 vL, .int .i64 vH] 27)
      go_wp2_with fail
      refine (hP _).mono ?_
      rintro e w3 ⟨rfl, hb3⟩
      have X3 := X2'.all hb3
      have Y3 := Y2.all hb3
      have B3 := (B2.alloc B2.size (.cells #[.int .i64 vW, .int .i64 vL, .int .i64 vH] 27)).trans (hb3.mono (by have := B2.size; simp; omega))
      have X3' := X3.alloc (.cells #[.int .i64 vW, .int .i64 vL, .int .i64 vH] 27)
      have Y3' := Y3.alloc (.cells #[.int .i64 vW, .int .i64 vL, .int .i64 vH] 27)
      have B3' := B3.alloc B3.size (.cells #[.int .i64 vW, .int .i64 vL, .int .i64 vH] 27)
      have xl3 := X3.lt
      have yl3 := Y3.lt
      have u0 := X3.cell 0 rfl; have u1 := X3.cell 1 rfl; have u2 := X3.cell 2 rfl
      have y0 := Y3.cell 0 rfl; have y1 := Y3.cell 1 rfl; have y2 := Y3.cell 2 rfl
      go_wp2_with fail
      refine wp_region_held_drew (S := fun w' => w'.cell? ⟨w1.heap.size, 0, none⟩ = some (.int .i64 W) ∧ w'.cell? ⟨w1.heap.size, 1, none⟩ = some (.int .i64 L) ∧ w'.cell? ⟨w1.heap.size, 2, none⟩ = some (.int .i64 H) ∧ Below w3.heap.size w3 w') (by kernel_rfl) (⟨X3'.drew.cell 0 rfl, X3'.drew.cell 1 rfl, X3'.drew.cell 2 rfl, ((Below.refl _ _).alloc (Nat.le_refl _) _).drew⟩) (fun hHeld => ?_)
      refine wpAnyH_take (i := 0) (oi := { dst := some 28, op := Op.move (Operand.tmp 6), type := 4, pos := _, after := #[], guard := none }) (v := ?_) rfl (by kernel_rfl) (by kernel_rfl) (by kernel_rfl) (fun _ _ _ h => h) (Or.inl ⟨by kernel_rfl, ?_⟩) (by assumption) ?_
      rotate_left
      · intro w hSw; obtain ⟨z0, z1, z2, _⟩ := hSw; go_simp; first | done | (with_reducible rfl)
      try simp only [Act.put, List.setIfInBounds_toArray, List.set_cons_zero, List.set_cons_succ]
      refine wpAnyH_take (i := 1) (oi := { dst := some 29, op := Op.move (Operand.tmp 8), type := 4, pos := _, after := #[], guard := none }) (v := ?_) rfl (by kernel_rfl) (by kernel_rfl) (by kernel_rfl) (fun _ _ _ h => h) (Or.inl ⟨by kernel_rfl, ?_⟩) (by assumption) ?_
      rotate_left
      · intro w hSw; obtain ⟨z0, z1, z2, _⟩ := hSw; go_simp; first | done | (with_reducible rfl)
      try simp only [Act.put, List.setIfInBounds_toArray, List.set_cons_zero, List.set_cons_succ]
      refine wpAnyH_take (i := 2) (oi := { dst := some 30, op := Op.binOp BinOp.neq 4 (Operand.tmp 28) (Operand.tmp 29) 4, type := 4, pos := _, after := #[{ on := 0, ground := Ground.data }, { on := 1, ground := Ground.data }], guard := none }) (v := ?_) rfl (by kernel_rfl) (by kernel_rfl) (by kernel_rfl) (fun _ _ _ h => h) (Or.inl ⟨by kernel_rfl, ?_⟩) (by assumption) ?_
      rotate_left
      · intro w hSw; obtain ⟨z0, z1, z2, _⟩ := hSw; go_simp; first | done | (with_reducible rfl)
      try simp only [Act.put, List.setIfInBounds_toArray, List.set_cons_zero, List.set_cons_succ]
      refine wpAnyH_take (i := 3) (oi := { dst := some 31, op := Op.move (Operand.tmp 30), type := 4, pos := _, after := #[{ on := 2, ground := Ground.data }], guard := none }) (v := ?_) rfl (by kernel_rfl) (by kernel_rfl) (by kernel_rfl) (fun _ _ _ h => h) (Or.inl ⟨by kernel_rfl, ?_⟩) (by assumption) ?_
      rotate_left
      · intro w hSw; obtain ⟨z0, z1, z2, _⟩ := hSw; go_simp; first | done | (with_reducible rfl)
      try simp only [Act.put, List.setIfInBounds_toArray, List.set_cons_zero, List.set_cons_succ]
      refine wpAnyH_take (i := 4) (oi := { dst := some 32, op := Op.load 27 (Operand.tmp 3), type := 27, pos := _, after := #[{ on := 3, ground := Ground.guard }], guard := some (3, false) }) (v := ?_) rfl (by kernel_rfl) (by kernel_rfl) (by kernel_rfl) (fun _ _ _ h => h) (Or.inl ⟨by kernel_rfl, ?_⟩) (by assumption) ?_
      rotate_left
      · intro w hSw; obtain ⟨z0, z1, z2, _⟩ := hSw; go_simp; first | done | (with_reducible rfl)
      try simp only [Act.put, List.setIfInBounds_toArray, List.set_cons_zero, List.set_cons_succ]
      refine wpAnyH_take (i := 6) (oi := { dst := some 34, op := Op.load 27 (Operand.tmp 3), type := 27, pos := _, after := #[{ on := 3, ground := Ground.guard }], guard := some (3, false) }) (v := ?_) rfl (by kernel_rfl) (by kernel_rfl) (by kernel_rfl) (fun _ _ _ h => h) (Or.inl ⟨by kernel_rfl, ?_⟩) (by assumption) ?_
      rotate_left
      · intro w hSw; obtain ⟨z0, z1, z2, _⟩ := hSw; go_simp; first | done | (with_reducible rfl)
      try simp only [Act.put, List.setIfInBounds_toArray, List.set_cons_zero, List.set_cons_succ]
      refine wpAnyH_ready (rs := [5]) (by kernel_rfl) (by simp) ?_
      refine AllReadyH.cons (o := { dst := some 33, op := Op.call { callee := Callee.value (Operand.func 17), args := #[Operand.tmp 32], argTypes := #[27] }, type := 4, pos := _, after := #[{ on := 4, ground := Ground.data }, { on := 3, ground := Ground.chain }, { on := 3, ground := Ground.guard }], guard := some (3, false) }) rfl (fun K hK => ?_) AllReadyH.nil
      rw [if_pos (by kernel_rfl)]
      go_simp
      go_at_call 17
      refine (hOI _).mono ?_
      rintro e w4 ⟨rfl, hb4⟩
      have X4 := X3'.drew.all hb4
      have Y4 := Y3'.drew.all hb4
      have B4 := B3'.drew.trans (hb4.mono B3'.size)
      go_wp2_with fail
      refine hK.out _ _ ⟨X4.cell 0 rfl, X4.cell 1 rfl, X4.cell 2 rfl, hHeld.2.2.2.trans (hb4.mono hHeld.2.2.2.size)⟩ (fun hHeld2 => ?_)
      clear hK K
      try simp only [Act.put, List.setIfInBounds_toArray, List.set_cons_zero, List.set_cons_succ]
      refine wpAnyH_ready (rs := [7]) (by kernel_rfl) (by simp) ?_
      refine AllReadyH.cons (o := { dst := some 35, op := Op.call { callee := Callee.value (Operand.func 15), args := #[Operand.tmp 34], argTypes := #[27] }, type := 4, pos := _, after := #[{ on := 6, ground := Ground.data }, { on := 5, ground := Ground.chain }, { on := 3, ground := Ground.guard }], guard := some (3, false) }) rfl (fun K hK => ?_) AllReadyH.nil
      rw [if_pos (by kernel_rfl)]
      go_simp
      go_at_call 15
      refine (hOP _).mono ?_
      rintro e w5 ⟨rfl, hb5⟩
      have X5 := X4.all hb5
      have Y5 := Y4.all hb5
      have B5 := B4.trans (hb5.mono B4.size)
      go_wp2_with fail
      refine hK.out _ _ ⟨X5.cell 0 rfl, X5.cell 1 rfl, X5.cell 2 rfl, hHeld2.2.2.2.trans (hb5.mono hHeld2.2.2.2.size)⟩ (fun hHeld3 => ?_)
      clear hK K
      try simp only [Act.put, List.setIfInBounds_toArray, List.set_cons_zero, List.set_cons_succ]
      refine wpAnyH_take (i := 8) (oi := { dst := some 36, op := Op.binOp BinOp.neq 4 (Operand.tmp 33) (Operand.tmp 35) 4, type := 4, pos := _, after := #[{ on := 5, ground := Ground.data }, { on := 7, ground := Ground.data }, { on := 3, ground := Ground.guard }], guard := some (3, false) }) (v := ?_) rfl (by kernel_rfl) (by kernel_rfl) (by kernel_rfl) (fun _ _ _ h => h) (Or.inl ⟨by kernel_rfl, ?_⟩) (by assumption) ?_
      rotate_left
      · intro w hSw; obtain ⟨z0, z1, z2, _⟩ := hSw; go_simp; first | done | (with_reducible rfl)
      try simp only [Act.put, List.setIfInBounds_toArray, List.set_cons_zero, List.set_cons_succ]
      refine wpAnyH_take (i := 9) (oi := { dst := some 37, op := Op.pick (Operand.tmp 31) (Operand.const (Value.bool true)) (Operand.tmp 36), type := 4, pos := _, after := #[{ on := 3, ground := Ground.data }, { on := 8, ground := Ground.data }], guard := none }) (v := ?_) rfl (by kernel_rfl) (by kernel_rfl) (by kernel_rfl) (fun _ _ _ h => h) (Or.inl ⟨by kernel_rfl, ?_⟩) (by assumption) ?_
      rotate_left
      · intro w hSw; obtain ⟨z0, z1, z2, _⟩ := hSw; go_simp; first | done | (with_reducible rfl)
      try simp only [Act.put, List.setIfInBounds_toArray, List.set_cons_zero, List.set_cons_succ]
      refine wpAnyH_done (by kernel_rfl) ?_ _
      have p0 := X5.cell 0 rfl; have p1 := X5.cell 1 rfl; have p2 := X5.cell 2 rfl
      have q0 := Y5.cell 0 rfl; have q1 := Y5.cell 1 rfl; have q2 := Y5.cell 2 rfl
      have xl5 := X5.lt
      have yl5 := Y5.lt
      go_wp2_with fail
      refine (hOX _).mono ?_
      rintro e w6 ⟨rfl, hb6⟩
      have Y6 := Y5.all hb6
      have s0 := Y6.cell 0 rfl; have s1 := Y6.cell 1 rfl; have s2 := Y6.cell 2 rfl
      have yl6 := Y6.lt
      go_wp2
      go_ret
      exact ⟨ret_bool (by first | rfl | (simp; done) | (simp; omega)), B5.trans (hb6.mono B5.size)⟩
  · go_enter Try.func10, Try.ntmps10
    go_wp2_with (go_at_call 21; refine (c_big _ _ _ _).mono ?_; rintro e w' ⟨rfl, rfl⟩; rw [hbig])
    go_ret
    exact ⟨rfl, Below.refl _ _⟩
end Go.Proofs.Ytmhlljonlbiajaa
