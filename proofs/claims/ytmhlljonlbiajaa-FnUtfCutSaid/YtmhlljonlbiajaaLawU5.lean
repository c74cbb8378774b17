/- The walk of FnUtfCut. Conditions: the code's bytes can be read. -/
import Derived.Test.YtmhlljonlbiajaaLawU4
namespace Go.Proofs.Ytmhlljonlbiajaa
open Go.RowKit Plain
set_option linter.unusedVariables false
set_option linter.unusedSimpArgs false
theorem row_bd {w : World} {a : Option Addr} {len cap : Nat} {z : List Int} (h : IsRow .u8 w a len cap z) : ∀ i, i < len → 0 ≤ z.getD i 0 ∧ z.getD i 0 ≤ 255 := by
  intro i hi
  rcases h with ⟨_, h0, _⟩ | ⟨x, rfl, hle, _, hz, _, hw⟩
  · omega
  · have hi' : i < z.length := by omega
    have e : z.getD i 0 = z[i] := by simp [List.getD, List.getElem?_eq_getElem hi']
    rw [e]
    exact u8_bd (hw _ (List.getElem_mem hi'))
theorem c_at0 {a : Option Addr} {len cap : Nat} {z : List Int} (w : World) (hl : len ≤ 1048576) (hc : CodeAt w w.heap.size a len z) (hb : ∀ i, i < len → 0 ≤ z.getD i 0 ∧ z.getD i 0 ≤ 255) :
    Calls Try.prog 31 #[.slice a len cap, .int .i64 2] w fun e w' => (∃ x : Int, 0 ≤ x ∧ x ≤ 255 ∧ e = .returned (.int .i64 x)) ∧ w = w' := by
  by_cases hlt : 2 < len
  · obtain ⟨b, off, rfl, hB, hcell⟩ := hc (by omega)
    have c2 := hcell 2 hlt
    obtain ⟨h0, h1⟩ := hb 2 hlt
    obtain ⟨y, hy⟩ : ∃ y, y = z.getD 2 0 := ⟨_, rfl⟩
    rw [← hy] at c2 h0 h1
    have hli : (2 : Int) < (len : Int) := by omega
    clear hcell hb hy
    go_enter Try.func31, Try.ntmps31
    go_wp2
    go_ret
    exact ⟨⟨_, by omega, by omega, rfl⟩, rfl⟩
  · have hli : ¬ (2 : Int) < (len : Int) := by omega
    clear hb
    go_enter Try.func31, Try.ntmps31
    go_wp2
    go_ret
    exact ⟨⟨_, by omega, by omega, rfl⟩, rfl⟩
theorem cut_law (l : List Nat) (k : Nat) (hk : k ≤ l.length) :
    (∃ W L H p : Int, utfText (0, 0, 0) (l.take k) = ((W, L, H), p) ∧ 0 ≤ p ∧ utfText (0, 0, 0) l = ((W, L, H), p)) ∨
    (∃ W L H V M G r al : Int, utfText (0, 0, 0) (l.take k) = ((W, L, H), -1) ∧ utfText (W, L, H) (l.drop k) = ((V, M, G), r) ∧ utfText (0, 0, 0) l = ((V, M, G), al) ∧ ((r = -1 ∧ al = -1) ∨ (0 ≤ r ∧ r ≤ (l.length : Int) ∧ al = (k : Int) + r))) := by
  have ha := runU_append (l.take k) (l.drop k) (0, 0, 0) 0
  rw [List.take_append_drop] at ha
  have h1 := runU_at (l := l.take k) (u := (0, 0, 0)) (i := 0)
  obtain ⟨⟨⟨W, L, H⟩, p⟩, hq⟩ : ∃ q, q = runU (0, 0, 0) (l.take k) 0 := ⟨_, rfl⟩
  rw [← hq] at ha h1
  simp only at ha h1
  have e1 : utfText (0, 0, 0) (l.take k) = ((W, L, H), p) := hq.symm
  rcases h1 with rfl | ⟨h1, _⟩
  · rw [if_pos (by omega), Nat.zero_add, List.length_take, Nat.min_eq_left hk] at ha
    have h2 := runU_shift (l.drop k) (W, L, H) k
    rw [← ha] at h2
    obtain ⟨⟨⟨V, M, G⟩, r⟩, hr⟩ : ∃ q, q = runU (W, L, H) (l.drop k) 0 := ⟨_, rfl⟩
    rw [← hr] at h2
    have e3 : utfText (0, 0, 0) l = ((V, M, G), (runU (0, 0, 0) l 0).2) := Prod.ext h2.1 rfl
    refine .inr ⟨W, L, H, V, M, G, r, (runU (0, 0, 0) l 0).2, e1, hr.symm, e3, ?_⟩
    have h3 := h2.2
    simp only at h3
    have h4 := runU_at (l := l.drop k) (u := (W, L, H)) (i := 0)
    rw [← hr] at h4
    simp only [List.length_drop] at h4
    rcases h3 with ⟨x1, x2⟩ | ⟨x1, x2⟩
    · exact .inl ⟨x2, x1⟩
    · exact .inr ⟨x1, by omega, x2⟩
  · rw [if_neg (by simp at h1; omega)] at ha
    exact .inl ⟨W, L, H, p, e1, by simpa using h1, ha⟩
set_option maxHeartbeats 2000000 in
theorem walkFnUtfCut (a : Option Addr) (len cap : Nat) (z : List Int) (w : World) (hr : IsRow .u8 w a len cap z) : Calls Try.prog 12 #[.slice a len cap] w fun e w' => e = .returned (.bool true) ∧ Below w.heap.size w w' := by
  have hcode := Lib.hid (code_of_row hr)
  have hrb := Lib.hid (row_bd hr)
  clear hr
  rcases hbig : decide (1048576 < len) with _ | _
  · have hl : len ≤ 1048576 := by simp at hbig; omega
    go_enter Try.func12, Try.ntmps12
    go_wp2_with (go_at_call 21; refine (c_big _ _ _ _).mono ?_; rintro e w' ⟨rfl, rfl⟩; rw [hbig])
    refine (d_DrawUtfGood _ hl hcode.out).mono ?_
    rintro e w1 ⟨s, hs, rfl, hb1⟩
    have hcode1 : Hid (CodeAt w1 w1.heap.size a len z) := Lib.hid (hcode.out.later hb1)
    go_wp2_with fail
    refine (c_at0 _ hl hcode1.out hrb.out).mono ?_
    rintro e w1' ⟨⟨x, hx0, hx1, rfl⟩, rfl⟩
    have hm0 : 0 ≤ x % ((s.size : Int) + 1) := Int.emod_nonneg _ (by omega)
    have hm1 : x % ((s.size : Int) + 1) < (s.size : Int) + 1 := Int.emod_lt_of_pos _ (by omega)
    obtain ⟨k, hk⟩ := Int.eq_ofNat_of_zero_le hm0
    have hks : k ≤ s.size := by omega
    have hsl : s.size ≤ 1048576 := by omega
    clear hm0 hm1
    have hki0 : (0 : Int) ≤ (k : Int) := by omega
    have hki1 : (k : Int) ≤ (s.size : Int) := by omega
    have t1 : bl (s.extract 0 k) = (bl s).take k := by rw [bl_extract, List.drop_zero]
    have t2 : bl (s.extract k s.size) = (bl s).drop k := by rw [bl_extract, List.take_of_length_le (by rw [bl_length]; exact Nat.le_refl _)]
    have hA := fun w => cI_UtfText 0 0 0 (s.extract 0 k) w (by rw [ByteArray.size_extract]; omega)
    have hW := fun w => cI_UtfText 0 0 0 s w hsl
    have hS0 := fun w => cP_UtfState (⟨#[]⟩ : ByteArray) w (by decide)
    have hPW := fun w => cP_UtfText 0 0 0 s w hsl
    rw [show (utfText (0, 0, 0) (bl (⟨#[]⟩ : ByteArray))).1 = (0, 0, 0) from by decide] at hS0
    unfold stV at hS0
    simp only at hS0
    rw [t1] at hA
    rcases cut_law (bl s) k (by rw [bl_length]; exact hks) with ⟨W, L, H, p, q1, hp, q2⟩ | ⟨W, L, H, V, M, G, r, al, q1, q2, q3, hr⟩
    · rw [q1] at hA
      have hS := fun w => cI_UtfState s w hsl
      rw [q2] at hW hPW hS
      unfold stV at hS
      unfold textV at hA hW hPW
      have hp1 : (0 : Int) ≤ p := hp
      clear t1 t2 q1 q2
      go_wp2_with fail
      refine (hA _).mono ?_
      rintro e w2 ⟨rfl, hb2⟩
      have B2 := hb1.trans (hb2.mono hb1.size)
      have X2 := Box.new w2 27 #[.int .i64 W, .int .i64 L, .int .i64 H]
      go_wp2_with fail
      refine (hW _).mono ?_
      rintro e w3 ⟨rfl, hb3⟩
      have B3 := (B2.alloc B2.size (.cells #[.int .i64 W, .int .i64 L, .int .i64 H] 27)).trans (hb3.mono (by have := B2.size; simp; omega))
      have X3 := (X2.all hb3).alloc (.cells #[.int .i64 W, .int .i64 L, .int .i64 H] 27)
      have Y3 := Box.new w3 27 #[.int .i64 W, .int .i64 L, .int .i64 H]
      have l23 : w2.heap.size < w3.heap.size := (X2.all hb3).lt
      go_wp2_with fail
      refine (hS0 _).mono ?_
      rintro e w4 ⟨rfl, hb4⟩
      have B4 := (B3.alloc B3.size (.cells #[.int .i64 W, .int .i64 L, .int .i64 H] 27)).trans (hb4.mono (by have := B3.size; simp; omega))
      have X4 := X3.all hb4
      have Y4 := Y3.all hb4
      go_wp2_with fail
      refine (hPW _).mono ?_
      rintro e w5 ⟨rfl, hb5⟩
      have B5 := B4.trans (hb5.mono B4.size)
      have X5 := X4.all hb5
      have Y5 := Y4.all hb5
      have xl5 := X5.lt
      have yl5 := Y5.lt
      have x0 := X5.cell 0 rfl; have x1 := X5.cell 1 rfl; have x2 := X5.cell 2 rfl
      have y0 := Y5.cell 0 rfl; have y1 := Y5.cell 1 rfl; have y2 := Y5.cell 2 rfl
      have X5' := X5.alloc (.cells #[.int .i64 W, .int .i64 L, .int .i64 H] 27)
      have Y5' := Y5.alloc (.cells #[.int .i64 W, .int .i64 L, .int .i64 H] 27)
      have B5' := B5.alloc B5.size (.cells #[.int .i64 W, .int .i64 L, .int .i64 H] 27)
      go_wp2_with fail
      refine wp_region_held_drew (S := fun w' => w'.cell? ⟨w2.heap.size, 0, none⟩ = some (.int .i64 W) ∧ w'.cell? ⟨w2.heap.size, 1, none⟩ = some (.int .i64 L) ∧ w'.cell? ⟨w2.heap.size, 2, none⟩ = some (.int .i64 H) ∧ w'.cell? ⟨w3.heap.size, 0, none⟩ = some (.int .i64 W) ∧ w'.cell? ⟨w3.heap.size, 1, none⟩ = some (.int .i64 L) ∧ w'.cell? ⟨w3.heap.size, 2, none⟩ = some (.int .i64 H) ∧ Below w.heap.size w w') (by kernel_rfl) (⟨X5'.drew.cell 0 rfl, X5'.drew.cell 1 rfl, X5'.drew.cell 2 rfl, Y5'.drew.cell 0 rfl, Y5'.drew.cell 1 rfl, Y5'.drew.cell 2 rfl, B5'.drew⟩) (fun hHeld => ?_)
      refine wpAnyH_take (i := 0) (oi := { dst := some 57, op := Op.load 27 (Operand.tmp 5), type := 27, pos := _, after := #[], guard := none }) (v := ?_) rfl (by kernel_rfl) (by kernel_rfl) (by kernel_rfl) (fun _ _ _ h => h) (Or.inl ⟨by kernel_rfl, ?_⟩) (by assumption) ?_
      rotate_left
      · intro w hSw; obtain ⟨z0, z1, z2, z3, z4, z5, _⟩ := hSw; go_simp; first | done | (with_reducible rfl)
      try simp only [Act.put, List.setIfInBounds_toArray, List.set_cons_zero, List.set_cons_succ]
      refine wpAnyH_take (i := 1) (oi := { dst := some 58, op := Op.load 27 (Operand.tmp 7), type := 27, pos := _, after := #[], guard := none }) (v := ?_) rfl (by kernel_rfl) (by kernel_rfl) (by kernel_rfl) (fun _ _ _ h => h) (Or.inl ⟨by kernel_rfl, ?_⟩) (by assumption) ?_
      rotate_left
      · intro w hSw; obtain ⟨z0, z1, z2, z3, z4, z5, _⟩ := hSw; go_simp; first | done | (with_reducible rfl)
      try simp only [Act.put, List.setIfInBounds_toArray, List.set_cons_zero, List.set_cons_succ]
      refine wpAnyH_take (i := 2) (oi := { dst := some 59, op := Op.binOp BinOp.eql 27 (Operand.tmp 57) (Operand.tmp 58) 27, type := 4, pos := _, after := #[{ on := 0, ground := Ground.data }, { on := 1, ground := Ground.data }], guard := none }) (v := ?_) rfl (by kernel_rfl) (by kernel_rfl) (by kernel_rfl) (fun _ _ _ h => h) (Or.inl ⟨by kernel_rfl, ?_⟩) (by assumption) ?_
      rotate_left
      · intro w hSw; obtain ⟨z0, z1, z2, z3, z4, z5, _⟩ := hSw; go_simp; first | done | (with_reducible rfl)
      try simp only [Act.put, List.setIfInBounds_toArray, List.set_cons_zero, List.set_cons_succ]
      refine wpAnyH_take (i := 3) (oi := { dst := some 60, op := Op.move (Operand.tmp 59), type := 4, pos := _, after := #[{ on := 2, ground := Ground.data }], guard := none }) (v := ?_) rfl (by kernel_rfl) (by kernel_rfl) (by kernel_rfl) (fun _ _ _ h => h) (Or.inl ⟨by kernel_rfl, ?_⟩) (by assumption) ?_
      rotate_left
      · intro w hSw; obtain ⟨z0, z1, z2, z3, z4, z5, _⟩ := hSw; go_simp; first | done | (with_reducible rfl)
      try simp only [Act.put, List.setIfInBounds_toArray, List.set_cons_zero, List.set_cons_succ]
      refine wpAnyH_take (i := 4) (oi := { dst := some 61, op := Op.move (Operand.tmp 3), type := 9, pos := _, after := #[{ on := 3, ground := Ground.guard }], guard := some (3, true) }) (v := ?_) rfl (by kernel_rfl) (by kernel_rfl) (by kernel_rfl) (fun _ _ _ h => h) (Or.inl ⟨by kernel_rfl, ?_⟩) (by assumption) ?_
      rotate_left
      · intro w hSw; obtain ⟨z0, z1, z2, z3, z4, z5, _⟩ := hSw; go_simp; first | done | (with_reducible rfl)
      try simp only [Act.put, List.setIfInBounds_toArray, List.set_cons_zero, List.set_cons_succ]
      refine wpAnyH_take (i := 6) (oi := { dst := some 63, op := Op.load 27 (Operand.tmp 7), type := 27, pos := _, after := #[{ on := 3, ground := Ground.guard }], guard := some (3, true) }) (v := ?_) rfl (by kernel_rfl) (by kernel_rfl) (by kernel_rfl) (fun _ _ _ h => h) (Or.inl ⟨by kernel_rfl, ?_⟩) (by assumption) ?_
      rotate_left
      · intro w hSw; obtain ⟨z0, z1, z2, z3, z4, z5, _⟩ := hSw; go_simp; first | done | (with_reducible rfl)
      try simp only [Act.put, List.setIfInBounds_toArray, List.set_cons_zero, List.set_cons_succ]
      refine wpAnyH_ready (rs := [5]) (by kernel_rfl) (by simp) ?_
      refine AllReadyH.cons (o := { dst := some 62, op := Op.call { callee := Callee.value (Operand.func 24), args := #[Operand.tmp 61], argTypes := #[9] }, type := 27, pos := _, after := #[{ on := 4, ground := Ground.data }, { on := 3, ground := Ground.chain }, { on := 3, ground := Ground.guard }], guard := some (3, true) }) rfl (fun K hK => ?_) AllReadyH.nil
      rw [if_pos (by kernel_rfl)]
      go_simp
      go_at_call 24
      refine (hS _).mono ?_
      rintro e w6 ⟨rfl, hb6⟩
      have X6 := X5'.drew.all hb6
      have Y6 := Y5'.drew.all hb6
      have B6 := B5'.drew.trans (hb6.mono B5'.size)
      go_wp2_with fail
      refine hK.out _ _ ⟨X6.cell 0 rfl, X6.cell 1 rfl, X6.cell 2 rfl, Y6.cell 0 rfl, Y6.cell 1 rfl, Y6.cell 2 rfl, B6⟩ (fun hHeld2 => ?_)
      clear hK K
      try simp only [Act.put, List.setIfInBounds_toArray, List.set_cons_zero, List.set_cons_succ]
      refine wpAnyH_take (i := 7) (oi := { dst := some 64, op := Op.binOp BinOp.eql 27 (Operand.tmp 62) (Operand.tmp 63) 27, type := 4, pos := _, after := #[{ on := 5, ground := Ground.data }, { on := 6, ground := Ground.data }, { on := 3, ground := Ground.guard }], guard := some (3, true) }) (v := ?_) rfl (by kernel_rfl) (by kernel_rfl) (by kernel_rfl) (fun _ _ _ h => h) (Or.inl ⟨by kernel_rfl, ?_⟩) (by assumption) ?_
      rotate_left
      · intro w hSw; obtain ⟨z0, z1, z2, z3, z4, z5, _⟩ := hSw; go_simp; first | done | (with_reducible rfl)
      try simp only [Act.put, List.setIfInBounds_toArray, List.set_cons_zero, List.set_cons_succ]
      refine wpAnyH_take (i := 8) (oi := { dst := some 65, op := Op.pick (Operand.tmp 60) (Operand.tmp 64) (Operand.const (Value.bool false)), type := 4, pos := _, after := #[{ on := 3, ground := Ground.data }, { on := 7, ground := Ground.data }], guard := none }) (v := ?_) rfl (by kernel_rfl) (by kernel_rfl) (by kernel_rfl) (fun _ _ _ h => h) (Or.inl ⟨by kernel_rfl, ?_⟩) (by assumption) ?_
      rotate_left
      · intro w hSw; obtain ⟨z0, z1, z2, z3, z4, z5, _⟩ := hSw; go_simp; first | done | (with_reducible rfl)
      try simp only [Act.put, List.setIfInBounds_toArray, List.set_cons_zero, List.set_cons_succ]
      refine wpAnyH_take (i := 9) (oi := { dst := some 2, op := Op.assign (Operand.tmp 65), type := 4, pos := _, after := #[{ on := 8, ground := Ground.data }, { on := 5, ground := Ground.chain }, { on := 0, ground := Ground.phase }, { on := 1, ground := Ground.phase }, { on := 2, ground := Ground.phase }, { on := 3, ground := Ground.phase }, { on := 4, ground := Ground.phase }, { on := 5, ground := Ground.phase }, { on := 6, ground := Ground.phase }, { on := 7, ground := Ground.phase }, { on := 8, ground := Ground.phase }], guard := none }) (v := ?_) rfl (by kernel_rfl) (by kernel_rfl) (by kernel_rfl) (fun _ _ _ h => h) (Or.inl ⟨by kernel_rfl, ?_⟩) (by assumption) ?_
      rotate_left
      · intro w hSw; obtain ⟨z0, z1, z2, z3, z4, z5, _⟩ := hSw; go_simp; first | done | (with_reducible rfl)
      try simp only [Act.put, List.setIfInBounds_toArray, List.set_cons_zero, List.set_cons_succ]
      refine wpAnyH_done (by kernel_rfl) ?_ _
      go_wp2
      go_ret
      exact ⟨ret_bool (by first | rfl | (simp; done)), B6⟩
    · rw [q1] at hA
      have hB := fun w => cI_UtfText W L H (s.extract k s.size) w (by rw [ByteArray.size_extract]; omega)
      rw [t2, q2] at hB
      rw [q3] at hW hPW
      unfold textV at hA hW hPW hB
      clear t1 t2 q1 q2 q3
      go_wp2_with fail
      refine (hA _).mono ?_
      rintro e w2 ⟨rfl, hb2⟩
      have B2 := hb1.trans (hb2.mono hb1.size)
      have X2 := Box.new w2 27 #[.int .i64 W, .int .i64 L, .int .i64 H]
      go_wp2_with fail
      refine (hW _).mono ?_
      rintro e w3 ⟨rfl, hb3⟩
      have B3 := (B2.alloc B2.size (.cells #[.int .i64 W, .int .i64 L, .int .i64 H] 27)).trans (hb3.mono (by have := B2.size; simp; omega))
      have X3 := (X2.all hb3).alloc (.cells #[.int .i64 V, .int .i64 M, .int .i64 G] 27)
      have Y3 := Box.new w3 27 #[.int .i64 V, .int .i64 M, .int .i64 G]
      have l23 : w2.heap.size < w3.heap.size := (X2.all hb3).lt
      go_wp2_with fail
      refine (hS0 _).mono ?_
      rintro e w4 ⟨rfl, hb4⟩
      have B4 := (B3.alloc B3.size (.cells #[.int .i64 V, .int .i64 M, .int .i64 G] 27)).trans (hb4.mono (by have := B3.size; simp; omega))
      have X4 := X3.all hb4
      have Y4 := Y3.all hb4
      go_wp2_with fail
      refine (hPW _).mono ?_
      rintro e w5 ⟨rfl, hb5⟩
      have B5 := B4.trans (hb5.mono B4.size)
      have X5 := X4.all hb5
      have Y5 := Y4.all hb5
      have xl5 := X5.lt
      have yl5 := Y5.lt
      have x0 := X5.cell 0 rfl; have x1 := X5.cell 1 rfl; have x2 := X5.cell 2 rfl
      have y0 := Y5.cell 0 rfl; have y1 := Y5.cell 1 rfl; have y2 := Y5.cell 2 rfl
      have X5' := X5.alloc (.cells #[.int .i64 V, .int .i64 M, .int .i64 G] 27)
      have Y5' := Y5.alloc (.cells #[.int .i64 V, .int .i64 M, .int .i64 G] 27)
      have B5' := B5.alloc B5.size (.cells #[.int .i64 V, .int .i64 M, .int .i64 G] 27)
      go_wp2_with fail
      refine wp_region_held_drew (S := fun w' => w'.cell? ⟨w2.heap.size, 0, none⟩ = some (.int .i64 W) ∧ w'.cell? ⟨w2.heap.size, 1, none⟩ = some (.int .i64 L) ∧ w'.cell? ⟨w2.heap.size, 2, none⟩ = some (.int .i64 H) ∧ w'.cell? ⟨w3.heap.size, 0, none⟩ = some (.int .i64 V) ∧ w'.cell? ⟨w3.heap.size, 1, none⟩ = some (.int .i64 M) ∧ w'.cell? ⟨w3.heap.size, 2, none⟩ = some (.int .i64 G) ∧ Below w.heap.size w w') (by kernel_rfl) (⟨X5'.drew.cell 0 rfl, X5'.drew.cell 1 rfl, X5'.drew.cell 2 rfl, Y5'.drew.cell 0 rfl, Y5'.drew.cell 1 rfl, Y5'.drew.cell 2 rfl, B5'.drew⟩) (fun hHeld => ?_)
      refine wpAnyH_take (i := 0) (oi := { dst := some 67, op := Op.load 27 (Operand.tmp 5), type := 27, pos := _, after := #[], guard := none }) (v := ?_) rfl (by kernel_rfl) (by kernel_rfl) (by kernel_rfl) (fun _ _ _ h => h) (Or.inl ⟨by kernel_rfl, ?_⟩) (by assumption) ?_
      rotate_left
      · intro w hSw; obtain ⟨z0, z1, z2, z3, z4, z5, _⟩ := hSw; go_simp; first | done | (with_reducible rfl)
      try simp only [Act.put, List.setIfInBounds_toArray, List.set_cons_zero, List.set_cons_succ]
      refine wpAnyH_take (i := 1) (oi := { dst := some 68, op := Op.move (Operand.tmp 3), type := 9, pos := _, after := #[], guard := none }) (v := ?_) rfl (by kernel_rfl) (by kernel_rfl) (by kernel_rfl) (fun _ _ _ h => h) (Or.inl ⟨by kernel_rfl, ?_⟩) (by assumption) ?_
      rotate_left
      · intro w hSw; obtain ⟨z0, z1, z2, z3, z4, z5, _⟩ := hSw; go_simp; first | done | (with_reducible rfl)
      try simp only [Act.put, List.setIfInBounds_toArray, List.set_cons_zero, List.set_cons_succ]
      refine wpAnyH_take (i := 2) (oi := { dst := some 69, op := Op.move (Operand.tmp 4), type := 3, pos := _, after := #[], guard := none }) (v := ?_) rfl (by kernel_rfl) (by kernel_rfl) (by kernel_rfl) (fun _ _ _ h => h) (Or.inl ⟨by kernel_rfl, ?_⟩) (by assumption) ?_
      rotate_left
      · intro w hSw; obtain ⟨z0, z1, z2, z3, z4, z5, _⟩ := hSw; go_simp; first | done | (with_reducible rfl)
      try simp only [Act.put, List.setIfInBounds_toArray, List.set_cons_zero, List.set_cons_succ]
      refine wpAnyH_take (i := 3) (oi := { dst := some 70, op := Op.slice 9 (Operand.tmp 68) (some (Operand.tmp 69)) none none, type := 9, pos := _, after := #[{ on := 1, ground := Ground.data }, { on := 2, ground := Ground.data }], guard := none }) (v := ?_) rfl (by kernel_rfl) (by kernel_rfl) (by kernel_rfl) (fun _ _ _ h => h) (Or.inl ⟨by kernel_rfl, ?_⟩) (by assumption) ?_
      rotate_left
      · intro w hSw; obtain ⟨z0, z1, z2, z3, z4, z5, _⟩ := hSw; go_simp; first | done | (with_reducible rfl)
      try simp only [Act.put, List.setIfInBounds_toArray, List.set_cons_zero, List.set_cons_succ]
      refine wpAnyH_ready (rs := [4, 8]) (by kernel_rfl) (by simp) ?_
      refine (AllReadyH.cons (o := { dst := some 71, op := Op.call { callee := Callee.value (Operand.func 27), args := #[Operand.tmp 67, Operand.tmp 70], argTypes := #[27, 9] }, type := 39, pos := _, after := #[{ on := 0, ground := Ground.data }, { on := 3, ground := Ground.data }], guard := none }) rfl (fun K hK => ?_) (AllReadyH.cons (o := { dst := some 11, op := Op.alloc 27, type := 0, pos := _, after := #[], guard := none }) rfl (fun K hK => ?_) AllReadyH.nil))
      · rw [if_pos (by kernel_rfl)]
        go_simp
        go_at_call 27
        refine (hB _).mono ?_
        rintro e w6 ⟨rfl, hb6⟩
        have X6 := X5'.drew.all hb6
        have Y6 := Y5'.drew.all hb6
        have B6 := B5'.drew.trans (hb6.mono B5'.size)
        go_wp2_with fail
        refine hK.out _ _ ⟨X6.cell 0 rfl, X6.cell 1 rfl, X6.cell 2 rfl, Y6.cell 0 rfl, Y6.cell 1 rfl, Y6.cell 2 rfl, B6⟩ (fun _ => ?_)
        clear hK K
        try simp only [Act.put, List.setIfInBounds_toArray, List.set_cons_zero, List.set_cons_succ]
        refine wpAnyH_take (i := 5) (oi := { dst := some 66, op := Op.move (Operand.tmp 71), type := 39, pos := _, after := #[{ on := 4, ground := Ground.data }], guard := none }) (v := ?_) rfl (by kernel_rfl) (by kernel_rfl) (by kernel_rfl) (fun _ _ _ h => h) (Or.inl ⟨by kernel_rfl, ?_⟩) (by assumption) ?_
        rotate_left
        · intro w hSw; obtain ⟨z0, z1, z2, z3, z4, z5, _⟩ := hSw; go_simp; first | done | (with_reducible rfl)
        try simp only [Act.put, List.setIfInBounds_toArray, List.set_cons_zero, List.set_cons_succ]
        refine wpAnyH_take (i := 6) (oi := { dst := some 72, op := Op.extract (Operand.tmp 66) 0, type := 27, pos := _, after := #[{ on := 5, ground := Ground.data }], guard := none }) (v := ?_) rfl (by kernel_rfl) (by kernel_rfl) (by kernel_rfl) (fun _ _ _ h => h) (Or.inl ⟨by kernel_rfl, ?_⟩) (by assumption) ?_
        rotate_left
        · intro w hSw; obtain ⟨z0, z1, z2, z3, z4, z5, _⟩ := hSw; go_simp; first | done | (with_reducible rfl)
        try simp only [Act.put, List.setIfInBounds_toArray, List.set_cons_zero, List.set_cons_succ]
        refine wpAnyH_take (i := 7) (oi := { dst := some 73, op := Op.extract (Operand.tmp 66) 1, type := 3, pos := _, after := #[{ on := 5, ground := Ground.data }, { on := 9, ground := Ground.gcOnly Departure.lateStores }], guard := none }) (v := ?_) rfl (by kernel_rfl) (by kernel_rfl) (by kernel_rfl) (fun _ _ _ h => h) (Or.inl ⟨by kernel_rfl, ?_⟩) (by assumption) ?_
        rotate_left
        · intro w hSw; obtain ⟨z0, z1, z2, z3, z4, z5, _⟩ := hSw; go_simp; first | done | (with_reducible rfl)
        try simp only [Act.put, List.setIfInBounds_toArray, List.set_cons_zero, List.set_cons_succ]
        refine wpAnyH_ready (rs := [8]) (by kernel_rfl) (by simp) ?_
        refine AllReadyH.cons (o := { dst := some 11, op := Op.alloc 27, type := 0, pos := _, after := #[], guard := none }) rfl (fun K hK => ?_) AllReadyH.nil
        rw [if_pos (by kernel_rfl)]
        go_simp
        refine hK.out _ _ ⟨(X6.alloc (.cells #[.int .i64 0, .int .i64 0, .int .i64 0] 27)).cell 0 rfl, (X6.alloc (.cells #[.int .i64 0, .int .i64 0, .int .i64 0] 27)).cell 1 rfl, (X6.alloc (.cells #[.int .i64 0, .int .i64 0, .int .i64 0] 27)).cell 2 rfl, (Y6.alloc (.cells #[.int .i64 0, .int .i64 0, .int .i64 0] 27)).cell 0 rfl, (Y6.alloc (.cells #[.int .i64 0, .int .i64 0, .int .i64 0] 27)).cell 1 rfl, (Y6.alloc (.cells #[.int .i64 0, .int .i64 0, .int .i64 0] 27)).cell 2 rfl, (B6.alloc B6.size (.cells #[.int .i64 0, .int .i64 0, .int .i64 0] 27))⟩ (fun _ => ?_)
        clear hK K
        try simp only [Act.put, List.setIfInBounds_toArray, List.set_cons_zero, List.set_cons_succ]
        refine wpAnyH_ready (rs := [9]) (by kernel_rfl) (by simp) ?_
        refine AllReadyH.cons (o := { dst := none, op := Op.store 27 (Operand.tmp 11) (Operand.tmp 72), type := 0, pos := _, after := #[{ on := 8, ground := Ground.data }, { on := 6, ground := Ground.data }, { on := 4, ground := Ground.chain }, { on := 0, ground := Ground.phase }, { on := 1, ground := Ground.phase }, { on := 2, ground := Ground.phase }, { on := 3, ground := Ground.phase }, { on := 4, ground := Ground.phase }, { on := 5, ground := Ground.phase }, { on := 6, ground := Ground.phase }, { on := 7, ground := Ground.textOnly Departure.lateStores }, { on := 8, ground := Ground.phase }], guard := none }) rfl (fun K hK => ?_) AllReadyH.nil
        rw [if_pos (by kernel_rfl)]
        go_simp
        have X7 := (X6.alloc (.cells #[.int .i64 V, .int .i64 M, .int .i64 G] 27))
        have Y7 := (Y6.alloc (.cells #[.int .i64 V, .int .i64 M, .int .i64 G] 27))
        have B7 := (B6.alloc B6.size (.cells #[.int .i64 V, .int .i64 M, .int .i64 G] 27))
        have Z7 := (Box.new w6 27 #[.int .i64 V, .int .i64 M, .int .i64 G])
        refine hK.out _ _ ⟨X7.cell 0 rfl, X7.cell 1 rfl, X7.cell 2 rfl, Y7.cell 0 rfl, Y7.cell 1 rfl, Y7.cell 2 rfl, B7⟩ (fun _ => ?_)
        clear hK K
        try simp only [Act.put, List.setIfInBounds_toArray, List.set_cons_zero, List.set_cons_succ]
        refine wpAnyH_take (i := 10) (oi := { dst := some 12, op := Op.assign (Operand.tmp 73), type := 3, pos := _, after := #[{ on := 7, ground := Ground.data }, { on := 9, ground := Ground.chain }, { on := 0, ground := Ground.phase }, { on := 1, ground := Ground.phase }, { on := 2, ground := Ground.phase }, { on := 3, ground := Ground.phase }, { on := 4, ground := Ground.phase }, { on := 5, ground := Ground.phase }, { on := 6, ground := Ground.phase }, { on := 7, ground := Ground.phase }, { on := 8, ground := Ground.phase }, { on := 9, ground := Ground.phase }], guard := none }) (v := ?_) rfl (by kernel_rfl) (by kernel_rfl) (by kernel_rfl) (fun _ _ _ h => h) (Or.inl ⟨by kernel_rfl, ?_⟩) (by assumption) ?_
        rotate_left
        · intro w hSw; obtain ⟨z0, z1, z2, z3, z4, z5, _⟩ := hSw; go_simp; first | done | (with_reducible rfl)
        try simp only [Act.put, List.setIfInBounds_toArray, List.set_cons_zero, List.set_cons_succ]
        refine wpAnyH_done (by kernel_rfl) ?_ _
        have z0 := Z7.cell 0 rfl; have z1 := Z7.cell 1 rfl; have z2 := Z7.cell 2 rfl
        have yy0 := Y7.cell 0 rfl; have yy1 := Y7.cell 1 rfl; have yy2 := Y7.cell 2 rfl
        have yl6 := Y6.lt
        rcases hr with ⟨rfl, rfl⟩ | ⟨hr0, hrl, hr1⟩
        · go_wp2
          go_ret
          exact ⟨ret_bool (by first | rfl | (simp; done) | (simp; omega)), B7⟩
        · subst hr1
          have hr2 : ¬ r < 0 := by omega
          have hr3 : (0 : Int) ≤ r := hr0
          rw [bl_length] at hrl
          have hwr : wrap64 ((k : Int) + r) = (k : Int) + r := IntWalk.wrap64_in _ (by omega)
          have hwi : IntKind.i64.wrap ((k : Int) + r) = (k : Int) + r := IntWalk.i64_in _ (by omega)
          have hr4 : (0 : Int) ≤ (k : Int) + r := by omega
          go_wp2
          go_ret
          exact ⟨ret_bool (by first | rfl | (simp; done) | (simp; omega)), B7⟩
      · rw [if_pos (by kernel_rfl)]
        go_simp
        have X6 := (X5'.alloc (.cells #[.int .i64 0, .int .i64 0, .int .i64 0] 27)).drew
        have Y6 := (Y5'.alloc (.cells #[.int .i64 0, .int .i64 0, .int .i64 0] 27)).drew
        have B6 := (B5'.alloc B5'.size (.cells #[.int .i64 0, .int .i64 0, .int .i64 0] 27)).drew
        have Z6 : Box ((w5.alloc (.cells #[.int .i64 V, .int .i64 M, .int .i64 G] 27)).alloc (.cells #[.int .i64 0, .int .i64 0, .int .i64 0] 27)).drew (w5.heap.size + 1) 27 #[.int .i64 0, .int .i64 0, .int .i64 0] := by
          have h := Box.new (w5.alloc (.cells #[.int .i64 V, .int .i64 M, .int .i64 G] 27)) 27 #[.int .i64 0, .int .i64 0, .int .i64 0]
          rw [show (w5.alloc (.cells #[.int .i64 V, .int .i64 M, .int .i64 G] 27)).heap.size = w5.heap.size + 1 from by simp] at h
          exact h.drew
        have xl6 := X6.lt
        have yl6 := Y6.lt
        refine hK.out _ _ ⟨X6.cell 0 rfl, X6.cell 1 rfl, X6.cell 2 rfl, Y6.cell 0 rfl, Y6.cell 1 rfl, Y6.cell 2 rfl, B6⟩ (fun _ => ?_)
        clear hK K
        try simp only [Act.put, List.setIfInBounds_toArray, List.set_cons_zero, List.set_cons_succ]
        refine wpAnyH_ready (rs := [4]) (by kernel_rfl) (by simp) ?_
        refine AllReadyH.cons (o := { dst := some 71, op := Op.call { callee := Callee.value (Operand.func 27), args := #[Operand.tmp 67, Operand.tmp 70], argTypes := #[27, 9] }, type := 39, pos := _, after := #[{ on := 0, ground := Ground.data }, { on := 3, ground := Ground.data }], guard := none }) rfl (fun K hK => ?_) AllReadyH.nil
        rw [if_pos (by kernel_rfl)]
        go_simp
        go_at_call 27
        refine (hB _).mono ?_
        rintro e w6 ⟨rfl, hb6⟩
        have X7 := X6.all hb6
        have Y7 := Y6.all hb6
        have Z7 := Z6.all hb6
        have B7 := B6.trans (hb6.mono B6.size)
        have f0 := Z7.free 0; have f1 := Z7.free 1; have f2 := Z7.free 2
        have z0 := Z7.cell 0 rfl; have z1 := Z7.cell 1 rfl; have z2 := Z7.cell 2 rfl
        have zl7 := Z7.lt
        go_wp2_with fail
        refine hK.out _ _ ⟨X7.cell 0 rfl, X7.cell 1 rfl, X7.cell 2 rfl, Y7.cell 0 rfl, Y7.cell 1 rfl, Y7.cell 2 rfl, B7⟩ (fun _ => ?_)
        clear hK K
        try simp only [Act.put, List.setIfInBounds_toArray, List.set_cons_zero, List.set_cons_succ]
        refine wpAnyH_take (i := 5) (oi := { dst := some 66, op := Op.move (Operand.tmp 71), type := 39, pos := _, after := #[{ on := 4, ground := Ground.data }], guard := none }) (v := ?_) rfl (by kernel_rfl) (by kernel_rfl) (by kernel_rfl) (fun _ _ _ h => h) (Or.inl ⟨by kernel_rfl, ?_⟩) (by assumption) ?_
        rotate_left
        · intro w hSw; obtain ⟨z0, z1, z2, z3, z4, z5, _⟩ := hSw; go_simp; first | done | (with_reducible rfl)
        try simp only [Act.put, List.setIfInBounds_toArray, List.set_cons_zero, List.set_cons_succ]
        refine wpAnyH_take (i := 6) (oi := { dst := some 72, op := Op.extract (Operand.tmp 66) 0, type := 27, pos := _, after := #[{ on := 5, ground := Ground.data }], guard := none }) (v := ?_) rfl (by kernel_rfl) (by kernel_rfl) (by kernel_rfl) (fun _ _ _ h => h) (Or.inl ⟨by kernel_rfl, ?_⟩) (by assumption) ?_
        rotate_left
        · intro w hSw; obtain ⟨z0, z1, z2, z3, z4, z5, _⟩ := hSw; go_simp; first | done | (with_reducible rfl)
        try simp only [Act.put, List.setIfInBounds_toArray, List.set_cons_zero, List.set_cons_succ]
        refine wpAnyH_take (i := 7) (oi := { dst := some 73, op := Op.extract (Operand.tmp 66) 1, type := 3, pos := _, after := #[{ on := 5, ground := Ground.data }, { on := 9, ground := Ground.gcOnly Departure.lateStores }], guard := none }) (v := ?_) rfl (by kernel_rfl) (by kernel_rfl) (by kernel_rfl) (fun _ _ _ h => h) (Or.inl ⟨by kernel_rfl, ?_⟩) (by assumption) ?_
        rotate_left
        · intro w hSw; obtain ⟨z0, z1, z2, z3, z4, z5, _⟩ := hSw; go_simp; first | done | (with_reducible rfl)
        try simp only [Act.put, List.setIfInBounds_toArray, List.set_cons_zero, List.set_cons_succ]
        refine wpAnyH_ready (rs := [9]) (by kernel_rfl) (by simp) ?_
        refine AllReadyH.cons (o := { dst := none, op := Op.store 27 (Operand.tmp 11) (Operand.tmp 72), type := 0, pos := _, after := #[{ on := 8, ground := Ground.data }, { on := 6, ground := Ground.data }, { on := 4, ground := Ground.chain }, { on := 0, ground := Ground.phase }, { on := 1, ground := Ground.phase }, { on := 2, ground := Ground.phase }, { on := 3, ground := Ground.phase }, { on := 4, ground := Ground.phase }, { on := 5, ground := Ground.phase }, { on := 6, ground := Ground.phase }, { on := 7, ground := Ground.textOnly Departure.lateStores }, { on := 8, ground := Ground.phase }], guard := none }) rfl (fun K hK => ?_) AllReadyH.nil
        rw [if_pos (by kernel_rfl)]
        go_simp
        have X8 := ((X7.far (p := ⟨w5.heap.size + 1, 0, none⟩) (by simp; omega) (.int .i64 V)).far (p := ⟨w5.heap.size + 1, 1, none⟩) (by simp; omega) (.int .i64 M)).far (p := ⟨w5.heap.size + 1, 2, none⟩) (by simp; omega) (.int .i64 G)
        have Y8 := ((Y7.far (p := ⟨w5.heap.size + 1, 0, none⟩) (by simp; omega) (.int .i64 V)).far (p := ⟨w5.heap.size + 1, 1, none⟩) (by simp; omega) (.int .i64 M)).far (p := ⟨w5.heap.size + 1, 2, none⟩) (by simp; omega) (.int .i64 G)
        have Z8 := ((Z7.set_ 0 (.int .i64 V)).set_ 1 (.int .i64 M)).set_ 2 (.int .i64 G)
        have B8 := ((B7.setCell (p := ⟨w5.heap.size + 1, 0, none⟩) (by have := B5.size; simp; omega) (.int .i64 V)).setCell (p := ⟨w5.heap.size + 1, 1, none⟩) (by have := B5.size; simp; omega) (.int .i64 M)).setCell (p := ⟨w5.heap.size + 1, 2, none⟩) (by have := B5.size; simp; omega) (.int .i64 G)
        refine hK.out _ _ ⟨X8.cell 0 rfl, X8.cell 1 rfl, X8.cell 2 rfl, Y8.cell 0 rfl, Y8.cell 1 rfl, Y8.cell 2 rfl, B8⟩ (fun _ => ?_)
        clear hK K
        try simp only [Act.put, List.setIfInBounds_toArray, List.set_cons_zero, List.set_cons_succ]
        refine wpAnyH_take (i := 10) (oi := { dst := some 12, op := Op.assign (Operand.tmp 73), type := 3, pos := _, after := #[{ on := 7, ground := Ground.data }, { on := 9, ground := Ground.chain }, { on := 0, ground := Ground.phase }, { on := 1, ground := Ground.phase }, { on := 2, ground := Ground.phase }, { on := 3, ground := Ground.phase }, { on := 4, ground := Ground.phase }, { on := 5, ground := Ground.phase }, { on := 6, ground := Ground.phase }, { on := 7, ground := Ground.phase }, { on := 8, ground := Ground.phase }, { on := 9, ground := Ground.phase }], guard := none }) (v := ?_) rfl (by kernel_rfl) (by kernel_rfl) (by kernel_rfl) (fun _ _ _ h => h) (Or.inl ⟨by kernel_rfl, ?_⟩) (by assumption) ?_
        rotate_left
        · intro w hSw; obtain ⟨z0, z1, z2, z3, z4, z5, _⟩ := hSw; go_simp; first | done | (with_reducible rfl)
        try simp only [Act.put, List.setIfInBounds_toArray, List.set_cons_zero, List.set_cons_succ]
        refine wpAnyH_done (by kernel_rfl) ?_ _
        have zz0 := Z8.cell 0 rfl; have zz1 := Z8.cell 1 rfl; have zz2 := Z8.cell 2 rfl
        have yy0 := Y8.cell 0 rfl; have yy1 := Y8.cell 1 rfl; have yy2 := Y8.cell 2 rfl
        rcases hr with ⟨rfl, rfl⟩ | ⟨hr0, hrl, hr1⟩
        · go_wp2
          go_ret
          exact ⟨ret_bool (by first | rfl | (simp; done) | (simp; omega)), B8⟩
        · subst hr1
          have hr2 : ¬ r < 0 := by omega
          have hr3 : (0 : Int) ≤ r := hr0
          rw [bl_length] at hrl
          have hwr : wrap64 ((k : Int) + r) = (k : Int) + r := IntWalk.wrap64_in _ (by omega)
          have hwi : IntKind.i64.wrap ((k : Int) + r) = (k : Int) + r := IntWalk.i64_in _ (by omega)
          have hr4 : (0 : Int) ≤ (k : Int) + r := by omega
          go_wp2
          go_ret
          exact ⟨ret_bool (by first | rfl | (simp; done) | (simp; omega)), B8⟩
  · go_enter Try.func12, Try.ntmps12
    go_wp2_with (go_at_call 21; refine (c_big _ _ _ _).mono ?_; rintro e w' ⟨rfl, rfl⟩; rw [hbig])
    go_ret
    exact ⟨rfl, Below.refl _ _⟩
end Go.Proofs.Ytmhlljonlbiajaa
