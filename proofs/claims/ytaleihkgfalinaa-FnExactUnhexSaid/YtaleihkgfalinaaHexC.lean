/- Contracts of Hex and Unhex. Conditions: a bound on the string. -/
import Derived.Test.YtaleihkgfalinaaHex
import Derived.Test.YtaleihkgfalinaaNum
import Derived.Test.YtaleihkgfalinaaDrawB
import Derived.StillTailTactics
import Derived.Lib.Bytealg
import Derived.Deep.RegionHeld3
namespace Go.Proofs.Ytaleihkgfalinaa
open Go.RowKit Plain
set_option linter.unusedVariables false
set_option linter.unusedSimpArgs false
def digs : ByteArray := ⟨#[48, 49, 50, 51, 52, 53, 54, 55, 56, 57, 97, 98, 99, 100, 101, 102]⟩
theorem take_snoc' {l : List Nat} {i : Nat} (h : i < l.length) : l.take (i + 1) = l.take i ++ [l.getD i 0] := by
  rw [List.take_succ_eq_append_getElem h]; simp [List.getD, List.getElem?_eq_getElem h]
theorem hdig (x : Int) (i : Nat) (h : x = (i : Nat) ∧ i < 16) {hh} : (((⟨#[48, 49, 50, 51, 52, 53, 54, 55, 56, 57, 97, 98, 99, 100, 101, 102]⟩ : ByteArray)[x.toNat]'hh).toNat : Int) = (hexD i : Nat) := by
  obtain ⟨rfl, h⟩ := h
  simp only [Int.toNat_natCast]
  have : ∀ j : Fin 16, ((⟨#[48, 49, 50, 51, 52, 53, 54, 55, 56, 57, 97, 98, 99, 100, 101, 102]⟩ : ByteArray)[j.val]'(by have := j.isLt; show j.val < 16; exact this)).toNat = hexD j.val := by decide
  exact congrArg Int.ofNat (this ⟨i, h⟩)
theorem news2d {b : Nat} (w : World) (e : TypeId) (x y : Nat) (i k : Int) (hb : b = w.heap.size) (h : i = (x : Nat)) (h' : k = (y : Nat)) : ∀ j, j < 2 → (w.alloc (.cells #[.int .u8 i, .int .u8 k] e)).drew.cell? ⟨b, j, none⟩ = some (.int .u8 (([x, y] : List Nat).getD j 0 : Nat)) := news2 w e x y i k hb h h'
theorem wp_append_row2 {P : Program} {w : World} {o : Oper} {a : Act} {K : Act → World → Prop} {Q : Exit → Act → World → Prop} (s x : Operand) {g cap : Nat} {l : List Nat} {t e st : TypeId} (U : U8s P t e st)
    (ho : o.op = .call { callee := .builtin .append, args := #[s, x], argTypes := #[t, t] }) (h : RowAt w g cap l) (n : Nat) (hln : l.length = n) (hs : a.eval s = .slice (some ⟨g, 0, none⟩) n cap)
    (b m c : Nat) (news : List Nat) (hx : a.eval x = .slice (some ⟨b, 0, none⟩) m c) (hn : news.length = m) (hnews : ∀ j, j < m → w.cell? ⟨b, j, none⟩ = some (.int .u8 (news.getD j 0 : Nat))) (hlen : n + m ≤ 140737488355328)
    (hK : ∀ g' cap' w', RowAt w' g' cap' (l ++ news) → w.grownBy w' (some g) → (g' = g ∨ g' = w.heap.size) → K (a.put o.dst (.slice (some ⟨g', 0, none⟩) (n + m) cap')) w') : o.wp P a w K Q := by
  subst hln
  exact wp_append_row s x U ho h hs b m c news hx hn hnews hlen hK
theorem andMask4 {x : Nat} (hx : x < 256) : bits .and .u8 (x : Int) 15 = (x : Int) % 16 := by
  have h : ∀ y : Fin 256, bits .and .u8 ((y.val : Nat) : Int) 15 = ((y.val : Nat) : Int) % 16 := by decide +kernel
  exact h ⟨x, hx⟩
set_option maxRecDepth 20000 in
set_option maxHeartbeats 1000000 in
theorem cI_Hex (s : ByteArray) (hs : s.size ≤ 1048576) (w : World) : Calls Try.prog 7 #[.string s] w fun e w' => e = .returned (.string (bs (hexL (bl s)))) ∧ Below w.heap.size w w' := by
  have hmk : ∀ w : World, (Instr.makeSlice 26 (.int .i64 0) (.int .i64 (2 * (s.size : Int)))).run Try.prog w = .ok (.slice (some ⟨w.heap.size, 0, none⟩) 0 (2 * s.size)) (w.alloc (.cells (zeros (2 * s.size)) 5)) := fun w => by
    have h := run_make_row u8d 0 (2 * s.size) (Nat.zero_le _) (by omega) w
    rw [show ((2 * s.size : Nat) : Int) = 2 * (s.size : Int) by omega] at h
    exact h
  have hz := RowAt.made w 5 0 (2 * s.size) (Nat.zero_le _) (by unfold maxLen; omega)
  have HL := Lib.hid (bl_length s)
  go_enter Try.func7, Try.ntmps7
  go_wp2_with fail
  go_loopw [3, 11] (fun o c wr => ∃ (k g cap : Nat), k ≤ s.size ∧ o = .slice (some ⟨g, 0, none⟩) (2 * k) cap ∧ c = .int .i64 k ∧ RowAt wr g cap (hexL ((bl s).take k)) ∧ w.heap.size ≤ g ∧ Below w.heap.size w wr) (fun _ c _ => s.size - (intOf c).toNat)
  case atStart => exact ⟨0, w.heap.size, 2 * s.size, Nat.zero_le _, rfl, rfl, by simpa [hexL] using hz, Nat.le_refl _, (Below.refl _ _).alloc (Nat.le_refl _) _⟩
  case round =>
    obtain ⟨k, g, cap, hk, rfl, rfl, hrow, hg, hbel⟩ := hrel
    have hgl := hrow.lt
    have hln : (hexL ((bl s).take k)).length = 2 * k := by rw [hexL_length, List.length_take, HL.out]; omega
    have HLN := Lib.hid hln
    clear hln
    by_cases hlt : k < s.size
    · have hk0 : (0 : Int) ≤ (k : Int) := by omega
      have hk1 : (k : Int) < (s.size : Int) := by omega
      have hx : (s[k]).toNat < 256 := (s[k]).toNat_lt
      go_wp2_with fail
      have hq0 : (0 : Int) ≤ ((s[k]).toNat : Int) / 16 := by omega
      have hq1 : ((s[k]).toNat : Int) / 16 < 16 := by omega
      have hand : bits .and .u8 ((s[k]).toNat : Int) 15 = ((s[k]).toNat : Int) % 16 := by
        have := @andMask4 ((s[k]).toNat) hx
        exact this
      have hr0 : (0 : Int) ≤ ((s[k]).toNat : Int) % 16 := by omega
      have hr1 : ((s[k]).toNat : Int) % 16 < 16 := by omega
      refine wp_region_held_drew (S := fun w' => Below w.heap.size w w') (by kernel_rfl) (hbel.drew) (fun hHeld => ?_)
      refine wpAnyH_take (i := 0) (oi := { dst := some 14, op := Op.move (Operand.tmp 3), type := 26, pos := _, after := #[], guard := none }) (v := ?_) rfl (by kernel_rfl) (by kernel_rfl) (by kernel_rfl) (fun _ _ _ h => h) (Or.inl ⟨by kernel_rfl, ?_⟩) (by assumption) ?_
      rotate_left
      · intro w hSw; go_simp; first | done | (with_reducible rfl)
      try simp only [Act.put, List.setIfInBounds_toArray, List.set_cons_zero, List.set_cons_succ]
      refine wpAnyH_take (i := 1) (oi := { dst := some 15, op := Op.move (Operand.tmp 0), type := 9, pos := _, after := #[], guard := none }) (v := ?_) rfl (by kernel_rfl) (by kernel_rfl) (by kernel_rfl) (fun _ _ _ h => h) (Or.inl ⟨by kernel_rfl, ?_⟩) (by assumption) ?_
      rotate_left
      · intro w hSw; go_simp; first | done | (with_reducible rfl)
      try simp only [Act.put, List.setIfInBounds_toArray, List.set_cons_zero, List.set_cons_succ]
      refine wpAnyH_take (i := 2) (oi := { dst := some 16, op := Op.move (Operand.tmp 4), type := 3, pos := _, after := #[], guard := none }) (v := ?_) rfl (by kernel_rfl) (by kernel_rfl) (by kernel_rfl) (fun _ _ _ h => h) (Or.inl ⟨by kernel_rfl, ?_⟩) (by assumption) ?_
      rotate_left
      · intro w hSw; go_simp; first | done | (with_reducible rfl)
      try simp only [Act.put, List.setIfInBounds_toArray, List.set_cons_zero, List.set_cons_succ]
      refine wpAnyH_take (i := 3) (oi := { dst := some 17, op := Op.index 9 (Operand.tmp 15) (Operand.tmp 16), type := 5, pos := _, after := #[{ on := 1, ground := Ground.data }, { on := 2, ground := Ground.data }], guard := none }) (v := ?_) rfl (by kernel_rfl) (by kernel_rfl) (by kernel_rfl) (fun _ _ _ h => h) (Or.inl ⟨by kernel_rfl, ?_⟩) (by assumption) ?_
      rotate_left
      · intro w hSw; go_simp; first | done | (with_reducible rfl)
      try simp only [Act.put, List.setIfInBounds_toArray, List.set_cons_zero, List.set_cons_succ]
      refine wpAnyH_take (i := 4) (oi := { dst := some 18, op := Op.binOp BinOp.shr 5 (Operand.tmp 17) (Operand.const (Value.int IntKind.u64 4)) 30, type := 5, pos := _, after := #[{ on := 3, ground := Ground.data }], guard := none }) (v := ?_) rfl (by kernel_rfl) (by kernel_rfl) (by kernel_rfl) (fun _ _ _ h => h) (Or.inl ⟨by kernel_rfl, ?_⟩) (by assumption) ?_
      rotate_left
      · intro w hSw; go_simp; first | done | (with_reducible rfl)
      try simp only [Act.put, List.setIfInBounds_toArray, List.set_cons_zero, List.set_cons_succ]
      refine wpAnyH_take (i := 5) (oi := { dst := some 19, op := Op.index 9 (Operand.const (Value.string ⟨#[48, 49, 50, 51, 52, 53, 54, 55, 56, 57, 97, 98, 99, 100, 101, 102]⟩)) (Operand.tmp 18), type := 5, pos := _, after := #[{ on := 4, ground := Ground.data }], guard := none }) (v := ?_) rfl (by kernel_rfl) (by kernel_rfl) (by kernel_rfl) (fun _ _ _ h => h) (Or.inl ⟨by kernel_rfl, ?_⟩) (by assumption) ?_
      rotate_left
      · intro w hSw; go_simp; first | done | (with_reducible rfl)
      try simp only [Act.put, List.setIfInBounds_toArray, List.set_cons_zero, List.set_cons_succ]
      refine wpAnyH_take (i := 6) (oi := { dst := some 20, op := Op.move (Operand.tmp 0), type := 9, pos := _, after := #[], guard := none }) (v := ?_) rfl (by kernel_rfl) (by kernel_rfl) (by kernel_rfl) (fun _ _ _ h => h) (Or.inl ⟨by kernel_rfl, ?_⟩) (by assumption) ?_
      rotate_left
      · intro w hSw; go_simp; first | done | (with_reducible rfl)
      try simp only [Act.put, List.setIfInBounds_toArray, List.set_cons_zero, List.set_cons_succ]
      refine wpAnyH_take (i := 7) (oi := { dst := some 21, op := Op.move (Operand.tmp 4), type := 3, pos := _, after := #[], guard := none }) (v := ?_) rfl (by kernel_rfl) (by kernel_rfl) (by kernel_rfl) (fun _ _ _ h => h) (Or.inl ⟨by kernel_rfl, ?_⟩) (by assumption) ?_
      rotate_left
      · intro w hSw; go_simp; first | done | (with_reducible rfl)
      try simp only [Act.put, List.setIfInBounds_toArray, List.set_cons_zero, List.set_cons_succ]
      refine wpAnyH_take (i := 8) (oi := { dst := some 22, op := Op.index 9 (Operand.tmp 20) (Operand.tmp 21), type := 5, pos := _, after := #[{ on := 6, ground := Ground.data }, { on := 7, ground := Ground.data }], guard := none }) (v := ?_) rfl (by kernel_rfl) (by kernel_rfl) (by kernel_rfl) (fun _ _ _ h => h) (Or.inl ⟨by kernel_rfl, ?_⟩) (by assumption) ?_
      rotate_left
      · intro w hSw; go_simp; first | done | (with_reducible rfl)
      try simp only [Act.put, List.setIfInBounds_toArray, List.set_cons_zero, List.set_cons_succ]
      refine wpAnyH_take (i := 9) (oi := { dst := some 23, op := Op.binOp BinOp.and 5 (Operand.tmp 22) (Operand.const (Value.int IntKind.u8 15)) 5, type := 5, pos := _, after := #[{ on := 8, ground := Ground.data }], guard := none }) (v := ?_) rfl (by kernel_rfl) (by kernel_rfl) (by kernel_rfl) (fun _ _ _ h => h) (Or.inl ⟨by kernel_rfl, ?_⟩) (by assumption) ?_
      rotate_left
      · intro w hSw; go_simp; first | done | (with_reducible rfl)
      try simp only [Act.put, List.setIfInBounds_toArray, List.set_cons_zero, List.set_cons_succ]
      refine wpAnyH_take (i := 10) (oi := { dst := some 24, op := Op.index 9 (Operand.const (Value.string ⟨#[48, 49, 50, 51, 52, 53, 54, 55, 56, 57, 97, 98, 99, 100, 101, 102]⟩)) (Operand.tmp 23), type := 5, pos := _, after := #[{ on := 9, ground := Ground.data }], guard := none }) (v := ?_) rfl (by kernel_rfl) (by kernel_rfl) (by kernel_rfl) (fun _ _ _ h => h) (Or.inl ⟨by kernel_rfl, ?_⟩) (by assumption) ?_
      rotate_left
      · intro w hSw; go_simp; first | done | (with_reducible rfl)
      try simp only [Act.put, List.setIfInBounds_toArray, List.set_cons_zero, List.set_cons_succ]
      refine wpAnyH_ready (rs := [11]) (by kernel_rfl) (by simp) ?_
      refine AllReadyH.cons (o := { dst := some 25, op := Op.buildSlice 26 2 #[(0, Operand.tmp 19), (1, Operand.tmp 24)], type := 26, pos := _, after := #[{ on := 5, ground := Ground.data }, { on := 10, ground := Ground.data }], guard := none }) rfl (fun K hK => ?_) AllReadyH.nil
      rw [if_pos (by kernel_rfl)]
      go_simp
      refine hK.out _ _ ((hbel.alloc hbel.size _).drew) (fun hHeld2 => ?_)
      clear hK K
      try simp only [Act.put, List.setIfInBounds_toArray, List.set_cons_zero, List.set_cons_succ]
      refine wpAnyH_ready (rs := [12]) (by kernel_rfl) (by simp) ?_
      refine AllReadyH.cons (o := { dst := some 26, op := Op.call { callee := Callee.builtin Builtin.append, args := #[Operand.tmp 14, Operand.tmp 25], argTypes := #[26, 26] }, type := 26, pos := _, after := #[{ on := 0, ground := Ground.data }, { on := 11, ground := Ground.data }], guard := none }) rfl (fun K hK => ?_) AllReadyH.nil
      rw [if_pos (by kernel_rfl)]
      refine wp_append_row2 _ _ u8d rfl ((hrow.alloc _).drew) (2 * k) HLN.out rfl _ 2 2 [hexD ((s[k]).toNat / 16), hexD ((s[k]).toNat % 16)] rfl rfl (news2d wr _ _ _ _ _ rfl (hdig _ _ (by omega)) (hdig _ _ (by omega))) (by omega) ?_
      intro g' cap' w1 hrow1 hgr1 hg1
      refine hK.out _ _ ((hbel.alloc hbel.size _).drew.grown hgr1 (by have := hbel.size; simp; omega) (by intro k hk; cases hk; exact hg)) (fun hHeld3 => ?_)
      clear hK K
      try simp only [Act.put, List.setIfInBounds_toArray, List.set_cons_zero, List.set_cons_succ]
      refine wpAnyH_take (i := 13) (oi := { dst := some 3, op := Op.assign (Operand.tmp 26), type := 26, pos := _, after := #[{ on := 12, ground := Ground.data }, { on := 12, ground := Ground.chain }, { on := 0, ground := Ground.phase }, { on := 1, ground := Ground.phase }, { on := 2, ground := Ground.phase }, { on := 3, ground := Ground.phase }, { on := 4, ground := Ground.phase }, { on := 5, ground := Ground.phase }, { on := 6, ground := Ground.phase }, { on := 7, ground := Ground.phase }, { on := 8, ground := Ground.phase }, { on := 9, ground := Ground.phase }, { on := 10, ground := Ground.phase }, { on := 11, ground := Ground.phase }, { on := 12, ground := Ground.phase }], guard := none }) (v := ?_) rfl (by kernel_rfl) (by kernel_rfl) (by kernel_rfl) (fun _ _ _ h => h) (Or.inl ⟨by kernel_rfl, ?_⟩) (by assumption) ?_
      rotate_left
      · intro w hSw; go_simp; first | done | (with_reducible rfl)
      try simp only [Act.put, List.setIfInBounds_toArray, List.set_cons_zero, List.set_cons_succ]
      refine wpAnyH_done (by kernel_rfl) ?_ _
      have HS := Lib.hid ((congrArg hexL (take_snoc' (l := bl s) (i := k) (by rw [HL.out]; exact hlt))).trans (hexL_snoc _ _))
      have HG := Lib.hid (bl_get s k hlt)
      go_wp2
      go_roundw
      case rel => exact ⟨k + 1, g', cap', by omega, by first | rfl | (simp; omega), by go_num, by rw [HS.out, HG.out]; exact hrow1, by rcases hg1 with h | h <;> (try simp at h) <;> have := hbel.size <;> omega, hHeld3⟩
      case measure => simp [intOf]; omega
    · obtain rfl : k = s.size := by omega
      have hconv := run_string_of_row' u8d hrow _ HLN.out
      go_wp2
      go_ret
      exact ⟨by rw [List.take_of_length_le (by rw [HL.out]; exact Nat.le_refl _)]; rfl, hbel⟩
end Go.Proofs.Ytaleihkgfalinaa
