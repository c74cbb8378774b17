/- Contracts of ViolationText, and the walk of the exact law over it. Conditions: integers fit their kinds; the library's table of powers stands in memory. -/
import Derived.Test.YtecmeomcgnjapaaDoorDig
import Derived.Deep.RegionHeld3
namespace Go.Proofs.YtecmeomcgnjapaaDoor
open Go.RowKit
set_option linter.unusedVariables false
set_option linter.unusedSimpArgs false
def vword (c : Int) : ByteArray :=
  if c = 0 then ⟨#[111, 107]⟩ else if c = 1 then ⟨#[109, 115, 103, 115]⟩ else if c = 2 then ⟨#[105, 100]⟩ else if c = 3 then ⟨#[116, 119, 105, 99, 101]⟩ else if c = 4 then ⟨#[102, 105, 101, 108, 100, 115]⟩ else if c = 5 then ⟨#[110, 117, 109, 98, 101, 114]⟩ else if c = 6 then ⟨#[115, 97, 109, 101]⟩ else if c = 7 then ⟨#[107, 105, 110, 100]⟩ else if c = 8 then ⟨#[112, 97, 99, 107, 101, 100]⟩ else if c = 9 then ⟨#[114, 101, 102]⟩ else ⟨#[63]⟩
def sp : ByteArray := ⟨#[32]⟩
def vtx (c m f : Int) : ByteArray := if c = 0 then ⟨#[111, 107]⟩ else vword c ++ sp ++ tx (Lib.itoa m) ++ sp ++ tx (Lib.itoa f)
theorem itoa_size (n : Int) (h0 : -9223372036854775808 ≤ n) (h1 : n ≤ 9223372036854775807) : (tx (Lib.itoa n)).size ≤ 21 := by
  have e : (tx (Lib.itoa n)).size = (Lib.itoa n).length := by show (Lib.itoa n).toArray.size = _; simp
  rw [e]
  unfold Lib.itoa
  split
  · have := decDigits_le n.natAbs 19 (by omega)
    simp; omega
  · have := decDigits_le n.toNat 19 (by omega)
    omega
theorem ixV0 (w : World) : (Instr.index 57 (.agg #[.string ⟨#[111, 107]⟩, .string ⟨#[109, 115, 103, 115]⟩, .string ⟨#[105, 100]⟩, .string ⟨#[116, 119, 105, 99, 101]⟩, .string ⟨#[102, 105, 101, 108, 100, 115]⟩, .string ⟨#[110, 117, 109, 98, 101, 114]⟩, .string ⟨#[115, 97, 109, 101]⟩, .string ⟨#[107, 105, 110, 100]⟩, .string ⟨#[112, 97, 99, 107, 101, 100]⟩, .string ⟨#[114, 101, 102]⟩]) (.int .i64 0)).run Tryd.prog w = .ok (.string ⟨#[111, 107]⟩) w := by kernel_rfl
theorem ixV1 (w : World) : (Instr.index 57 (.agg #[.string ⟨#[111, 107]⟩, .string ⟨#[109, 115, 103, 115]⟩, .string ⟨#[105, 100]⟩, .string ⟨#[116, 119, 105, 99, 101]⟩, .string ⟨#[102, 105, 101, 108, 100, 115]⟩, .string ⟨#[110, 117, 109, 98, 101, 114]⟩, .string ⟨#[115, 97, 109, 101]⟩, .string ⟨#[107, 105, 110, 100]⟩, .string ⟨#[112, 97, 99, 107, 101, 100]⟩, .string ⟨#[114, 101, 102]⟩]) (.int .i64 1)).run Tryd.prog w = .ok (.string ⟨#[109, 115, 103, 115]⟩) w := by kernel_rfl
theorem ixV2 (w : World) : (Instr.index 57 (.agg #[.string ⟨#[111, 107]⟩, .string ⟨#[109, 115, 103, 115]⟩, .string ⟨#[105, 100]⟩, .string ⟨#[116, 119, 105, 99, 101]⟩, .string ⟨#[102, 105, 101, 108, 100, 115]⟩, .string ⟨#[110, 117, 109, 98, 101, 114]⟩, .string ⟨#[115, 97, 109, 101]⟩, .string ⟨#[107, 105, 110, 100]⟩, .string ⟨#[112, 97, 99, 107, 101, 100]⟩, .string ⟨#[114, 101, 102]⟩]) (.int .i64 2)).run Tryd.prog w = .ok (.string ⟨#[105, 100]⟩) w := by kernel_rfl
theorem ixV3 (w : World) : (Instr.index 57 (.agg #[.string ⟨#[111, 107]⟩, .string ⟨#[109, 115, 103, 115]⟩, .string ⟨#[105, 100]⟩, .string ⟨#[116, 119, 105, 99, 101]⟩, .string ⟨#[102, 105, 101, 108, 100, 115]⟩, .string ⟨#[110, 117, 109, 98, 101, 114]⟩, .string ⟨#[115, 97, 109, 101]⟩, .string ⟨#[107, 105, 110, 100]⟩, .string ⟨#[112, 97, 99, 107, 101, 100]⟩, .string ⟨#[114, 101, 102]⟩]) (.int .i64 3)).run Tryd.prog w = .ok (.string ⟨#[116, 119, 105, 99, 101]⟩) w := by kernel_rfl
theorem ixV4 (w : World) : (Instr.index 57 (.agg #[.string ⟨#[111, 107]⟩, .string ⟨#[109, 115, 103, 115]⟩, .string ⟨#[105, 100]⟩, .string ⟨#[116, 119, 105, 99, 101]⟩, .string ⟨#[102, 105, 101, 108, 100, 115]⟩, .string ⟨#[110, 117, 109, 98, 101, 114]⟩, .string ⟨#[115, 97, 109, 101]⟩, .string ⟨#[107, 105, 110, 100]⟩, .string ⟨#[112, 97, 99, 107, 101, 100]⟩, .string ⟨#[114, 101, 102]⟩]) (.int .i64 4)).run Tryd.prog w = .ok (.string ⟨#[102, 105, 101, 108, 100, 115]⟩) w := by kernel_rfl
theorem ixV5 (w : World) : (Instr.index 57 (.agg #[.string ⟨#[111, 107]⟩, .string ⟨#[109, 115, 103, 115]⟩, .string ⟨#[105, 100]⟩, .string ⟨#[116, 119, 105, 99, 101]⟩, .string ⟨#[102, 105, 101, 108, 100, 115]⟩, .string ⟨#[110, 117, 109, 98, 101, 114]⟩, .string ⟨#[115, 97, 109, 101]⟩, .string ⟨#[107, 105, 110, 100]⟩, .string ⟨#[112, 97, 99, 107, 101, 100]⟩, .string ⟨#[114, 101, 102]⟩]) (.int .i64 5)).run Tryd.prog w = .ok (.string ⟨#[110, 117, 109, 98, 101, 114]⟩) w := by kernel_rfl
theorem ixV6 (w : World) : (Instr.index 57 (.agg #[.string ⟨#[111, 107]⟩, .string ⟨#[109, 115, 103, 115]⟩, .string ⟨#[105, 100]⟩, .string ⟨#[116, 119, 105, 99, 101]⟩, .string ⟨#[102, 105, 101, 108, 100, 115]⟩, .string ⟨#[110, 117, 109, 98, 101, 114]⟩, .string ⟨#[115, 97, 109, 101]⟩, .string ⟨#[107, 105, 110, 100]⟩, .string ⟨#[112, 97, 99, 107, 101, 100]⟩, .string ⟨#[114, 101, 102]⟩]) (.int .i64 6)).run Tryd.prog w = .ok (.string ⟨#[115, 97, 109, 101]⟩) w := by kernel_rfl
theorem ixV7 (w : World) : (Instr.index 57 (.agg #[.string ⟨#[111, 107]⟩, .string ⟨#[109, 115, 103, 115]⟩, .string ⟨#[105, 100]⟩, .string ⟨#[116, 119, 105, 99, 101]⟩, .string ⟨#[102, 105, 101, 108, 100, 115]⟩, .string ⟨#[110, 117, 109, 98, 101, 114]⟩, .string ⟨#[115, 97, 109, 101]⟩, .string ⟨#[107, 105, 110, 100]⟩, .string ⟨#[112, 97, 99, 107, 101, 100]⟩, .string ⟨#[114, 101, 102]⟩]) (.int .i64 7)).run Tryd.prog w = .ok (.string ⟨#[107, 105, 110, 100]⟩) w := by kernel_rfl
theorem ixV8 (w : World) : (Instr.index 57 (.agg #[.string ⟨#[111, 107]⟩, .string ⟨#[109, 115, 103, 115]⟩, .string ⟨#[105, 100]⟩, .string ⟨#[116, 119, 105, 99, 101]⟩, .string ⟨#[102, 105, 101, 108, 100, 115]⟩, .string ⟨#[110, 117, 109, 98, 101, 114]⟩, .string ⟨#[115, 97, 109, 101]⟩, .string ⟨#[107, 105, 110, 100]⟩, .string ⟨#[112, 97, 99, 107, 101, 100]⟩, .string ⟨#[114, 101, 102]⟩]) (.int .i64 8)).run Tryd.prog w = .ok (.string ⟨#[112, 97, 99, 107, 101, 100]⟩) w := by kernel_rfl
theorem ixV9 (w : World) : (Instr.index 57 (.agg #[.string ⟨#[111, 107]⟩, .string ⟨#[109, 115, 103, 115]⟩, .string ⟨#[105, 100]⟩, .string ⟨#[116, 119, 105, 99, 101]⟩, .string ⟨#[102, 105, 101, 108, 100, 115]⟩, .string ⟨#[110, 117, 109, 98, 101, 114]⟩, .string ⟨#[115, 97, 109, 101]⟩, .string ⟨#[107, 105, 110, 100]⟩, .string ⟨#[112, 97, 99, 107, 101, 100]⟩, .string ⟨#[114, 101, 102]⟩]) (.int .i64 9)).run Tryd.prog w = .ok (.string ⟨#[114, 101, 102]⟩) w := by kernel_rfl
theorem v_cases (c : Int) : (c = 0 ∧ inB 0 0 9 = true) ∨ (c = 1 ∧ inB 1 0 9 = true ∧ vword 1 = ⟨#[109, 115, 103, 115]⟩) ∨ (c = 2 ∧ inB 2 0 9 = true ∧ vword 2 = ⟨#[105, 100]⟩) ∨ (c = 3 ∧ inB 3 0 9 = true ∧ vword 3 = ⟨#[116, 119, 105, 99, 101]⟩) ∨ (c = 4 ∧ inB 4 0 9 = true ∧ vword 4 = ⟨#[102, 105, 101, 108, 100, 115]⟩) ∨ (c = 5 ∧ inB 5 0 9 = true ∧ vword 5 = ⟨#[110, 117, 109, 98, 101, 114]⟩) ∨ (c = 6 ∧ inB 6 0 9 = true ∧ vword 6 = ⟨#[115, 97, 109, 101]⟩) ∨ (c = 7 ∧ inB 7 0 9 = true ∧ vword 7 = ⟨#[107, 105, 110, 100]⟩) ∨ (c = 8 ∧ inB 8 0 9 = true ∧ vword 8 = ⟨#[112, 97, 99, 107, 101, 100]⟩) ∨ (c = 9 ∧ inB 9 0 9 = true ∧ vword 9 = ⟨#[114, 101, 102]⟩) ∨ (inB c 0 9 = false ∧ (c == 0) = false ∧ c ≠ 0 ∧ vword c = ⟨#[63]⟩) := by
  by_cases h : 0 ≤ c ∧ c ≤ 9
  · have : c = 0 ∨ c = 1 ∨ c = 2 ∨ c = 3 ∨ c = 4 ∨ c = 5 ∨ c = 6 ∨ c = 7 ∨ c = 8 ∨ c = 9 := by omega
    rcases this with rfl | rfl | rfl | rfl | rfl | rfl | rfl | rfl | rfl | rfl
    · exact .inl ⟨rfl, by decide⟩
    · exact .inr (.inl ⟨rfl, by decide, rfl⟩)
    · exact .inr (.inr (.inl ⟨rfl, by decide, rfl⟩))
    · exact .inr (.inr (.inr (.inl ⟨rfl, by decide, rfl⟩)))
    · exact .inr (.inr (.inr (.inr (.inl ⟨rfl, by decide, rfl⟩))))
    · exact .inr (.inr (.inr (.inr (.inr (.inl ⟨rfl, by decide, rfl⟩)))))
    · exact .inr (.inr (.inr (.inr (.inr (.inr (.inl ⟨rfl, by decide, rfl⟩))))))
    · exact .inr (.inr (.inr (.inr (.inr (.inr (.inr (.inl ⟨rfl, by decide, rfl⟩)))))))
    · exact .inr (.inr (.inr (.inr (.inr (.inr (.inr (.inr (.inl ⟨rfl, by decide, rfl⟩))))))))
    · exact .inr (.inr (.inr (.inr (.inr (.inr (.inr (.inr (.inr (.inl ⟨rfl, by decide, rfl⟩)))))))))
  · refine .inr (.inr (.inr (.inr (.inr (.inr (.inr (.inr (.inr (.inr ⟨inB_mk_no (by omega), by rw [beq_eq_false_iff_ne]; omega, by omega, ?_⟩)))))))))
    unfold vword
    repeat rw [if_neg (by omega)]
set_option maxRecDepth 20000 in
set_option maxHeartbeats 4000000 in
theorem cI_ViolationText (c m f : Int) (w : World) (m0 : -9223372036854775808 ≤ m) (m1 : m ≤ 9223372036854775807) (f0 : -9223372036854775808 ≤ f) (f1 : f ≤ 9223372036854775807) (hp : Pow w) :
    Calls Tryd.prog 23 #[.agg #[.int .i64 c, .int .i64 m, .int .i64 f]] w fun e w' => e = .returned (.string (vtx c m f)) ∧ Below w.heap.size w w' := by
  have hA := itoa_size m m0 m1
  have hB := itoa_size f f0 f1
  have hD1 := fun (w : World) (h : Pow w) => c_Itoa m w m0 m1 h
  have hD2 := fun (w : World) (h : Pow w) => c_Itoa f w f0 f1 h
  unfold vtx
  generalize tx (Lib.itoa m) = A at hA hD1 ⊢
  generalize tx (Lib.itoa f) = B at hB hD2 ⊢
  have ix0 := ixV0
  have ix1 := ixV1
  have ix2 := ixV2
  have ix3 := ixV3
  have ix4 := ixV4
  have ix5 := ixV5
  have ix6 := ixV6
  have ix7 := ixV7
  have ix8 := ixV8
  have ix9 := ixV9
  rcases v_cases c with ⟨rfl, h1⟩ | ⟨rfl, h1, h2⟩ | ⟨rfl, h1, h2⟩ | ⟨rfl, h1, h2⟩ | ⟨rfl, h1, h2⟩ | ⟨rfl, h1, h2⟩ | ⟨rfl, h1, h2⟩ | ⟨rfl, h1, h2⟩ | ⟨rfl, h1, h2⟩ | ⟨rfl, h1, h2⟩ | ⟨h1, h2, h3, h4⟩
  · rw [if_pos rfl]
    go_enter Tryd.func23, Tryd.ntmps23
    go_wp2_with (go_at_call 30; refine (cI_within _ _ _ _).mono ?_; rintro e w' ⟨rfl, rfl⟩)
    go_ret
    exact ⟨rfl, by repeat (first | exact Below.refl _ _ | refine Below.alloc ?_ (by simp; omega) _ | refine Below.alloc ?_ (by simp) _)⟩
  · rw [if_neg (by decide), h2]
    have HV : Hid (Ending.returned (.string ((⟨#[109, 115, 103, 115]⟩ : ByteArray) ++ ⟨#[32]⟩ ++ A ++ ⟨#[32]⟩ ++ B)) = Ending.returned (.string ((⟨#[109, 115, 103, 115]⟩ : ByteArray) ++ sp ++ A ++ sp ++ B))) := Lib.hid rfl
    go_enter Tryd.func23, Tryd.ntmps23
    go_wp2_with (go_at_call 30; refine (cI_within _ _ _ _).mono ?_; rintro e w' ⟨rfl, rfl⟩)
    have XZ := (Box.new w 39 #[.int .i64 1, .int .i64 m, .int .i64 f])
    have BZ := ((Below.refl w.heap.size w).alloc (Nat.le_refl _) (.cells #[.int .i64 1, .int .i64 m, .int .i64 f] 39))
    refine wp_region_held_drew (S := fun w' => w'.cell? ⟨w.heap.size, 0, none⟩ = some (.int .i64 1) ∧ w'.cell? ⟨w.heap.size, 1, none⟩ = some (.int .i64 m) ∧ w'.cell? ⟨w.heap.size, 2, none⟩ = some (.int .i64 f) ∧ Below w.heap.size w w') (by kernel_rfl) (⟨XZ.drew.cell 0 rfl, XZ.drew.cell 1 rfl, XZ.drew.cell 2 rfl, BZ.drew⟩) (fun hHeld => ?_)
    refine wpAnyH_take (i := 0) (oi := { dst := some 15, op := Op.move (Operand.tmp 3), type := 9, pos := _, after := #[], guard := none }) (v := ?_) rfl (by kernel_rfl) (by kernel_rfl) (by kernel_rfl) (fun _ _ _ h => h) (Or.inl ⟨by kernel_rfl, ?_⟩) (by assumption) ?_
    rotate_left
    · intro w hSw; obtain ⟨z0, z1, z2, _⟩ := hSw; go_simp; first | done | (with_reducible rfl) | (rw [if_neg (by omega)])
    try simp only [Act.put, List.setIfInBounds_toArray, List.set_cons_zero, List.set_cons_succ]
    refine wpAnyH_take (i := 1) (oi := { dst := some 16, op := Op.binOp BinOp.add 9 (Operand.tmp 15) (Operand.const (Value.string ⟨#[32]⟩)) 9, type := 9, pos := _, after := #[{ on := 0, ground := Ground.data }], guard := none }) (v := ?_) rfl (by kernel_rfl) (by kernel_rfl) (by kernel_rfl) (fun _ _ _ h => h) (Or.inl ⟨by kernel_rfl, ?_⟩) (by assumption) ?_
    rotate_left
    · intro w hSw; obtain ⟨z0, z1, z2, _⟩ := hSw; go_simp; first | done | (with_reducible rfl) | (rw [if_neg (by omega)])
    try simp only [Act.put, List.setIfInBounds_toArray, List.set_cons_zero, List.set_cons_succ]
    refine wpAnyH_take (i := 2) (oi := { dst := some 17, op := Op.fieldAddr 39 (Operand.tmp 1) 1, type := 0, pos := _, after := #[], guard := none }) (v := ?_) rfl (by kernel_rfl) (by kernel_rfl) (by kernel_rfl) (fun _ _ _ h => h) (Or.inl ⟨by kernel_rfl, ?_⟩) (by assumption) ?_
    rotate_left
    · intro w hSw; obtain ⟨z0, z1, z2, _⟩ := hSw; go_simp; first | done | (with_reducible rfl) | (rw [if_neg (by omega)])
    try simp only [Act.put, List.setIfInBounds_toArray, List.set_cons_zero, List.set_cons_succ]
    refine wpAnyH_take (i := 3) (oi := { dst := some 18, op := Op.load 3 (Operand.tmp 17), type := 3, pos := _, after := #[{ on := 2, ground := Ground.data }], guard := none }) (v := ?_) rfl (by kernel_rfl) (by kernel_rfl) (by kernel_rfl) (fun _ _ _ h => h) (Or.inl ⟨by kernel_rfl, ?_⟩) (by assumption) ?_
    rotate_left
    · intro w hSw; obtain ⟨z0, z1, z2, _⟩ := hSw; go_simp; first | done | (with_reducible rfl) | (rw [if_neg (by omega)])
    try simp only [Act.put, List.setIfInBounds_toArray, List.set_cons_zero, List.set_cons_succ]
    refine wpAnyH_take (i := 7) (oi := { dst := some 22, op := Op.fieldAddr 39 (Operand.tmp 1) 2, type := 0, pos := _, after := #[], guard := none }) (v := ?_) rfl (by kernel_rfl) (by kernel_rfl) (by kernel_rfl) (fun _ _ _ h => h) (Or.inl ⟨by kernel_rfl, ?_⟩) (by assumption) ?_
    rotate_left
    · intro w hSw; obtain ⟨z0, z1, z2, _⟩ := hSw; go_simp; first | done | (with_reducible rfl) | (rw [if_neg (by omega)])
    try simp only [Act.put, List.setIfInBounds_toArray, List.set_cons_zero, List.set_cons_succ]
    refine wpAnyH_take (i := 8) (oi := { dst := some 23, op := Op.load 3 (Operand.tmp 22), type := 3, pos := _, after := #[{ on := 7, ground := Ground.data }], guard := none }) (v := ?_) rfl (by kernel_rfl) (by kernel_rfl) (by kernel_rfl) (fun _ _ _ h => h) (Or.inl ⟨by kernel_rfl, ?_⟩) (by assumption) ?_
    rotate_left
    · intro w hSw; obtain ⟨z0, z1, z2, _⟩ := hSw; go_simp; first | done | (with_reducible rfl) | (rw [if_neg (by omega)])
    try simp only [Act.put, List.setIfInBounds_toArray, List.set_cons_zero, List.set_cons_succ]
    refine wpAnyH_ready (rs := [4]) (by kernel_rfl) (by simp) ?_
    refine AllReadyH.cons (o := { dst := some 19, op := Op.call { callee := Callee.value (Operand.func 13), args := #[Operand.tmp 18], argTypes := #[3] }, type := 9, pos := _, after := #[{ on := 3, ground := Ground.data }], guard := none }) rfl (fun K hK => ?_) AllReadyH.nil
    rw [if_pos (by kernel_rfl)]
    go_simp
    go_at_call 13
    refine (hD1 _ (hp.below BZ.drew)).mono ?_
    rintro e w1 ⟨rfl, hb1⟩
    have X1 := XZ.drew.all hb1
    have B1 := BZ.drew.trans (hb1.mono BZ.size)
    go_wp2_with fail
    refine hK.out _ _ ⟨X1.cell 0 rfl, X1.cell 1 rfl, X1.cell 2 rfl, B1⟩ (fun hHeld2 => ?_)
    clear hK K
    try simp only [Act.put, List.setIfInBounds_toArray, List.set_cons_zero, List.set_cons_succ]
    refine wpAnyH_take (i := 5) (oi := { dst := some 20, op := Op.binOp BinOp.add 9 (Operand.tmp 16) (Operand.tmp 19) 9, type := 9, pos := _, after := #[{ on := 1, ground := Ground.data }, { on := 4, ground := Ground.data }], guard := none }) (v := ?_) rfl (by kernel_rfl) (by kernel_rfl) (by kernel_rfl) (fun _ _ _ h => h) (Or.inl ⟨by kernel_rfl, ?_⟩) (by assumption) ?_
    rotate_left
    · intro w hSw; obtain ⟨z0, z1, z2, _⟩ := hSw; go_simp; first | done | (with_reducible rfl) | (rw [if_neg (by omega)])
    try simp only [Act.put, List.setIfInBounds_toArray, List.set_cons_zero, List.set_cons_succ]
    refine wpAnyH_take (i := 6) (oi := { dst := some 21, op := Op.binOp BinOp.add 9 (Operand.tmp 20) (Operand.const (Value.string ⟨#[32]⟩)) 9, type := 9, pos := _, after := #[{ on := 5, ground := Ground.data }], guard := none }) (v := ?_) rfl (by kernel_rfl) (by kernel_rfl) (by kernel_rfl) (fun _ _ _ h => h) (Or.inl ⟨by kernel_rfl, ?_⟩) (by assumption) ?_
    rotate_left
    · intro w hSw; obtain ⟨z0, z1, z2, _⟩ := hSw; go_simp; first | done | (with_reducible rfl) | (rw [if_neg (by omega)])
    try simp only [Act.put, List.setIfInBounds_toArray, List.set_cons_zero, List.set_cons_succ]
    refine wpAnyH_ready (rs := [9]) (by kernel_rfl) (by simp) ?_
    refine AllReadyH.cons (o := { dst := some 24, op := Op.call { callee := Callee.value (Operand.func 13), args := #[Operand.tmp 23], argTypes := #[3] }, type := 9, pos := _, after := #[{ on := 8, ground := Ground.data }, { on := 4, ground := Ground.chain }], guard := none }) rfl (fun K hK => ?_) AllReadyH.nil
    rw [if_pos (by kernel_rfl)]
    go_simp
    go_at_call 13
    refine (hD2 _ (hp.below B1)).mono ?_
    rintro e w2 ⟨rfl, hb2⟩
    have X2 := X1.all hb2
    have B2 := B1.trans (hb2.mono B1.size)
    go_wp2_with fail
    refine hK.out _ _ ⟨X2.cell 0 rfl, X2.cell 1 rfl, X2.cell 2 rfl, B2⟩ (fun hHeld3 => ?_)
    clear hK K
    try simp only [Act.put, List.setIfInBounds_toArray, List.set_cons_zero, List.set_cons_succ]
    refine wpAnyH_take (i := 10) (oi := { dst := some 25, op := Op.binOp BinOp.add 9 (Operand.tmp 21) (Operand.tmp 24) 9, type := 9, pos := _, after := #[{ on := 6, ground := Ground.data }, { on := 9, ground := Ground.data }], guard := none }) (v := ?_) rfl (by kernel_rfl) (by kernel_rfl) (by kernel_rfl) (fun _ _ _ h => h) (Or.inl ⟨by kernel_rfl, ?_⟩) (by assumption) ?_
    rotate_left
    · intro w hSw; obtain ⟨z0, z1, z2, _⟩ := hSw; go_simp; first | done | (with_reducible rfl) | (rw [if_neg (by omega)])
    try simp only [Act.put, List.setIfInBounds_toArray, List.set_cons_zero, List.set_cons_succ]
    refine wpAnyH_take (i := 11) (oi := { dst := some 2, op := Op.assign (Operand.tmp 25), type := 9, pos := _, after := #[{ on := 10, ground := Ground.data }, { on := 9, ground := Ground.chain }, { on := 0, ground := Ground.phase }, { on := 1, ground := Ground.phase }, { on := 2, ground := Ground.phase }, { on := 3, ground := Ground.phase }, { on := 4, ground := Ground.phase }, { on := 5, ground := Ground.phase }, { on := 6, ground := Ground.phase }, { on := 7, ground := Ground.phase }, { on := 8, ground := Ground.phase }, { on := 9, ground := Ground.phase }, { on := 10, ground := Ground.phase }], guard := none }) (v := ?_) rfl (by kernel_rfl) (by kernel_rfl) (by kernel_rfl) (fun _ _ _ h => h) (Or.inl ⟨by kernel_rfl, ?_⟩) (by assumption) ?_
    rotate_left
    · intro w hSw; obtain ⟨z0, z1, z2, _⟩ := hSw; go_simp; first | done | (with_reducible rfl) | (rw [if_neg (by omega)])
    try simp only [Act.put, List.setIfInBounds_toArray, List.set_cons_zero, List.set_cons_succ]
    refine wpAnyH_done (by kernel_rfl) ?_ _
    go_wp2
    go_ret
    exact ⟨HV.out, B2⟩
  · rw [if_neg (by decide), h2]
    have HV : Hid (Ending.returned (.string ((⟨#[105, 100]⟩ : ByteArray) ++ ⟨#[32]⟩ ++ A ++ ⟨#[32]⟩ ++ B)) = Ending.returned (.string ((⟨#[105, 100]⟩ : ByteArray) ++ sp ++ A ++ sp ++ B))) := Lib.hid rfl
    go_enter Tryd.func23, Tryd.ntmps23
    go_wp2_with (go_at_call 30; refine (cI_within _ _ _ _).mono ?_; rintro e w' ⟨rfl, rfl⟩)
    have XZ := (Box.new w 39 #[.int .i64 2, .int .i64 m, .int .i64 f])
    have BZ := ((Below.refl w.heap.size w).alloc (Nat.le_refl _) (.cells #[.int .i64 2, .int .i64 m, .int .i64 f] 39))
    refine wp_region_held_drew (S := fun w' => w'.cell? ⟨w.heap.size, 0, none⟩ = some (.int .i64 2) ∧ w'.cell? ⟨w.heap.size, 1, none⟩ = some (.int .i64 m) ∧ w'.cell? ⟨w.heap.size, 2, none⟩ = some (.int .i64 f) ∧ Below w.heap.size w w') (by kernel_rfl) (⟨XZ.drew.cell 0 rfl, XZ.drew.cell 1 rfl, XZ.drew.cell 2 rfl, BZ.drew⟩) (fun hHeld => ?_)
    refine wpAnyH_take (i := 0) (oi := { dst := some 15, op := Op.move (Operand.tmp 3), type := 9, pos := _, after := #[], guard := none }) (v := ?_) rfl (by kernel_rfl) (by kernel_rfl) (by kernel_rfl) (fun _ _ _ h => h) (Or.inl ⟨by kernel_rfl, ?_⟩) (by assumption) ?_
    rotate_left
    · intro w hSw; obtain ⟨z0, z1, z2, _⟩ := hSw; go_simp; first | done | (with_reducible rfl) | (rw [if_neg (by omega)])
    try simp only [Act.put, List.setIfInBounds_toArray, List.set_cons_zero, List.set_cons_succ]
    refine wpAnyH_take (i := 1) (oi := { dst := some 16, op := Op.binOp BinOp.add 9 (Operand.tmp 15) (Operand.const (Value.string ⟨#[32]⟩)) 9, type := 9, pos := _, after := #[{ on := 0, ground := Ground.data }], guard := none }) (v := ?_) rfl (by kernel_rfl) (by kernel_rfl) (by kernel_rfl) (fun _ _ _ h => h) (Or.inl ⟨by kernel_rfl, ?_⟩) (by assumption) ?_
    rotate_left
    · intro w hSw; obtain ⟨z0, z1, z2, _⟩ := hSw; go_simp; first | done | (with_reducible rfl) | (rw [if_neg (by omega)])
    try simp only [Act.put, List.setIfInBounds_toArray, List.set_cons_zero, List.set_cons_succ]
    refine wpAnyH_take (i := 2) (oi := { dst := some 17, op := Op.fieldAddr 39 (Operand.tmp 1) 1, type := 0, pos := _, after := #[], guard := none }) (v := ?_) rfl (by kernel_rfl) (by kernel_rfl) (by kernel_rfl) (fun _ _ _ h => h) (Or.inl ⟨by kernel_rfl, ?_⟩) (by assumption) ?_
    rotate_left
    · intro w hSw; obtain ⟨z0, z1, z2, _⟩ := hSw; go_simp; first | done | (with_reducible rfl) | (rw [if_neg (by omega)])
    try simp only [Act.put, List.setIfInBounds_toArray, List.set_cons_zero, List.set_cons_succ]
    refine wpAnyH_take (i := 3) (oi := { dst := some 18, op := Op.load 3 (Operand.tmp 17), type := 3, pos := _, after := #[{ on := 2, ground := Ground.data }], guard := none }) (v := ?_) rfl (by kernel_rfl) (by kernel_rfl) (by kernel_rfl) (fun _ _ _ h => h) (Or.inl ⟨by kernel_rfl, ?_⟩) (by assumption) ?_
    rotate_left
    · intro w hSw; obtain ⟨z0, z1, z2, _⟩ := hSw; go_simp; first | done | (with_reducible rfl) | (rw [if_neg (by omega)])
    try simp only [Act.put, List.setIfInBounds_toArray, List.set_cons_zero, List.set_cons_succ]
    refine wpAnyH_take (i := 7) (oi := { dst := some 22, op := Op.fieldAddr 39 (Operand.tmp 1) 2, type := 0, pos := _, after := #[], guard := none }) (v := ?_) rfl (by kernel_rfl) (by kernel_rfl) (by kernel_rfl) (fun _ _ _ h => h) (Or.inl ⟨by kernel_rfl, ?_⟩) (by assumption) ?_
    rotate_left
    · intro w hSw; obtain ⟨z0, z1, z2, _⟩ := hSw; go_simp; first | done | (with_reducible rfl) | (rw [if_neg (by omega)])
    try simp only [Act.put, List.setIfInBounds_toArray, List.set_cons_zero, List.set_cons_succ]
    refine wpAnyH_take (i := 8) (oi := { dst := some 23, op := Op.load 3 (Operand.tmp 22), type := 3, pos := _, after := #[{ on := 7, ground := Ground.data }], guard := none }) (v := ?_) rfl (by kernel_rfl) (by kernel_rfl) (by kernel_rfl) (fun _ _ _ h => h) (Or.inl ⟨by kernel_rfl, ?_⟩) (by assumption) ?_
    rotate_left
    · intro w hSw; obtain ⟨z0, z1, z2, _⟩ := hSw; go_simp; first | done | (with_reducible rfl) | (rw [if_neg (by omega)])
    try simp only [Act.put, List.setIfInBounds_toArray, List.set_cons_zero, List.set_cons_succ]
    refine wpAnyH_ready (rs := [4]) (by kernel_rfl) (by simp) ?_
    refine AllReadyH.cons (o := { dst := some 19, op := Op.call { callee := Callee.value (Operand.func 13), args := #[Operand.tmp 18], argTypes := #[3] }, type := 9, pos := _, after := #[{ on := 3, ground := Ground.data }], guard := none }) rfl (fun K hK => ?_) AllReadyH.nil
    rw [if_pos (by kernel_rfl)]
    go_simp
    go_at_call 13
    refine (hD1 _ (hp.below BZ.drew)).mono ?_
    rintro e w1 ⟨rfl, hb1⟩
    have X1 := XZ.drew.all hb1
    have B1 := BZ.drew.trans (hb1.mono BZ.size)
    go_wp2_with fail
    refine hK.out _ _ ⟨X1.cell 0 rfl, X1.cell 1 rfl, X1.cell 2 rfl, B1⟩ (fun hHeld2 => ?_)
    clear hK K
    try simp only [Act.put, List.setIfInBounds_toArray, List.set_cons_zero, List.set_cons_succ]
    refine wpAnyH_take (i := 5) (oi := { dst := some 20, op := Op.binOp BinOp.add 9 (Operand.tmp 16) (Operand.tmp 19) 9, type := 9, pos := _, after := #[{ on := 1, ground := Ground.data }, { on := 4, ground := Ground.data }], guard := none }) (v := ?_) rfl (by kernel_rfl) (by kernel_rfl) (by kernel_rfl) (fun _ _ _ h => h) (Or.inl ⟨by kernel_rfl, ?_⟩) (by assumption) ?_
    rotate_left
    · intro w hSw; obtain ⟨z0, z1, z2, _⟩ := hSw; go_simp; first | done | (with_reducible rfl) | (rw [if_neg (by omega)])
    try simp only [Act.put, List.setIfInBounds_toArray, List.set_cons_zero, List.set_cons_succ]
    refine wpAnyH_take (i := 6) (oi := { dst := some 21, op := Op.binOp BinOp.add 9 (Operand.tmp 20) (Operand.const (Value.string ⟨#[32]⟩)) 9, type := 9, pos := _, after := #[{ on := 5, ground := Ground.data }], guard := none }) (v := ?_) rfl (by kernel_rfl) (by kernel_rfl) (by kernel_rfl) (fun _ _ _ h => h) (Or.inl ⟨by kernel_rfl, ?_⟩) (by assumption) ?_
    rotate_left
    · intro w hSw; obtain ⟨z0, z1, z2, _⟩ := hSw; go_simp; first | done | (with_reducible rfl) | (rw [if_neg (by omega)])
    try simp only [Act.put, List.setIfInBounds_toArray, List.set_cons_zero, List.set_cons_succ]
    refine wpAnyH_ready (rs := [9]) (by kernel_rfl) (by simp) ?_
    refine AllReadyH.cons (o := { dst := some 24, op := Op.call { callee := Callee.value (Operand.func 13), args := #[Operand.tmp 23], argTypes := #[3] }, type := 9, pos := _, after := #[{ on := 8, ground := Ground.data }, { on := 4, ground := Ground.chain }], guard := none }) rfl (fun K hK => ?_) AllReadyH.nil
    rw [if_pos (by kernel_rfl)]
    go_simp
    go_at_call 13
    refine (hD2 _ (hp.below B1)).mono ?_
    rintro e w2 ⟨rfl, hb2⟩
    have X2 := X1.all hb2
    have B2 := B1.trans (hb2.mono B1.size)
    go_wp2_with fail
    refine hK.out _ _ ⟨X2.cell 0 rfl, X2.cell 1 rfl, X2.cell 2 rfl, B2⟩ (fun hHeld3 => ?_)
    clear hK K
    try simp only [Act.put, List.setIfInBounds_toArray, List.set_cons_zero, List.set_cons_succ]
    refine wpAnyH_take (i := 10) (oi := { dst := some 25, op := Op.binOp BinOp.add 9 (Operand.tmp 21) (Operand.tmp 24) 9, type := 9, pos := _, after := #[{ on := 6, ground := Ground.data }, { on := 9, ground := Ground.data }], guard := none }) (v := ?_) rfl (by kernel_rfl) (by kernel_rfl) (by kernel_rfl) (fun _ _ _ h => h) (Or.inl ⟨by kernel_rfl, ?_⟩) (by assumption) ?_
    rotate_left
    · intro w hSw; obtain ⟨z0, z1, z2, _⟩ := hSw; go_simp; first | done | (with_reducible rfl) | (rw [if_neg (by omega)])
    try simp only [Act.put, List.setIfInBounds_toArray, List.set_cons_zero, List.set_cons_succ]
    refine wpAnyH_take (i := 11) (oi := { dst := some 2, op := Op.assign (Operand.tmp 25), type := 9, pos := _, after := #[{ on := 10, ground := Ground.data }, { on := 9, ground := Ground.chain }, { on := 0, ground := Ground.phase }, { on := 1, ground := Ground.phase }, { on := 2, ground := Ground.phase }, { on := 3, ground := Ground.phase }, { on := 4, ground := Ground.phase }, { on := 5, ground := Ground.phase }, { on := 6, ground := Ground.phase }, { on := 7, ground := Ground.phase }, { on := 8, ground := Ground.phase }, { on := 9, ground := Ground.phase }, { on := 10, ground := Ground.phase }], guard := none }) (v := ?_) rfl (by kernel_rfl) (by kernel_rfl) (by kernel_rfl) (fun _ _ _ h => h) (Or.inl ⟨by kernel_rfl, ?_⟩) (by assumption) ?_
    rotate_left
    · intro w hSw; obtain ⟨z0, z1, z2, _⟩ := hSw; go_simp; first | done | (with_reducible rfl) | (rw [if_neg (by omega)])
    try simp only [Act.put, List.setIfInBounds_toArray, List.set_cons_zero, List.set_cons_succ]
    refine wpAnyH_done (by kernel_rfl) ?_ _
    go_wp2
    go_ret
    exact ⟨HV.out, B2⟩
  · rw [if_neg (by decide), h2]
    have HV : Hid (Ending.returned (.string ((⟨#[116, 119, 105, 99, 101]⟩ : ByteArray) ++ ⟨#[32]⟩ ++ A ++ ⟨#[32]⟩ ++ B)) = Ending.returned (.string ((⟨#[116, 119, 105, 99, 101]⟩ : ByteArray) ++ sp ++ A ++ sp ++ B))) := Lib.hid rfl
    go_enter Tryd.func23, Tryd.ntmps23
    go_wp2_with (go_at_call 30; refine (cI_within _ _ _ _).mono ?_; rintro e w' ⟨rfl, rfl⟩)
    have XZ := (Box.new w 39 #[.int .i64 3, .int .i64 m, .int .i64 f])
    have BZ := ((Below.refl w.heap.size w).alloc (Nat.le_refl _) (.cells #[.int .i64 3, .int .i64 m, .int .i64 f] 39))
    refine wp_region_held_drew (S := fun w' => w'.cell? ⟨w.heap.size, 0, none⟩ = some (.int .i64 3) ∧ w'.cell? ⟨w.heap.size, 1, none⟩ = some (.int .i64 m) ∧ w'.cell? ⟨w.heap.size, 2, none⟩ = some (.int .i64 f) ∧ Below w.heap.size w w') (by kernel_rfl) (⟨XZ.drew.cell 0 rfl, XZ.drew.cell 1 rfl, XZ.drew.cell 2 rfl, BZ.drew⟩) (fun hHeld => ?_)
    refine wpAnyH_take (i := 0) (oi := { dst := some 15, op := Op.move (Operand.tmp 3), type := 9, pos := _, after := #[], guard := none }) (v := ?_) rfl (by kernel_rfl) (by kernel_rfl) (by kernel_rfl) (fun _ _ _ h => h) (Or.inl ⟨by kernel_rfl, ?_⟩) (by assumption) ?_
    rotate_left
    · intro w hSw; obtain ⟨z0, z1, z2, _⟩ := hSw; go_simp; first | done | (with_reducible rfl) | (rw [if_neg (by omega)])
    try simp only [Act.put, List.setIfInBounds_toArray, List.set_cons_zero, List.set_cons_succ]
    refine wpAnyH_take (i := 1) (oi := { dst := some 16, op := Op.binOp BinOp.add 9 (Operand.tmp 15) (Operand.const (Value.string ⟨#[32]⟩)) 9, type := 9, pos := _, after := #[{ on := 0, ground := Ground.data }], guard := none }) (v := ?_) rfl (by kernel_rfl) (by kernel_rfl) (by kernel_rfl) (fun _ _ _ h => h) (Or.inl ⟨by kernel_rfl, ?_⟩) (by assumption) ?_
    rotate_left
    · intro w hSw; obtain ⟨z0, z1, z2, _⟩ := hSw; go_simp; first | done | (with_reducible rfl) | (rw [if_neg (by omega)])
    try simp only [Act.put, List.setIfInBounds_toArray, List.set_cons_zero, List.set_cons_succ]
    refine wpAnyH_take (i := 2) (oi := { dst := some 17, op := Op.fieldAddr 39 (Operand.tmp 1) 1, type := 0, pos := _, after := #[], guard := none }) (v := ?_) rfl (by kernel_rfl) (by kernel_rfl) (by kernel_rfl) (fun _ _ _ h => h) (Or.inl ⟨by kernel_rfl, ?_⟩) (by assumption) ?_
    rotate_left
    · intro w hSw; obtain ⟨z0, z1, z2, _⟩ := hSw; go_simp; first | done | (with_reducible rfl) | (rw [if_neg (by omega)])
    try simp only [Act.put, List.setIfInBounds_toArray, List.set_cons_zero, List.set_cons_succ]
    refine wpAnyH_take (i := 3) (oi := { dst := some 18, op := Op.load 3 (Operand.tmp 17), type := 3, pos := _, after := #[{ on := 2, ground := Ground.data }], guard := none }) (v := ?_) rfl (by kernel_rfl) (by kernel_rfl) (by kernel_rfl) (fun _ _ _ h => h) (Or.inl ⟨by kernel_rfl, ?_⟩) (by assumption) ?_
    rotate_left
    · intro w hSw; obtain ⟨z0, z1, z2, _⟩ := hSw; go_simp; first | done | (with_reducible rfl) | (rw [if_neg (by omega)])
    try simp only [Act.put, List.setIfInBounds_toArray, List.set_cons_zero, List.set_cons_succ]
    refine wpAnyH_take (i := 7) (oi := { dst := some 22, op := Op.fieldAddr 39 (Operand.tmp 1) 2, type := 0, pos := _, after := #[], guard := none }) (v := ?_) rfl (by kernel_rfl) (by kernel_rfl) (by kernel_rfl) (fun _ _ _ h => h) (Or.inl ⟨by kernel_rfl, ?_⟩) (by assumption) ?_
    rotate_left
    · intro w hSw; obtain ⟨z0, z1, z2, _⟩ := hSw; go_simp; first | done | (with_reducible rfl) | (rw [if_neg (by omega)])
    try simp only [Act.put, List.setIfInBounds_toArray, List.set_cons_zero, List.set_cons_succ]
    refine wpAnyH_take (i := 8) (oi := { dst := some 23, op := Op.load 3 (Operand.tmp 22), type := 3, pos := _, after := #[{ on := 7, ground := Ground.data }], guard := none }) (v := ?_) rfl (by kernel_rfl) (by kernel_rfl) (by kernel_rfl) (fun _ _ _ h => h) (Or.inl ⟨by kernel_rfl, ?_⟩) (by assumption) ?_
    rotate_left
    · intro w hSw; obtain ⟨z0, z1, z2, _⟩ := hSw; go_simp; first | done | (with_reducible rfl) | (rw [if_neg (by omega)])
    try simp only [Act.put, List.setIfInBounds_toArray, List.set_cons_zero, List.set_cons_succ]
    refine wpAnyH_ready (rs := [4]) (by kernel_rfl) (by simp) ?_
    refine AllReadyH.cons (o := { dst := some 19, op := Op.call { callee := Callee.value (Operand.func 13), args := #[Operand.tmp 18], argTypes := #[3] }, type := 9, pos := _, after := #[{ on := 3, ground := Ground.data }], guard := none }) rfl (fun K hK => ?_) AllReadyH.nil
    rw [if_pos (by kernel_rfl)]
    go_simp
    go_at_call 13
    refine (hD1 _ (hp.below BZ.drew)).mono ?_
    rintro e w1 ⟨rfl, hb1⟩
    have X1 := XZ.drew.all hb1
    have B1 := BZ.drew.trans (hb1.mono BZ.size)
    go_wp2_with fail
    refine hK.out _ _ ⟨X1.cell 0 rfl, X1.cell 1 rfl, X1.cell 2 rfl, B1⟩ (fun hHeld2 => ?_)
    clear hK K
    try simp only [Act.put, List.setIfInBounds_toArray, List.set_cons_zero, List.set_cons_succ]
    refine wpAnyH_take (i := 5) (oi := { dst := some 20, op := Op.binOp BinOp.add 9 (Operand.tmp 16) (Operand.tmp 19) 9, type := 9, pos := _, after := #[{ on := 1, ground := Ground.data }, { on := 4, ground := Ground.data }], guard := none }) (v := ?_) rfl (by kernel_rfl) (by kernel_rfl) (by kernel_rfl) (fun _ _ _ h => h) (Or.inl ⟨by kernel_rfl, ?_⟩) (by assumption) ?_
    rotate_left
    · intro w hSw; obtain ⟨z0, z1, z2, _⟩ := hSw; go_simp; first | done | (with_reducible rfl) | (rw [if_neg (by omega)])
    try simp only [Act.put, List.setIfInBounds_toArray, List.set_cons_zero, List.set_cons_succ]
    refine wpAnyH_take (i := 6) (oi := { dst := some 21, op := Op.binOp BinOp.add 9 (Operand.tmp 20) (Operand.const (Value.string ⟨#[32]⟩)) 9, type := 9, pos := _, after := #[{ on := 5, ground := Ground.data }], guard := none }) (v := ?_) rfl (by kernel_rfl) (by kernel_rfl) (by kernel_rfl) (fun _ _ _ h => h) (Or.inl ⟨by kernel_rfl, ?_⟩) (by assumption) ?_
    rotate_left
    · intro w hSw; obtain ⟨z0, z1, z2, _⟩ := hSw; go_simp; first | done | (with_reducible rfl) | (rw [if_neg (by omega)])
    try simp only [Act.put, List.setIfInBounds_toArray, List.set_cons_zero, List.set_cons_succ]
    refine wpAnyH_ready (rs := [9]) (by kernel_rfl) (by simp) ?_
    refine AllReadyH.cons (o := { dst := some 24, op := Op.call { callee := Callee.value (Operand.func 13), args := #[Operand.tmp 23], argTypes := #[3] }, type := 9, pos := _, after := #[{ on := 8, ground := Ground.data }, { on := 4, ground := Ground.chain }], guard := none }) rfl (fun K hK => ?_) AllReadyH.nil
    rw [if_pos (by kernel_rfl)]
    go_simp
    go_at_call 13
    refine (hD2 _ (hp.below B1)).mono ?_
    rintro e w2 ⟨rfl, hb2⟩
    have X2 := X1.all hb2
    have B2 := B1.trans (hb2.mono B1.size)
    go_wp2_with fail
    refine hK.out _ _ ⟨X2.cell 0 rfl, X2.cell 1 rfl, X2.cell 2 rfl, B2⟩ (fun hHeld3 => ?_)
    clear hK K
    try simp only [Act.put, List.setIfInBounds_toArray, List.set_cons_zero, List.set_cons_succ]
    refine wpAnyH_take (i := 10) (oi := { dst := some 25, op := Op.binOp BinOp.add 9 (Operand.tmp 21) (Operand.tmp 24) 9, type := 9, pos := _, after := #[{ on := 6, ground := Ground.data }, { on := 9, ground := Ground.data }], guard := none }) (v := ?_) rfl (by kernel_rfl) (by kernel_rfl) (by kernel_rfl) (fun _ _ _ h => h) (Or.inl ⟨by kernel_rfl, ?_⟩) (by assumption) ?_
    rotate_left
    · intro w hSw; obtain ⟨z0, z1, z2, _⟩ := hSw; go_simp; first | done | (with_reducible rfl) | (rw [if_neg (by omega)])
    try simp only [Act.put, List.setIfInBounds_toArray, List.set_cons_zero, List.set_cons_succ]
    refine wpAnyH_take (i := 11) (oi := { dst := some 2, op := Op.assign (Operand.tmp 25), type := 9, pos := _, after := #[{ on := 10, ground := Ground.data }, { on := 9, ground := Ground.chain }, { on := 0, ground := Ground.phase }, { on := 1, ground := Ground.phase }, { on := 2, ground := Ground.phase }, { on := 3, ground := Ground.phase }, { on := 4, ground := Ground.phase }, { on := 5, ground := Ground.phase }, { on := 6, ground := Ground.phase }, { on := 7, ground := Ground.phase }, { on := 8, ground := Ground.phase }, { on := 9, ground := Ground.phase }, { on := 10, ground := Ground.phase }], guard := none }) (v := ?_) rfl (by kernel_rfl) (by kernel_rfl) (by kernel_rfl) (fun _ _ _ h => h) (Or.inl ⟨by kernel_rfl, ?_⟩) (by assumption) ?_
    rotate_left
    · intro w hSw; obtain ⟨z0, z1, z2, _⟩ := hSw; go_simp; first | done | (with_reducible rfl) | (rw [if_neg (by omega)])
    try simp only [Act.put, List.setIfInBounds_toArray, List.set_cons_zero, List.set_cons_succ]
    refine wpAnyH_done (by kernel_rfl) ?_ _
    go_wp2
    go_ret
    exact ⟨HV.out, B2⟩
  · rw [if_neg (by decide), h2]
    have HV : Hid (Ending.returned (.string ((⟨#[102, 105, 101, 108, 100, 115]⟩ : ByteArray) ++ ⟨#[32]⟩ ++ A ++ ⟨#[32]⟩ ++ B)) = Ending.returned (.string ((⟨#[102, 105, 101, 108, 100, 115]⟩ : ByteArray) ++ sp ++ A ++ sp ++ B))) := Lib.hid rfl
    go_enter Tryd.func23, Tryd.ntmps23
    go_wp2_with (go_at_call 30; refine (cI_within _ _ _ _).mono ?_; rintro e w' ⟨rfl, rfl⟩)
    have XZ := (Box.new w 39 #[.int .i64 4, .int .i64 m, .int .i64 f])
    have BZ := ((Below.refl w.heap.size w).alloc (Nat.le_refl _) (.cells #[.int .i64 4, .int .i64 m, .int .i64 f] 39))
    refine wp_region_held_drew (S := fun w' => w'.cell? ⟨w.heap.size, 0, none⟩ = some (.int .i64 4) ∧ w'.cell? ⟨w.heap.size, 1, none⟩ = some (.int .i64 m) ∧ w'.cell? ⟨w.heap.size, 2, none⟩ = some (.int .i64 f) ∧ Below w.heap.size w w') (by kernel_rfl) (⟨XZ.drew.cell 0 rfl, XZ.drew.cell 1 rfl, XZ.drew.cell 2 rfl, BZ.drew⟩) (fun hHeld => ?_)
    refine wpAnyH_take (i := 0) (oi := { dst := some 15, op := Op.move (Operand.tmp 3), type := 9, pos := _, after := #[], guard := none }) (v := ?_) rfl (by kernel_rfl) (by kernel_rfl) (by kernel_rfl) (fun _ _ _ h => h) (Or.inl ⟨by kernel_rfl, ?_⟩) (by assumption) ?_
    rotate_left
    · intro w hSw; obtain ⟨z0, z1, z2, _⟩ := hSw; go_simp; first | done | (with_reducible rfl) | (rw [if_neg (by omega)])
    try simp only [Act.put, List.setIfInBounds_toArray, List.set_cons_zero, List.set_cons_succ]
    refine wpAnyH_take (i := 1) (oi := { dst := some 16, op := Op.binOp BinOp.add 9 (Operand.tmp 15) (Operand.const (Value.string ⟨#[32]⟩)) 9, type := 9, pos := _, after := #[{ on := 0, ground := Ground.data }], guard := none }) (v := ?_) rfl (by kernel_rfl) (by kernel_rfl) (by kernel_rfl) (fun _ _ _ h => h) (Or.inl ⟨by kernel_rfl, ?_⟩) (by assumption) ?_
    rotate_left
    · intro w hSw; obtain ⟨z0, z1, z2, _⟩ := hSw; go_simp; first | done | (with_reducible rfl) | (rw [if_neg (by omega)])
    try simp only [Act.put, List.setIfInBounds_toArray, List.set_cons_zero, List.set_cons_succ]
    refine wpAnyH_take (i := 2) (oi := { dst := some 17, op := Op.fieldAddr 39 (Operand.tmp 1) 1, type := 0, pos := _, after := #[], guard := none }) (v := ?_) rfl (by kernel_rfl) (by kernel_rfl) (by kernel_rfl) (fun _ _ _ h => h) (Or.inl ⟨by kernel_rfl, ?_⟩) (by assumption) ?_
    rotate_left
    · intro w hSw; obtain ⟨z0, z1, z2, _⟩ := hSw; go_simp; first | done | (with_reducible rfl) | (rw [if_neg (by omega)])
    try simp only [Act.put, List.setIfInBounds_toArray, List.set_cons_zero, List.set_cons_succ]
    refine wpAnyH_take (i := 3) (oi := { dst := some 18, op := Op.load 3 (Operand.tmp 17), type := 3, pos := _, after := #[{ on := 2, ground := Ground.data }], guard := none }) (v := ?_) rfl (by kernel_rfl) (by kernel_rfl) (by kernel_rfl) (fun _ _ _ h => h) (Or.inl ⟨by kernel_rfl, ?_⟩) (by assumption) ?_
    rotate_left
    · intro w hSw; obtain ⟨z0, z1, z2, _⟩ := hSw; go_simp; first | done | (with_reducible rfl) | (rw [if_neg (by omega)])
    try simp only [Act.put, List.setIfInBounds_toArray, List.set_cons_zero, List.set_cons_succ]
    refine wpAnyH_take (i := 7) (oi := { dst := some 22, op := Op.fieldAddr 39 (Operand.tmp 1) 2, type := 0, pos := _, after := #[], guard := none }) (v := ?_) rfl (by kernel_rfl) (by kernel_rfl) (by kernel_rfl) (fun _ _ _ h => h) (Or.inl ⟨by kernel_rfl, ?_⟩) (by assumption) ?_
    rotate_left
    · intro w hSw; obtain ⟨z0, z1, z2, _⟩ := hSw; go_simp; first | done | (with_reducible rfl) | (rw [if_neg (by omega)])
    try simp only [Act.put, List.setIfInBounds_toArray, List.set_cons_zero, List.set_cons_succ]
    refine wpAnyH_take (i := 8) (oi := { dst := some 23, op := Op.load 3 (Operand.tmp 22), type := 3, pos := _, after := #[{ on := 7, ground := Ground.data }], guard := none }) (v := ?_) rfl (by kernel_rfl) (by kernel_rfl) (by kernel_rfl) (fun _ _ _ h => h) (Or.inl ⟨by kernel_rfl, ?_⟩) (by assumption) ?_
    rotate_left
    · intro w hSw; obtain ⟨z0, z1, z2, _⟩ := hSw; go_simp; first | done | (with_reducible rfl) | (rw [if_neg (by omega)])
    try simp only [Act.put, List.setIfInBounds_toArray, List.set_cons_zero, List.set_cons_succ]
    refine wpAnyH_ready (rs := [4]) (by kernel_rfl) (by simp) ?_
    refine AllReadyH.cons (o := { dst := some 19, op := Op.call { callee := Callee.value (Operand.func 13), args := #[Operand.tmp 18], argTypes := #[3] }, type := 9, pos := _, after := #[{ on := 3, ground := Ground.data }], guard := none }) rfl (fun K hK => ?_) AllReadyH.nil
    rw [if_pos (by kernel_rfl)]
    go_simp
    go_at_call 13
    refine (hD1 _ (hp.below BZ.drew)).mono ?_
    rintro e w1 ⟨rfl, hb1⟩
    have X1 := XZ.drew.all hb1
    have B1 := BZ.drew.trans (hb1.mono BZ.size)
    go_wp2_with fail
    refine hK.out _ _ ⟨X1.cell 0 rfl, X1.cell 1 rfl, X1.cell 2 rfl, B1⟩ (fun hHeld2 => ?_)
    clear hK K
    try simp only [Act.put, List.setIfInBounds_toArray, List.set_cons_zero, List.set_cons_succ]
    refine wpAnyH_take (i := 5) (oi := { dst := some 20, op := Op.binOp BinOp.add 9 (Operand.tmp 16) (Operand.tmp 19) 9, type := 9, pos := _, after := #[{ on := 1, ground := Ground.data }, { on := 4, ground := Ground.data }], guard := none }) (v := ?_) rfl (by kernel_rfl) (by kernel_rfl) (by kernel_rfl) (fun _ _ _ h => h) (Or.inl ⟨by kernel_rfl, ?_⟩) (by assumption) ?_
    rotate_left
    · intro w hSw; obtain ⟨z0, z1, z2, _⟩ := hSw; go_simp; first | done | (with_reducible rfl) | (rw [if_neg (by omega)])
    try simp only [Act.put, List.setIfInBounds_toArray, List.set_cons_zero, List.set_cons_succ]
    refine wpAnyH_take (i := 6) (oi := { dst := some 21, op := Op.binOp BinOp.add 9 (Operand.tmp 20) (Operand.const (Value.string ⟨#[32]⟩)) 9, type := 9, pos := _, after := #[{ on := 5, ground := Ground.data }], guard := none }) (v := ?_) rfl (by kernel_rfl) (by kernel_rfl) (by kernel_rfl) (fun _ _ _ h => h) (Or.inl ⟨by kernel_rfl, ?_⟩) (by assumption) ?_
    rotate_left
    · intro w hSw; obtain ⟨z0, z1, z2, _⟩ := hSw; go_simp; first | done | (with_reducible rfl) | (rw [if_neg (by omega)])
    try simp only [Act.put, List.setIfInBounds_toArray, List.set_cons_zero, List.set_cons_succ]
    refine wpAnyH_ready (rs := [9]) (by kernel_rfl) (by simp) ?_
    refine AllReadyH.cons (o := { dst := some 24, op := Op.call { callee := Callee.value (Operand.func 13), args := #[Operand.tmp 23], argTypes := #[3] }, type := 9, pos := _, after := #[{ on := 8, ground := Ground.data }, { on := 4, ground := Ground.chain }], guard := none }) rfl (fun K hK => ?_) AllReadyH.nil
    rw [if_pos (by kernel_rfl)]
    go_simp
    go_at_call 13
    refine (hD2 _ (hp.below B1)).mono ?_
    rintro e w2 ⟨rfl, hb2⟩
    have X2 := X1.all hb2
    have B2 := B1.trans (hb2.mono B1.size)
    go_wp2_with fail
    refine hK.out _ _ ⟨X2.cell 0 rfl, X2.cell 1 rfl, X2.cell 2 rfl, B2⟩ (fun hHeld3 => ?_)
    clear hK K
    try simp only [Act.put, List.setIfInBounds_toArray, List.set_cons_zero, List.set_cons_succ]
    refine wpAnyH_take (i := 10) (oi := { dst := some 25, op := Op.binOp BinOp.add 9 (Operand.tmp 21) (Operand.tmp 24) 9, type := 9, pos := _, after := #[{ on := 6, ground := Ground.data }, { on := 9, ground := Ground.data }], guard := none }) (v := ?_) rfl (by kernel_rfl) (by kernel_rfl) (by kernel_rfl) (fun _ _ _ h => h) (Or.inl ⟨by kernel_rfl, ?_⟩) (by assumption) ?_
    rotate_left
    · intro w hSw; obtain ⟨z0, z1, z2, _⟩ := hSw; go_simp; first | done | (with_reducible rfl) | (rw [if_neg (by omega)])
    try simp only [Act.put, List.setIfInBounds_toArray, List.set_cons_zero, List.set_cons_succ]
    refine wpAnyH_take (i := 11) (oi := { dst := some 2, op := Op.assign (Operand.tmp 25), type := 9, pos := _, after := #[{ on := 10, ground := Ground.data }, { on := 9, ground := Ground.chain }, { on := 0, ground := Ground.phase }, { on := 1, ground := Ground.phase }, { on := 2, ground := Ground.phase }, { on := 3, ground := Ground.phase }, { on := 4, ground := Ground.phase }, { on := 5, ground := Ground.phase }, { on := 6, ground := Ground.phase }, { on := 7, ground := Ground.phase }, { on := 8, ground := Ground.phase }, { on := 9, ground := Ground.phase }, { on := 10, ground := Ground.phase }], guard := none }) (v := ?_) rfl (by kernel_rfl) (by kernel_rfl) (by kernel_rfl) (fun _ _ _ h => h) (Or.inl ⟨by kernel_rfl, ?_⟩) (by assumption) ?_
    rotate_left
    · intro w hSw; obtain ⟨z0, z1, z2, _⟩ := hSw; go_simp; first | done | (with_reducible rfl) | (rw [if_neg (by omega)])
    try simp only [Act.put, List.setIfInBounds_toArray, List.set_cons_zero, List.set_cons_succ]
    refine wpAnyH_done (by kernel_rfl) ?_ _
    go_wp2
    go_ret
    exact ⟨HV.out, B2⟩
  · rw [if_neg (by decide), h2]
    have HV : Hid (Ending.returned (.string ((⟨#[110, 117, 109, 98, 101, 114]⟩ : ByteArray) ++ ⟨#[32]⟩ ++ A ++ ⟨#[32]⟩ ++ B)) = Ending.returned (.string ((⟨#[110, 117, 109, 98, 101, 114]⟩ : ByteArray) ++ sp ++ A ++ sp ++ B))) := Lib.hid rfl
    go_enter Tryd.func23, Tryd.ntmps23
    go_wp2_with (go_at_call 30; refine (cI_within _ _ _ _).mono ?_; rintro e w' ⟨rfl, rfl⟩)
    have XZ := (Box.new w 39 #[.int .i64 5, .int .i64 m, .int .i64 f])
    have BZ := ((Below.refl w.heap.size w).alloc (Nat.le_refl _) (.cells #[.int .i64 5, .int .i64 m, .int .i64 f] 39))
    refine wp_region_held_drew (S := fun w' => w'.cell? ⟨w.heap.size, 0, none⟩ = some (.int .i64 5) ∧ w'.cell? ⟨w.heap.size, 1, none⟩ = some (.int .i64 m) ∧ w'.cell? ⟨w.heap.size, 2, none⟩ = some (.int .i64 f) ∧ Below w.heap.size w w') (by kernel_rfl) (⟨XZ.drew.cell 0 rfl, XZ.drew.cell 1 rfl, XZ.drew.cell 2 rfl, BZ.drew⟩) (fun hHeld => ?_)
    refine wpAnyH_take (i := 0) (oi := { dst := some 15, op := Op.move (Operand.tmp 3), type := 9, pos := _, after := #[], guard := none }) (v := ?_) rfl (by kernel_rfl) (by kernel_rfl) (by kernel_rfl) (fun _ _ _ h => h) (Or.inl ⟨by kernel_rfl, ?_⟩) (by assumption) ?_
    rotate_left
    · intro w hSw; obtain ⟨z0, z1, z2, _⟩ := hSw; go_simp; first | done | (with_reducible rfl) | (rw [if_neg (by omega)])
    try simp only [Act.put, List.setIfInBounds_toArray, List.set_cons_zero, List.set_cons_succ]
    refine wpAnyH_take (i := 1) (oi := { dst := some 16, op := Op.binOp BinOp.add 9 (Operand.tmp 15) (Operand.const (Value.string ⟨#[32]⟩)) 9, type := 9, pos := _, after := #[{ on := 0, ground := Ground.data }], guard := none }) (v := ?_) rfl (by kernel_rfl) (by kernel_rfl) (by kernel_rfl) (fun _ _ _ h => h) (Or.inl ⟨by kernel_rfl, ?_⟩) (by assumption) ?_
    rotate_left
    · intro w hSw; obtain ⟨z0, z1, z2, _⟩ := hSw; go_simp; first | done | (with_reducible rfl) | (rw [if_neg (by omega)])
    try simp only [Act.put, List.setIfInBounds_toArray, List.set_cons_zero, List.set_cons_succ]
    refine wpAnyH_take (i := 2) (oi := { dst := some 17, op := Op.fieldAddr 39 (Operand.tmp 1) 1, type := 0, pos := _, after := #[], guard := none }) (v := ?_) rfl (by kernel_rfl) (by kernel_rfl) (by kernel_rfl) (fun _ _ _ h => h) (Or.inl ⟨by kernel_rfl, ?_⟩) (by assumption) ?_
    rotate_left
    · intro w hSw; obtain ⟨z0, z1, z2, _⟩ := hSw; go_simp; first | done | (with_reducible rfl) | (rw [if_neg (by omega)])
    try simp only [Act.put, List.setIfInBounds_toArray, List.set_cons_zero, List.set_cons_succ]
    refine wpAnyH_take (i := 3) (oi := { dst := some 18, op := Op.load 3 (Operand.tmp 17), type := 3, pos := _, after := #[{ on := 2, ground := Ground.data }], guard := none }) (v := ?_) rfl (by kernel_rfl) (by kernel_rfl) (by kernel_rfl) (fun _ _ _ h => h) (Or.inl ⟨by kernel_rfl, ?_⟩) (by assumption) ?_
    rotate_left
    · intro w hSw; obtain ⟨z0, z1, z2, _⟩ := hSw; go_simp; first | done | (with_reducible rfl) | (rw [if_neg (by omega)])
    try simp only [Act.put, List.setIfInBounds_toArray, List.set_cons_zero, List.set_cons_succ]
    refine wpAnyH_take (i := 7) (oi := { dst := some 22, op := Op.fieldAddr 39 (Operand.tmp 1) 2, type := 0, pos := _, after := #[], guard := none }) (v := ?_) rfl (by kernel_rfl) (by kernel_rfl) (by kernel_rfl) (fun _ _ _ h => h) (Or.inl ⟨by kernel_rfl, ?_⟩) (by assumption) ?_
    rotate_left
    · intro w hSw; obtain ⟨z0, z1, z2, _⟩ := hSw; go_simp; first | done | (with_reducible rfl) | (rw [if_neg (by omega)])
    try simp only [Act.put, List.setIfInBounds_toArray, List.set_cons_zero, List.set_cons_succ]
    refine wpAnyH_take (i := 8) (oi := { dst := some 23, op := Op.load 3 (Operand.tmp 22), type := 3, pos := _, after := #[{ on := 7, ground := Ground.data }], guard := none }) (v := ?_) rfl (by kernel_rfl) (by kernel_rfl) (by kernel_rfl) (fun _ _ _ h => h) (Or.inl ⟨by kernel_rfl, ?_⟩) (by assumption) ?_
    rotate_left
    · intro w hSw; obtain ⟨z0, z1, z2, _⟩ := hSw; go_simp; first | done | (with_reducible rfl) | (rw [if_neg (by omega)])
    try simp only [Act.put, List.setIfInBounds_toArray, List.set_cons_zero, List.set_cons_succ]
    refine wpAnyH_ready (rs := [4]) (by kernel_rfl) (by simp) ?_
    refine AllReadyH.cons (o := { dst := some 19, op := Op.call { callee := Callee.value (Operand.func 13), args := #[Operand.tmp 18], argTypes := #[3] }, type := 9, pos := _, after := #[{ on := 3, ground := Ground.data }], guard := none }) rfl (fun K hK => ?_) AllReadyH.nil
    rw [if_pos (by kernel_rfl)]
    go_simp
    go_at_call 13
    refine (hD1 _ (hp.below BZ.drew)).mono ?_
    rintro e w1 ⟨rfl, hb1⟩
    have X1 := XZ.drew.all hb1
    have B1 := BZ.drew.trans (hb1.mono BZ.size)
    go_wp2_with fail
    refine hK.out _ _ ⟨X1.cell 0 rfl, X1.cell 1 rfl, X1.cell 2 rfl, B1⟩ (fun hHeld2 => ?_)
    clear hK K
    try simp only [Act.put, List.setIfInBounds_toArray, List.set_cons_zero, List.set_cons_succ]
    refine wpAnyH_take (i := 5) (oi := { dst := some 20, op := Op.binOp BinOp.add 9 (Operand.tmp 16) (Operand.tmp 19) 9, type := 9, pos := _, after := #[{ on := 1, ground := Ground.data }, { on := 4, ground := Ground.data }], guard := none }) (v := ?_) rfl (by kernel_rfl) (by kernel_rfl) (by kernel_rfl) (fun _ _ _ h => h) (Or.inl ⟨by kernel_rfl, ?_⟩) (by assumption) ?_
    rotate_left
    · intro w hSw; obtain ⟨z0, z1, z2, _⟩ := hSw; go_simp; first | done | (with_reducible rfl) | (rw [if_neg (by omega)])
    try simp only [Act.put, List.setIfInBounds_toArray, List.set_cons_zero, List.set_cons_succ]
    refine wpAnyH_take (i := 6) (oi := { dst := some 21, op := Op.binOp BinOp.add 9 (Operand.tmp 20) (Operand.const (Value.string ⟨#[32]⟩)) 9, type := 9, pos := _, after := #[{ on := 5, ground := Ground.data }], guard := none }) (v := ?_) rfl (by kernel_rfl) (by kernel_rfl) (by kernel_rfl) (fun _ _ _ h => h) (Or.inl ⟨by kernel_rfl, ?_⟩) (by assumption) ?_
    rotate_left
    · intro w hSw; obtain ⟨z0, z1, z2, _⟩ := hSw; go_simp; first | done | (with_reducible rfl) | (rw [if_neg (by omega)])
    try simp only [Act.put, List.setIfInBounds_toArray, List.set_cons_zero, List.set_cons_succ]
    refine wpAnyH_ready (rs := [9]) (by kernel_rfl) (by simp) ?_
    refine AllReadyH.cons (o := { dst := some 24, op := Op.call { callee := Callee.value (Operand.func 13), args := #[Operand.tmp 23], argTypes := #[3] }, type := 9, pos := _, after := #[{ on := 8, ground := Ground.data }, { on := 4, ground := Ground.chain }], guard := none }) rfl (fun K hK => ?_) AllReadyH.nil
    rw [if_pos (by kernel_rfl)]
    go_simp
    go_at_call 13
    refine (hD2 _ (hp.below B1)).mono ?_
    rintro e w2 ⟨rfl, hb2⟩
    have X2 := X1.all hb2
    have B2 := B1.trans (hb2.mono B1.size)
    go_wp2_with fail
    refine hK.out _ _ ⟨X2.cell 0 rfl, X2.cell 1 rfl, X2.cell 2 rfl, B2⟩ (fun hHeld3 => ?_)
    clear hK K
    try simp only [Act.put, List.setIfInBounds_toArray, List.set_cons_zero, List.set_cons_succ]
    refine wpAnyH_take (i := 10) (oi := { dst := some 25, op := Op.binOp BinOp.add 9 (Operand.tmp 21) (Operand.tmp 24) 9, type := 9, pos := _, after := #[{ on := 6, ground := Ground.data }, { on := 9, ground := Ground.data }], guard := none }) (v := ?_) rfl (by kernel_rfl) (by kernel_rfl) (by kernel_rfl) (fun _ _ _ h => h) (Or.inl ⟨by kernel_rfl, ?_⟩) (by assumption) ?_
    rotate_left
    · intro w hSw; obtain ⟨z0, z1, z2, _⟩ := hSw; go_simp; first | done | (with_reducible rfl) | (rw [if_neg (by omega)])
    try simp only [Act.put, List.setIfInBounds_toArray, List.set_cons_zero, List.set_cons_succ]
    refine wpAnyH_take (i := 11) (oi := { dst := some 2, op := Op.assign (Operand.tmp 25), type := 9, pos := _, after := #[{ on := 10, ground := Ground.data }, { on := 9, ground := Ground.chain }, { on := 0, ground := Ground.phase }, { on := 1, ground := Ground.phase }, { on := 2, ground := Ground.phase }, { on := 3, ground := Ground.phase }, { on := 4, ground := Ground.phase }, { on := 5, ground := Ground.phase }, { on := 6, ground := Ground.phase }, { on := 7, ground := Ground.phase }, { on := 8, ground := Ground.phase }, { on := 9, ground := Ground.phase }, { on := 10, ground := Ground.phase }], guard := none }) (v := ?_) rfl (by kernel_rfl) (by kernel_rfl) (by kernel_rfl) (fun _ _ _ h => h) (Or.inl ⟨by kernel_rfl, ?_⟩) (by assumption) ?_
    rotate_left
    · intro w hSw; obtain ⟨z0, z1, z2, _⟩ := hSw; go_simp; first | done | (with_reducible rfl) | (rw [if_neg (by omega)])
    try simp only [Act.put, List.setIfInBounds_toArray, List.set_cons_zero, List.set_cons_succ]
    refine wpAnyH_done (by kernel_rfl) ?_ _
    go_wp2
    go_ret
    exact ⟨HV.out, B2⟩
  · rw [if_neg (by decide), h2]
    have HV : Hid (Ending.returned (.string ((⟨#[115, 97, 109, 101]⟩ : ByteArray) ++ ⟨#[32]⟩ ++ A ++ ⟨#[32]⟩ ++ B)) = Ending.returned (.string ((⟨#[115, 97, 109, 101]⟩ : ByteArray) ++ sp ++ A ++ sp ++ B))) := Lib.hid rfl
    go_enter Tryd.func23, Tryd.ntmps23
    go_wp2_with (go_at_call 30; refine (cI_within _ _ _ _).mono ?_; rintro e w' ⟨rfl, rfl⟩)
    have XZ := (Box.new w 39 #[.int .i64 6, .int .i64 m, .int .i64 f])
    have BZ := ((Below.refl w.heap.size w).alloc (Nat.le_refl _) (.cells #[.int .i64 6, .int .i64 m, .int .i64 f] 39))
    refine wp_region_held_drew (S := fun w' => w'.cell? ⟨w.heap.size, 0, none⟩ = some (.int .i64 6) ∧ w'.cell? ⟨w.heap.size, 1, none⟩ = some (.int .i64 m) ∧ w'.cell? ⟨w.heap.size, 2, none⟩ = some (.int .i64 f) ∧ Below w.heap.size w w') (by kernel_rfl) (⟨XZ.drew.cell 0 rfl, XZ.drew.cell 1 rfl, XZ.drew.cell 2 rfl, BZ.drew⟩) (fun hHeld => ?_)
    refine wpAnyH_take (i := 0) (oi := { dst := some 15, op := Op.move (Operand.tmp 3), type := 9, pos := _, after := #[], guard := none }) (v := ?_) rfl (by kernel_rfl) (by kernel_rfl) (by kernel_rfl) (fun _ _ _ h => h) (Or.inl ⟨by kernel_rfl, ?_⟩) (by assumption) ?_
    rotate_left
    · intro w hSw; obtain ⟨z0, z1, z2, _⟩ := hSw; go_simp; first | done | (with_reducible rfl) | (rw [if_neg (by omega)])
    try simp only [Act.put, List.setIfInBounds_toArray, List.set_cons_zero, List.set_cons_succ]
    refine wpAnyH_take (i := 1) (oi := { dst := some 16, op := Op.binOp BinOp.add 9 (Operand.tmp 15) (Operand.const (Value.string ⟨#[32]⟩)) 9, type := 9, pos := _, after := #[{ on := 0, ground := Ground.data }], guard := none }) (v := ?_) rfl (by kernel_rfl) (by kernel_rfl) (by kernel_rfl) (fun _ _ _ h => h) (Or.inl ⟨by kernel_rfl, ?_⟩) (by assumption) ?_
    rotate_left
    · intro w hSw; obtain ⟨z0, z1, z2, _⟩ := hSw; go_simp; first | done | (with_reducible rfl) | (rw [if_neg (by omega)])
    try simp only [Act.put, List.setIfInBounds_toArray, List.set_cons_zero, List.set_cons_succ]
    refine wpAnyH_take (i := 2) (oi := { dst := some 17, op := Op.fieldAddr 39 (Operand.tmp 1) 1, type := 0, pos := _, after := #[], guard := none }) (v := ?_) rfl (by kernel_rfl) (by kernel_rfl) (by kernel_rfl) (fun _ _ _ h => h) (Or.inl ⟨by kernel_rfl, ?_⟩) (by assumption) ?_
    rotate_left
    · intro w hSw; obtain ⟨z0, z1, z2, _⟩ := hSw; go_simp; first | done | (with_reducible rfl) | (rw [if_neg (by omega)])
    try simp only [Act.put, List.setIfInBounds_toArray, List.set_cons_zero, List.set_cons_succ]
    refine wpAnyH_take (i := 3) (oi := { dst := some 18, op := Op.load 3 (Operand.tmp 17), type := 3, pos := _, after := #[{ on := 2, ground := Ground.data }], guard := none }) (v := ?_) rfl (by kernel_rfl) (by kernel_rfl) (by kernel_rfl) (fun _ _ _ h => h) (Or.inl ⟨by kernel_rfl, ?_⟩) (by assumption) ?_
    rotate_left
    · intro w hSw; obtain ⟨z0, z1, z2, _⟩ := hSw; go_simp; first | done | (with_reducible rfl) | (rw [if_neg (by omega)])
    try simp only [Act.put, List.setIfInBounds_toArray, List.set_cons_zero, List.set_cons_succ]
    refine wpAnyH_take (i := 7) (oi := { dst := some 22, op := Op.fieldAddr 39 (Operand.tmp 1) 2, type := 0, pos := _, after := #[], guard := none }) (v := ?_) rfl (by kernel_rfl) (by kernel_rfl) (by kernel_rfl) (fun _ _ _ h => h) (Or.inl ⟨by kernel_rfl, ?_⟩) (by assumption) ?_
    rotate_left
    · intro w hSw; obtain ⟨z0, z1, z2, _⟩ := hSw; go_simp; first | done | (with_reducible rfl) | (rw [if_neg (by omega)])
    try simp only [Act.put, List.setIfInBounds_toArray, List.set_cons_zero, List.set_cons_succ]
    refine wpAnyH_take (i := 8) (oi := { dst := some 23, op := Op.load 3 (Operand.tmp 22), type := 3, pos := _, after := #[{ on := 7, ground := Ground.data }], guard := none }) (v := ?_) rfl (by kernel_rfl) (by kernel_rfl) (by kernel_rfl) (fun _ _ _ h => h) (Or.inl ⟨by kernel_rfl, ?_⟩) (by assumption) ?_
    rotate_left
    · intro w hSw; obtain ⟨z0, z1, z2, _⟩ := hSw; go_simp; first | done | (with_reducible rfl) | (rw [if_neg (by omega)])
    try simp only [Act.put, List.setIfInBounds_toArray, List.set_cons_zero, List.set_cons_succ]
    refine wpAnyH_ready (rs := [4]) (by kernel_rfl) (by simp) ?_
    refine AllReadyH.cons (o := { dst := some 19, op := Op.call { callee := Callee.value (Operand.func 13), args := #[Operand.tmp 18], argTypes := #[3] }, type := 9, pos := _, after := #[{ on := 3, ground := Ground.data }], guard := none }) rfl (fun K hK => ?_) AllReadyH.nil
    rw [if_pos (by kernel_rfl)]
    go_simp
    go_at_call 13
    refine (hD1 _ (hp.below BZ.drew)).mono ?_
    rintro e w1 ⟨rfl, hb1⟩
    have X1 := XZ.drew.all hb1
    have B1 := BZ.drew.trans (hb1.mono BZ.size)
    go_wp2_with fail
    refine hK.out _ _ ⟨X1.cell 0 rfl, X1.cell 1 rfl, X1.cell 2 rfl, B1⟩ (fun hHeld2 => ?_)
    clear hK K
    try simp only [Act.put, List.setIfInBounds_toArray, List.set_cons_zero, List.set_cons_succ]
    refine wpAnyH_take (i := 5) (oi := { dst := some 20, op := Op.binOp BinOp.add 9 (Operand.tmp 16) (Operand.tmp 19) 9, type := 9, pos := _, after := #[{ on := 1, ground := Ground.data }, { on := 4, ground := Ground.data }], guard := none }) (v := ?_) rfl (by kernel_rfl) (by kernel_rfl) (by kernel_rfl) (fun _ _ _ h => h) (Or.inl ⟨by kernel_rfl, ?_⟩) (by assumption) ?_
    rotate_left
    · intro w hSw; obtain ⟨z0, z1, z2, _⟩ := hSw; go_simp; first | done | (with_reducible rfl) | (rw [if_neg (by omega)])
    try simp only [Act.put, List.setIfInBounds_toArray, List.set_cons_zero, List.set_cons_succ]
    refine wpAnyH_take (i := 6) (oi := { dst := some 21, op := Op.binOp BinOp.add 9 (Operand.tmp 20) (Operand.const (Value.string ⟨#[32]⟩)) 9, type := 9, pos := _, after := #[{ on := 5, ground := Ground.data }], guard := none }) (v := ?_) rfl (by kernel_rfl) (by kernel_rfl) (by kernel_rfl) (fun _ _ _ h => h) (Or.inl ⟨by kernel_rfl, ?_⟩) (by assumption) ?_
    rotate_left
    · intro w hSw; obtain ⟨z0, z1, z2, _⟩ := hSw; go_simp; first | done | (with_reducible rfl) | (rw [if_neg (by omega)])
    try simp only [Act.put, List.setIfInBounds_toArray, List.set_cons_zero, List.set_cons_succ]
    refine wpAnyH_ready (rs := [9]) (by kernel_rfl) (by simp) ?_
    refine AllReadyH.cons (o := { dst := some 24, op := Op.call { callee := Callee.value (Operand.func 13), args := #[Operand.tmp 23], argTypes := #[3] }, type := 9, pos := _, after := #[{ on := 8, ground := Ground.data }, { on := 4, ground := Ground.chain }], guard := none }) rfl (fun K hK => ?_) AllReadyH.nil
    rw [if_pos (by kernel_rfl)]
    go_simp
    go_at_call 13
    refine (hD2 _ (hp.below B1)).mono ?_
    rintro e w2 ⟨rfl, hb2⟩
    have X2 := X1.all hb2
    have B2 := B1.trans (hb2.mono B1.size)
    go_wp2_with fail
    refine hK.out _ _ ⟨X2.cell 0 rfl, X2.cell 1 rfl, X2.cell 2 rfl, B2⟩ (fun hHeld3 => ?_)
    clear hK K
    try simp only [Act.put, List.setIfInBounds_toArray, List.set_cons_zero, List.set_cons_succ]
    refine wpAnyH_take (i := 10) (oi := { dst := some 25, op := Op.binOp BinOp.add 9 (Operand.tmp 21) (Operand.tmp 24) 9, type := 9, pos := _, after := #[{ on := 6, ground := Ground.data }, { on := 9, ground := Ground.data }], guard := none }) (v := ?_) rfl (by kernel_rfl) (by kernel_rfl) (by kernel_rfl) (fun _ _ _ h => h) (Or.inl ⟨by kernel_rfl, ?_⟩) (by assumption) ?_
    rotate_left
    · intro w hSw; obtain ⟨z0, z1, z2, _⟩ := hSw; go_simp; first | done | (with_reducible rfl) | (rw [if_neg (by omega)])
    try simp only [Act.put, List.setIfInBounds_toArray, List.set_cons_zero, List.set_cons_succ]
    refine wpAnyH_take (i := 11) (oi := { dst := some 2, op := Op.assign (Operand.tmp 25), type := 9, pos := _, after := #[{ on := 10, ground := Ground.data }, { on := 9, ground := Ground.chain }, { on := 0, ground := Ground.phase }, { on := 1, ground := Ground.phase }, { on := 2, ground := Ground.phase }, { on := 3, ground := Ground.phase }, { on := 4, ground := Ground.phase }, { on := 5, ground := Ground.phase }, { on := 6, ground := Ground.phase }, { on := 7, ground := Ground.phase }, { on := 8, ground := Ground.phase }, { on := 9, ground := Ground.phase }, { on := 10, ground := Ground.phase }], guard := none }) (v := ?_) rfl (by kernel_rfl) (by kernel_rfl) (by kernel_rfl) (fun _ _ _ h => h) (Or.inl ⟨by kernel_rfl, ?_⟩) (by assumption) ?_
    rotate_left
    · intro w hSw; obtain ⟨z0, z1, z2, _⟩ := hSw; go_simp; first | done | (with_reducible rfl) | (rw [if_neg (by omega)])
    try simp only [Act.put, List.setIfInBounds_toArray, List.set_cons_zero, List.set_cons_succ]
    refine wpAnyH_done (by kernel_rfl) ?_ _
    go_wp2
    go_ret
    exact ⟨HV.out, B2⟩
  · rw [if_neg (by decide), h2]
    have HV : Hid (Ending.returned (.string ((⟨#[107, 105, 110, 100]⟩ : ByteArray) ++ ⟨#[32]⟩ ++ A ++ ⟨#[32]⟩ ++ B)) = Ending.returned (.string ((⟨#[107, 105, 110, 100]⟩ : ByteArray) ++ sp ++ A ++ sp ++ B))) := Lib.hid rfl
    go_enter Tryd.func23, Tryd.ntmps23
    go_wp2_with (go_at_call 30; refine (cI_within _ _ _ _).mono ?_; rintro e w' ⟨rfl, rfl⟩)
    have XZ := (Box.new w 39 #[.int .i64 7, .int .i64 m, .int .i64 f])
    have BZ := ((Below.refl w.heap.size w).alloc (Nat.le_refl _) (.cells #[.int .i64 7, .int .i64 m, .int .i64 f] 39))
    refine wp_region_held_drew (S := fun w' => w'.cell? ⟨w.heap.size, 0, none⟩ = some (.int .i64 7) ∧ w'.cell? ⟨w.heap.size, 1, none⟩ = some (.int .i64 m) ∧ w'.cell? ⟨w.heap.size, 2, none⟩ = some (.int .i64 f) ∧ Below w.heap.size w w') (by kernel_rfl) (⟨XZ.drew.cell 0 rfl, XZ.drew.cell 1 rfl, XZ.drew.cell 2 rfl, BZ.drew⟩) (fun hHeld => ?_)
    refine wpAnyH_take (i := 0) (oi := { dst := some 15, op := Op.move (Operand.tmp 3), type := 9, pos := _, after := #[], guard := none }) (v := ?_) rfl (by kernel_rfl) (by kernel_rfl) (by kernel_rfl) (fun _ _ _ h => h) (Or.inl ⟨by kernel_rfl, ?_⟩) (by assumption) ?_
    rotate_left
    · intro w hSw; obtain ⟨z0, z1, z2, _⟩ := hSw; go_simp; first | done | (with_reducible rfl) | (rw [if_neg (by omega)])
    try simp only [Act.put, List.setIfInBounds_toArray, List.set_cons_zero, List.set_cons_succ]
    refine wpAnyH_take (i := 1) (oi := { dst := some 16, op := Op.binOp BinOp.add 9 (Operand.tmp 15) (Operand.const (Value.string ⟨#[32]⟩)) 9, type := 9, pos := _, after := #[{ on := 0, ground := Ground.data }], guard := none }) (v := ?_) rfl (by kernel_rfl) (by kernel_rfl) (by kernel_rfl) (fun _ _ _ h => h) (Or.inl ⟨by kernel_rfl, ?_⟩) (by assumption) ?_
    rotate_left
    · intro w hSw; obtain ⟨z0, z1, z2, _⟩ := hSw; go_simp; first | done | (with_reducible rfl) | (rw [if_neg (by omega)])
    try simp only [Act.put, List.setIfInBounds_toArray, List.set_cons_zero, List.set_cons_succ]
    refine wpAnyH_take (i := 2) (oi := { dst := some 17, op := Op.fieldAddr 39 (Operand.tmp 1) 1, type := 0, pos := _, after := #[], guard := none }) (v := ?_) rfl (by kernel_rfl) (by kernel_rfl) (by kernel_rfl) (fun _ _ _ h => h) (Or.inl ⟨by kernel_rfl, ?_⟩) (by assumption) ?_
    rotate_left
    · intro w hSw; obtain ⟨z0, z1, z2, _⟩ := hSw; go_simp; first | done | (with_reducible rfl) | (rw [if_neg (by omega)])
    try simp only [Act.put, List.setIfInBounds_toArray, List.set_cons_zero, List.set_cons_succ]
    refine wpAnyH_take (i := 3) (oi := { dst := some 18, op := Op.load 3 (Operand.tmp 17), type := 3, pos := _, after := #[{ on := 2, ground := Ground.data }], guard := none }) (v := ?_) rfl (by kernel_rfl) (by kernel_rfl) (by kernel_rfl) (fun _ _ _ h => h) (Or.inl ⟨by kernel_rfl, ?_⟩) (by assumption) ?_
    rotate_left
    · intro w hSw; obtain ⟨z0, z1, z2, _⟩ := hSw; go_simp; first | done | (with_reducible rfl) | (rw [if_neg (by omega)])
    try simp only [Act.put, List.setIfInBounds_toArray, List.set_cons_zero, List.set_cons_succ]
    refine wpAnyH_take (i := 7) (oi := { dst := some 22, op := Op.fieldAddr 39 (Operand.tmp 1) 2, type := 0, pos := _, after := #[], guard := none }) (v := ?_) rfl (by kernel_rfl) (by kernel_rfl) (by kernel_rfl) (fun _ _ _ h => h) (Or.inl ⟨by kernel_rfl, ?_⟩) (by assumption) ?_
    rotate_left
    · intro w hSw; obtain ⟨z0, z1, z2, _⟩ := hSw; go_simp; first | done | (with_reducible rfl) | (rw [if_neg (by omega)])
    try simp only [Act.put, List.setIfInBounds_toArray, List.set_cons_zero, List.set_cons_succ]
    refine wpAnyH_take (i := 8) (oi := { dst := some 23, op := Op.load 3 (Operand.tmp 22), type := 3, pos := _, after := #[{ on := 7, ground := Ground.data }], guard := none }) (v := ?_) rfl (by kernel_rfl) (by kernel_rfl) (by kernel_rfl) (fun _ _ _ h => h) (Or.inl ⟨by kernel_rfl, ?_⟩) (by assumption) ?_
    rotate_left
    · intro w hSw; obtain ⟨z0, z1, z2, _⟩ := hSw; go_simp; first | done | (with_reducible rfl) | (rw [if_neg (by omega)])
    try simp only [Act.put, List.setIfInBounds_toArray, List.set_cons_zero, List.set_cons_succ]
    refine wpAnyH_ready (rs := [4]) (by kernel_rfl) (by simp) ?_
    refine AllReadyH.cons (o := { dst := some 19, op := Op.call { callee := Callee.value (Operand.func 13), args := #[Operand.tmp 18], argTypes := #[3] }, type := 9, pos := _, after := #[{ on := 3, ground := Ground.data }], guard := none }) rfl (fun K hK => ?_) AllReadyH.nil
    rw [if_pos (by kernel_rfl)]
    go_simp
    go_at_call 13
    refine (hD1 _ (hp.below BZ.drew)).mono ?_
    rintro e w1 ⟨rfl, hb1⟩
    have X1 := XZ.drew.all hb1
    have B1 := BZ.drew.trans (hb1.mono BZ.size)
    go_wp2_with fail
    refine hK.out _ _ ⟨X1.cell 0 rfl, X1.cell 1 rfl, X1.cell 2 rfl, B1⟩ (fun hHeld2 => ?_)
    clear hK K
    try simp only [Act.put, List.setIfInBounds_toArray, List.set_cons_zero, List.set_cons_succ]
    refine wpAnyH_take (i := 5) (oi := { dst := some 20, op := Op.binOp BinOp.add 9 (Operand.tmp 16) (Operand.tmp 19) 9, type := 9, pos := _, after := #[{ on := 1, ground := Ground.data }, { on := 4, ground := Ground.data }], guard := none }) (v := ?_) rfl (by kernel_rfl) (by kernel_rfl) (by kernel_rfl) (fun _ _ _ h => h) (Or.inl ⟨by kernel_rfl, ?_⟩) (by assumption) ?_
    rotate_left
    · intro w hSw; obtain ⟨z0, z1, z2, _⟩ := hSw; go_simp; first | done | (with_reducible rfl) | (rw [if_neg (by omega)])
    try simp only [Act.put, List.setIfInBounds_toArray, List.set_cons_zero, List.set_cons_succ]
    refine wpAnyH_take (i := 6) (oi := { dst := some 21, op := Op.binOp BinOp.add 9 (Operand.tmp 20) (Operand.const (Value.string ⟨#[32]⟩)) 9, type := 9, pos := _, after := #[{ on := 5, ground := Ground.data }], guard := none }) (v := ?_) rfl (by kernel_rfl) (by kernel_rfl) (by kernel_rfl) (fun _ _ _ h => h) (Or.inl ⟨by kernel_rfl, ?_⟩) (by assumption) ?_
    rotate_left
    · intro w hSw; obtain ⟨z0, z1, z2, _⟩ := hSw; go_simp; first | done | (with_reducible rfl) | (rw [if_neg (by omega)])
    try simp only [Act.put, List.setIfInBounds_toArray, List.set_cons_zero, List.set_cons_succ]
    refine wpAnyH_ready (rs := [9]) (by kernel_rfl) (by simp) ?_
    refine AllReadyH.cons (o := { dst := some 24, op := Op.call { callee := Callee.value (Operand.func 13), args := #[Operand.tmp 23], argTypes := #[3] }, type := 9, pos := _, after := #[{ on := 8, ground := Ground.data }, { on := 4, ground := Ground.chain }], guard := none }) rfl (fun K hK => ?_) AllReadyH.nil
    rw [if_pos (by kernel_rfl)]
    go_simp
    go_at_call 13
    refine (hD2 _ (hp.below B1)).mono ?_
    rintro e w2 ⟨rfl, hb2⟩
    have X2 := X1.all hb2
    have B2 := B1.trans (hb2.mono B1.size)
    go_wp2_with fail
    refine hK.out _ _ ⟨X2.cell 0 rfl, X2.cell 1 rfl, X2.cell 2 rfl, B2⟩ (fun hHeld3 => ?_)
    clear hK K
    try simp only [Act.put, List.setIfInBounds_toArray, List.set_cons_zero, List.set_cons_succ]
    refine wpAnyH_take (i := 10) (oi := { dst := some 25, op := Op.binOp BinOp.add 9 (Operand.tmp 21) (Operand.tmp 24) 9, type := 9, pos := _, after := #[{ on := 6, ground := Ground.data }, { on := 9, ground := Ground.data }], guard := none }) (v := ?_) rfl (by kernel_rfl) (by kernel_rfl) (by kernel_rfl) (fun _ _ _ h => h) (Or.inl ⟨by kernel_rfl, ?_⟩) (by assumption) ?_
    rotate_left
    · intro w hSw; obtain ⟨z0, z1, z2, _⟩ := hSw; go_simp; first | done | (with_reducible rfl) | (rw [if_neg (by omega)])
    try simp only [Act.put, List.setIfInBounds_toArray, List.set_cons_zero, List.set_cons_succ]
    refine wpAnyH_take (i := 11) (oi := { dst := some 2, op := Op.assign (Operand.tmp 25), type := 9, pos := _, after := #[{ on := 10, ground := Ground.data }, { on := 9, ground := Ground.chain }, { on := 0, ground := Ground.phase }, { on := 1, ground := Ground.phase }, { on := 2, ground := Ground.phase }, { on := 3, ground := Ground.phase }, { on := 4, ground := Ground.phase }, { on := 5, ground := Ground.phase }, { on := 6, ground := Ground.phase }, { on := 7, ground := Ground.phase }, { on := 8, ground := Ground.phase }, { on := 9, ground := Ground.phase }, { on := 10, ground := Ground.phase }], guard := none }) (v := ?_) rfl (by kernel_rfl) (by kernel_rfl) (by kernel_rfl) (fun _ _ _ h => h) (Or.inl ⟨by kernel_rfl, ?_⟩) (by assumption) ?_
    rotate_left
    · intro w hSw; obtain ⟨z0, z1, z2, _⟩ := hSw; go_simp; first | done | (with_reducible rfl) | (rw [if_neg (by omega)])
    try simp only [Act.put, List.setIfInBounds_toArray, List.set_cons_zero, List.set_cons_succ]
    refine wpAnyH_done (by kernel_rfl) ?_ _
    go_wp2
    go_ret
    exact ⟨HV.out, B2⟩
  · rw [if_neg (by decide), h2]
    have HV : Hid (Ending.returned (.string ((⟨#[112, 97, 99, 107, 101, 100]⟩ : ByteArray) ++ ⟨#[32]⟩ ++ A ++ ⟨#[32]⟩ ++ B)) = Ending.returned (.string ((⟨#[112, 97, 99, 107, 101, 100]⟩ : ByteArray) ++ sp ++ A ++ sp ++ B))) := Lib.hid rfl
    go_enter Tryd.func23, Tryd.ntmps23
    go_wp2_with (go_at_call 30; refine (cI_within _ _ _ _).mono ?_; rintro e w' ⟨rfl, rfl⟩)
    have XZ := (Box.new w 39 #[.int .i64 8, .int .i64 m, .int .i64 f])
    have BZ := ((Below.refl w.heap.size w).alloc (Nat.le_refl _) (.cells #[.int .i64 8, .int .i64 m, .int .i64 f] 39))
    refine wp_region_held_drew (S := fun w' => w'.cell? ⟨w.heap.size, 0, none⟩ = some (.int .i64 8) ∧ w'.cell? ⟨w.heap.size, 1, none⟩ = some (.int .i64 m) ∧ w'.cell? ⟨w.heap.size, 2, none⟩ = some (.int .i64 f) ∧ Below w.heap.size w w') (by kernel_rfl) (⟨XZ.drew.cell 0 rfl, XZ.drew.cell 1 rfl, XZ.drew.cell 2 rfl, BZ.drew⟩) (fun hHeld => ?_)
    refine wpAnyH_take (i := 0) (oi := { dst := some 15, op := Op.move (Operand.tmp 3), type := 9, pos := _, after := #[], guard := none }) (v := ?_) rfl (by kernel_rfl) (by kernel_rfl) (by kernel_rfl) (fun _ _ _ h => h) (Or.inl ⟨by kernel_rfl, ?_⟩) (by assumption) ?_
    rotate_left
    · intro w hSw; obtain ⟨z0, z1, z2, _⟩ := hSw; go_simp; first | done | (with_reducible rfl) | (rw [if_neg (by omega)])
    try simp only [Act.put, List.setIfInBounds_toArray, List.set_cons_zero, List.set_cons_succ]
    refine wpAnyH_take (i := 1) (oi := { dst := some 16, op := Op.binOp BinOp.add 9 (Operand.tmp 15) (Operand.const (Value.string ⟨#[32]⟩)) 9, type := 9, pos := _, after := #[{ on := 0, ground := Ground.data }], guard := none }) (v := ?_) rfl (by kernel_rfl) (by kernel_rfl) (by kernel_rfl) (fun _ _ _ h => h) (Or.inl ⟨by kernel_rfl, ?_⟩) (by assumption) ?_
    rotate_left
    · intro w hSw; obtain ⟨z0, z1, z2, _⟩ := hSw; go_simp; first | done | (with_reducible rfl) | (rw [if_neg (by omega)])
    try simp only [Act.put, List.setIfInBounds_toArray, List.set_cons_zero, List.set_cons_succ]
    refine wpAnyH_take (i := 2) (oi := { dst := some 17, op := Op.fieldAddr 39 (Operand.tmp 1) 1, type := 0, pos := _, after := #[], guard := none }) (v := ?_) rfl (by kernel_rfl) (by kernel_rfl) (by kernel_rfl) (fun _ _ _ h => h) (Or.inl ⟨by kernel_rfl, ?_⟩) (by assumption) ?_
    rotate_left
    · intro w hSw; obtain ⟨z0, z1, z2, _⟩ := hSw; go_simp; first | done | (with_reducible rfl) | (rw [if_neg (by omega)])
    try simp only [Act.put, List.setIfInBounds_toArray, List.set_cons_zero, List.set_cons_succ]
    refine wpAnyH_take (i := 3) (oi := { dst := some 18, op := Op.load 3 (Operand.tmp 17), type := 3, pos := _, after := #[{ on := 2, ground := Ground.data }], guard := none }) (v := ?_) rfl (by kernel_rfl) (by kernel_rfl) (by kernel_rfl) (fun _ _ _ h => h) (Or.inl ⟨by kernel_rfl, ?_⟩) (by assumption) ?_
    rotate_left
    · intro w hSw; obtain ⟨z0, z1, z2, _⟩ := hSw; go_simp; first | done | (with_reducible rfl) | (rw [if_neg (by omega)])
    try simp only [Act.put, List.setIfInBounds_toArray, List.set_cons_zero, List.set_cons_succ]
    refine wpAnyH_take (i := 7) (oi := { dst := some 22, op := Op.fieldAddr 39 (Operand.tmp 1) 2, type := 0, pos := _, after := #[], guard := none }) (v := ?_) rfl (by kernel_rfl) (by kernel_rfl) (by kernel_rfl) (fun _ _ _ h => h) (Or.inl ⟨by kernel_rfl, ?_⟩) (by assumption) ?_
    rotate_left
    · intro w hSw; obtain ⟨z0, z1, z2, _⟩ := hSw; go_simp; first | done | (with_reducible rfl) | (rw [if_neg (by omega)])
    try simp only [Act.put, List.setIfInBounds_toArray, List.set_cons_zero, List.set_cons_succ]
    refine wpAnyH_take (i := 8) (oi := { dst := some 23, op := Op.load 3 (Operand.tmp 22), type := 3, pos := _, after := #[{ on := 7, ground := Ground.data }], guard := none }) (v := ?_) rfl (by kernel_rfl) (by kernel_rfl) (by kernel_rfl) (fun _ _ _ h => h) (Or.inl ⟨by kernel_rfl, ?_⟩) (by assumption) ?_
    rotate_left
    · intro w hSw; obtain ⟨z0, z1, z2, _⟩ := hSw; go_simp; first | done | (with_reducible rfl) | (rw [if_neg (by omega)])
    try simp only [Act.put, List.setIfInBounds_toArray, List.set_cons_zero, List.set_cons_succ]
    refine wpAnyH_ready (rs := [4]) (by kernel_rfl) (by simp) ?_
    refine AllReadyH.cons (o := { dst := some 19, op := Op.call { callee := Callee.value (Operand.func 13), args := #[Operand.tmp 18], argTypes := #[3] }, type := 9, pos := _, after := #[{ on := 3, ground := Ground.data }], guard := none }) rfl (fun K hK => ?_) AllReadyH.nil
    rw [if_pos (by kernel_rfl)]
    go_simp
    go_at_call 13
    refine (hD1 _ (hp.below BZ.drew)).mono ?_
    rintro e w1 ⟨rfl, hb1⟩
    have X1 := XZ.drew.all hb1
    have B1 := BZ.drew.trans (hb1.mono BZ.size)
    go_wp2_with fail
    refine hK.out _ _ ⟨X1.cell 0 rfl, X1.cell 1 rfl, X1.cell 2 rfl, B1⟩ (fun hHeld2 => ?_)
    clear hK K
    try simp only [Act.put, List.setIfInBounds_toArray, List.set_cons_zero, List.set_cons_succ]
    refine wpAnyH_take (i := 5) (oi := { dst := some 20, op := Op.binOp BinOp.add 9 (Operand.tmp 16) (Operand.tmp 19) 9, type := 9, pos := _, after := #[{ on := 1, ground := Ground.data }, { on := 4, ground := Ground.data }], guard := none }) (v := ?_) rfl (by kernel_rfl) (by kernel_rfl) (by kernel_rfl) (fun _ _ _ h => h) (Or.inl ⟨by kernel_rfl, ?_⟩) (by assumption) ?_
    rotate_left
    · intro w hSw; obtain ⟨z0, z1, z2, _⟩ := hSw; go_simp; first | done | (with_reducible rfl) | (rw [if_neg (by omega)])
    try simp only [Act.put, List.setIfInBounds_toArray, List.set_cons_zero, List.set_cons_succ]
    refine wpAnyH_take (i := 6) (oi := { dst := some 21, op := Op.binOp BinOp.add 9 (Operand.tmp 20) (Operand.const (Value.string ⟨#[32]⟩)) 9, type := 9, pos := _, after := #[{ on := 5, ground := Ground.data }], guard := none }) (v := ?_) rfl (by kernel_rfl) (by kernel_rfl) (by kernel_rfl) (fun _ _ _ h => h) (Or.inl ⟨by kernel_rfl, ?_⟩) (by assumption) ?_
    rotate_left
    · intro w hSw; obtain ⟨z0, z1, z2, _⟩ := hSw; go_simp; first | done | (with_reducible rfl) | (rw [if_neg (by omega)])
    try simp only [Act.put, List.setIfInBounds_toArray, List.set_cons_zero, List.set_cons_succ]
    refine wpAnyH_ready (rs := [9]) (by kernel_rfl) (by simp) ?_
    refine AllReadyH.cons (o := { dst := some 24, op := Op.call { callee := Callee.value (Operand.func 13), args := #[Operand.tmp 23], argTypes := #[3] }, type := 9, pos := _, after := #[{ on := 8, ground := Ground.data }, { on := 4, ground := Ground.chain }], guard := none }) rfl (fun K hK => ?_) AllReadyH.nil
    rw [if_pos (by kernel_rfl)]
    go_simp
    go_at_call 13
    refine (hD2 _ (hp.below B1)).mono ?_
    rintro e w2 ⟨rfl, hb2⟩
    have X2 := X1.all hb2
    have B2 := B1.trans (hb2.mono B1.size)
    go_wp2_with fail
    refine hK.out _ _ ⟨X2.cell 0 rfl, X2.cell 1 rfl, X2.cell 2 rfl, B2⟩ (fun hHeld3 => ?_)
    clear hK K
    try simp only [Act.put, List.setIfInBounds_toArray, List.set_cons_zero, List.set_cons_succ]
    refine wpAnyH_take (i := 10) (oi := { dst := some 25, op := Op.binOp BinOp.add 9 (Operand.tmp 21) (Operand.tmp 24) 9, type := 9, pos := _, after := #[{ on := 6, ground := Ground.data }, { on := 9, ground := Ground.data }], guard := none }) (v := ?_) rfl (by kernel_rfl) (by kernel_rfl) (by kernel_rfl) (fun _ _ _ h => h) (Or.inl ⟨by kernel_rfl, ?_⟩) (by assumption) ?_
    rotate_left
    · intro w hSw; obtain ⟨z0, z1, z2, _⟩ := hSw; go_simp; first | done | (with_reducible rfl) | (rw [if_neg (by omega)])
    try simp only [Act.put, List.setIfInBounds_toArray, List.set_cons_zero, List.set_cons_succ]
    refine wpAnyH_take (i := 11) (oi := { dst := some 2, op := Op.assign (Operand.tmp 25), type := 9, pos := _, after := #[{ on := 10, ground := Ground.data }, { on := 9, ground := Ground.chain }, { on := 0, ground := Ground.phase }, { on := 1, ground := Ground.phase }, { on := 2, ground := Ground.phase }, { on := 3, ground := Ground.phase }, { on := 4, ground := Ground.phase }, { on := 5, ground := Ground.phase }, { on := 6, ground := Ground.phase }, { on := 7, ground := Ground.phase }, { on := 8, ground := Ground.phase }, { on := 9, ground := Ground.phase }, { on := 10, ground := Ground.phase }], guard := none }) (v := ?_) rfl (by kernel_rfl) (by kernel_rfl) (by kernel_rfl) (fun _ _ _ h => h) (Or.inl ⟨by kernel_rfl, ?_⟩) (by assumption) ?_
    rotate_left
    · intro w hSw; obtain ⟨z0, z1, z2, _⟩ := hSw; go_simp; first | done | (with_reducible rfl) | (rw [if_neg (by omega)])
    try simp only [Act.put, List.setIfInBounds_toArray, List.set_cons_zero, List.set_cons_succ]
    refine wpAnyH_done (by kernel_rfl) ?_ _
    go_wp2
    go_ret
    exact ⟨HV.out, B2⟩
  · rw [if_neg (by decide), h2]
    have HV : Hid (Ending.returned (.string ((⟨#[114, 101, 102]⟩ : ByteArray) ++ ⟨#[32]⟩ ++ A ++ ⟨#[32]⟩ ++ B)) = Ending.returned (.string ((⟨#[114, 101, 102]⟩ : ByteArray) ++ sp ++ A ++ sp ++ B))) := Lib.hid rfl
    go_enter Tryd.func23, Tryd.ntmps23
    go_wp2_with (go_at_call 30; refine (cI_within _ _ _ _).mono ?_; rintro e w' ⟨rfl, rfl⟩)
    have XZ := (Box.new w 39 #[.int .i64 9, .int .i64 m, .int .i64 f])
    have BZ := ((Below.refl w.heap.size w).alloc (Nat.le_refl _) (.cells #[.int .i64 9, .int .i64 m, .int .i64 f] 39))
    refine wp_region_held_drew (S := fun w' => w'.cell? ⟨w.heap.size, 0, none⟩ = some (.int .i64 9) ∧ w'.cell? ⟨w.heap.size, 1, none⟩ = some (.int .i64 m) ∧ w'.cell? ⟨w.heap.size, 2, none⟩ = some (.int .i64 f) ∧ Below w.heap.size w w') (by kernel_rfl) (⟨XZ.drew.cell 0 rfl, XZ.drew.cell 1 rfl, XZ.drew.cell 2 rfl, BZ.drew⟩) (fun hHeld => ?_)
    refine wpAnyH_take (i := 0) (oi := { dst := some 15, op := Op.move (Operand.tmp 3), type := 9, pos := _, after := #[], guard := none }) (v := ?_) rfl (by kernel_rfl) (by kernel_rfl) (by kernel_rfl) (fun _ _ _ h => h) (Or.inl ⟨by kernel_rfl, ?_⟩) (by assumption) ?_
    rotate_left
    · intro w hSw; obtain ⟨z0, z1, z2, _⟩ := hSw; go_simp; first | done | (with_reducible rfl) | (rw [if_neg (by omega)])
    try simp only [Act.put, List.setIfInBounds_toArray, List.set_cons_zero, List.set_cons_succ]
    refine wpAnyH_take (i := 1) (oi := { dst := some 16, op := Op.binOp BinOp.add 9 (Operand.tmp 15) (Operand.const (Value.string ⟨#[32]⟩)) 9, type := 9, pos := _, after := #[{ on := 0, ground := Ground.data }], guard := none }) (v := ?_) rfl (by kernel_rfl) (by kernel_rfl) (by kernel_rfl) (fun _ _ _ h => h) (Or.inl ⟨by kernel_rfl, ?_⟩) (by assumption) ?_
    rotate_left
    · intro w hSw; obtain ⟨z0, z1, z2, _⟩ := hSw; go_simp; first | done | (with_reducible rfl) | (rw [if_neg (by omega)])
    try simp only [Act.put, List.setIfInBounds_toArray, List.set_cons_zero, List.set_cons_succ]
    refine wpAnyH_take (i := 2) (oi := { dst := some 17, op := Op.fieldAddr 39 (Operand.tmp 1) 1, type := 0, pos := _, after := #[], guard := none }) (v := ?_) rfl (by kernel_rfl) (by kernel_rfl) (by kernel_rfl) (fun _ _ _ h => h) (Or.inl ⟨by kernel_rfl, ?_⟩) (by assumption) ?_
    rotate_left
    · intro w hSw; obtain ⟨z0, z1, z2, _⟩ := hSw; go_simp; first | done | (with_reducible rfl) | (rw [if_neg (by omega)])
    try simp only [Act.put, List.setIfInBounds_toArray, List.set_cons_zero, List.set_cons_succ]
    refine wpAnyH_take (i := 3) (oi := { dst := some 18, op := Op.load 3 (Operand.tmp 17), type := 3, pos := _, after := #[{ on := 2, ground := Ground.data }], guard := none }) (v := ?_) rfl (by kernel_rfl) (by kernel_rfl) (by kernel_rfl) (fun _ _ _ h => h) (Or.inl ⟨by kernel_rfl, ?_⟩) (by assumption) ?_
    rotate_left
    · intro w hSw; obtain ⟨z0, z1, z2, _⟩ := hSw; go_simp; first | done | (with_reducible rfl) | (rw [if_neg (by omega)])
    try simp only [Act.put, List.setIfInBounds_toArray, List.set_cons_zero, List.set_cons_succ]
    refine wpAnyH_take (i := 7) (oi := { dst := some 22, op := Op.fieldAddr 39 (Operand.tmp 1) 2, type := 0, pos := _, after := #[], guard := none }) (v := ?_) rfl (by kernel_rfl) (by kernel_rfl) (by kernel_rfl) (fun _ _ _ h => h) (Or.inl ⟨by kernel_rfl, ?_⟩) (by assumption) ?_
    rotate_left
    · intro w hSw; obtain ⟨z0, z1, z2, _⟩ := hSw; go_simp; first | done | (with_reducible rfl) | (rw [if_neg (by omega)])
    try simp only [Act.put, List.setIfInBounds_toArray, List.set_cons_zero, List.set_cons_succ]
    refine wpAnyH_take (i := 8) (oi := { dst := some 23, op := Op.load 3 (Operand.tmp 22), type := 3, pos := _, after := #[{ on := 7, ground := Ground.data }], guard := none }) (v := ?_) rfl (by kernel_rfl) (by kernel_rfl) (by kernel_rfl) (fun _ _ _ h => h) (Or.inl ⟨by kernel_rfl, ?_⟩) (by assumption) ?_
    rotate_left
    · intro w hSw; obtain ⟨z0, z1, z2, _⟩ := hSw; go_simp; first | done | (with_reducible rfl) | (rw [if_neg (by omega)])
    try simp only [Act.put, List.setIfInBounds_toArray, List.set_cons_zero, List.set_cons_succ]
    refine wpAnyH_ready (rs := [4]) (by kernel_rfl) (by simp) ?_
    refine AllReadyH.cons (o := { dst := some 19, op := Op.call { callee := Callee.value (Operand.func 13), args := #[Operand.tmp 18], argTypes := #[3] }, type := 9, pos := _, after := #[{ on := 3, ground := Ground.data }], guard := none }) rfl (fun K hK => ?_) AllReadyH.nil
    rw [if_pos (by kernel_rfl)]
    go_simp
    go_at_call 13
    refine (hD1 _ (hp.below BZ.drew)).mono ?_
    rintro e w1 ⟨rfl, hb1⟩
    have X1 := XZ.drew.all hb1
    have B1 := BZ.drew.trans (hb1.mono BZ.size)
    go_wp2_with fail
    refine hK.out _ _ ⟨X1.cell 0 rfl, X1.cell 1 rfl, X1.cell 2 rfl, B1⟩ (fun hHeld2 => ?_)
    clear hK K
    try simp only [Act.put, List.setIfInBounds_toArray, List.set_cons_zero, List.set_cons_succ]
    refine wpAnyH_take (i := 5) (oi := { dst := some 20, op := Op.binOp BinOp.add 9 (Operand.tmp 16) (Operand.tmp 19) 9, type := 9, pos := _, after := #[{ on := 1, ground := Ground.data }, { on := 4, ground := Ground.data }], guard := none }) (v := ?_) rfl (by kernel_rfl) (by kernel_rfl) (by kernel_rfl) (fun _ _ _ h => h) (Or.inl ⟨by kernel_rfl, ?_⟩) (by assumption) ?_
    rotate_left
    · intro w hSw; obtain ⟨z0, z1, z2, _⟩ := hSw; go_simp; first | done | (with_reducible rfl) | (rw [if_neg (by omega)])
    try simp only [Act.put, List.setIfInBounds_toArray, List.set_cons_zero, List.set_cons_succ]
    refine wpAnyH_take (i := 6) (oi := { dst := some 21, op := Op.binOp BinOp.add 9 (Operand.tmp 20) (Operand.const (Value.string ⟨#[32]⟩)) 9, type := 9, pos := _, after := #[{ on := 5, ground := Ground.data }], guard := none }) (v := ?_) rfl (by kernel_rfl) (by kernel_rfl) (by kernel_rfl) (fun _ _ _ h => h) (Or.inl ⟨by kernel_rfl, ?_⟩) (by assumption) ?_
    rotate_left
    · intro w hSw; obtain ⟨z0, z1, z2, _⟩ := hSw; go_simp; first | done | (with_reducible rfl) | (rw [if_neg (by omega)])
    try simp only [Act.put, List.setIfInBounds_toArray, List.set_cons_zero, List.set_cons_succ]
    refine wpAnyH_ready (rs := [9]) (by kernel_rfl) (by simp) ?_
    refine AllReadyH.cons (o := { dst := some 24, op := Op.call { callee := Callee.value (Operand.func 13), args := #[Operand.tmp 23], argTypes := #[3] }, type := 9, pos := _, after := #[{ on := 8, ground := Ground.data }, { on := 4, ground := Ground.chain }], guard := none }) rfl (fun K hK => ?_) AllReadyH.nil
    rw [if_pos (by kernel_rfl)]
    go_simp
    go_at_call 13
    refine (hD2 _ (hp.below B1)).mono ?_
    rintro e w2 ⟨rfl, hb2⟩
    have X2 := X1.all hb2
    have B2 := B1.trans (hb2.mono B1.size)
    go_wp2_with fail
    refine hK.out _ _ ⟨X2.cell 0 rfl, X2.cell 1 rfl, X2.cell 2 rfl, B2⟩ (fun hHeld3 => ?_)
    clear hK K
    try simp only [Act.put, List.setIfInBounds_toArray, List.set_cons_zero, List.set_cons_succ]
    refine wpAnyH_take (i := 10) (oi := { dst := some 25, op := Op.binOp BinOp.add 9 (Operand.tmp 21) (Operand.tmp 24) 9, type := 9, pos := _, after := #[{ on := 6, ground := Ground.data }, { on := 9, ground := Ground.data }], guard := none }) (v := ?_) rfl (by kernel_rfl) (by kernel_rfl) (by kernel_rfl) (fun _ _ _ h => h) (Or.inl ⟨by kernel_rfl, ?_⟩) (by assumption) ?_
    rotate_left
    · intro w hSw; obtain ⟨z0, z1, z2, _⟩ := hSw; go_simp; first | done | (with_reducible rfl) | (rw [if_neg (by omega)])
    try simp only [Act.put, List.setIfInBounds_toArray, List.set_cons_zero, List.set_cons_succ]
    refine wpAnyH_take (i := 11) (oi := { dst := some 2, op := Op.assign (Operand.tmp 25), type := 9, pos := _, after := #[{ on := 10, ground := Ground.data }, { on := 9, ground := Ground.chain }, { on := 0, ground := Ground.phase }, { on := 1, ground := Ground.phase }, { on := 2, ground := Ground.phase }, { on := 3, ground := Ground.phase }, { on := 4, ground := Ground.phase }, { on := 5, ground := Ground.phase }, { on := 6, ground := Ground.phase }, { on := 7, ground := Ground.phase }, { on := 8, ground := Ground.phase }, { on := 9, ground := Ground.phase }, { on := 10, ground := Ground.phase }], guard := none }) (v := ?_) rfl (by kernel_rfl) (by kernel_rfl) (by kernel_rfl) (fun _ _ _ h => h) (Or.inl ⟨by kernel_rfl, ?_⟩) (by assumption) ?_
    rotate_left
    · intro w hSw; obtain ⟨z0, z1, z2, _⟩ := hSw; go_simp; first | done | (with_reducible rfl) | (rw [if_neg (by omega)])
    try simp only [Act.put, List.setIfInBounds_toArray, List.set_cons_zero, List.set_cons_succ]
    refine wpAnyH_done (by kernel_rfl) ?_ _
    go_wp2
    go_ret
    exact ⟨HV.out, B2⟩
  · rw [if_neg h3, h4]
    have HV : Hid (Ending.returned (.string ((⟨#[63]⟩ : ByteArray) ++ ⟨#[32]⟩ ++ A ++ ⟨#[32]⟩ ++ B)) = Ending.returned (.string ((⟨#[63]⟩ : ByteArray) ++ sp ++ A ++ sp ++ B))) := Lib.hid rfl
    go_enter Tryd.func23, Tryd.ntmps23
    go_wp2_with (go_at_call 30; refine (cI_within _ _ _ _).mono ?_; rintro e w' ⟨rfl, rfl⟩)
    have XZ := (Box.new w 39 #[.int .i64 c, .int .i64 m, .int .i64 f])
    have BZ := ((Below.refl w.heap.size w).alloc (Nat.le_refl _) (.cells #[.int .i64 c, .int .i64 m, .int .i64 f] 39))
    refine wp_region_held_drew (S := fun w' => w'.cell? ⟨w.heap.size, 0, none⟩ = some (.int .i64 c) ∧ w'.cell? ⟨w.heap.size, 1, none⟩ = some (.int .i64 m) ∧ w'.cell? ⟨w.heap.size, 2, none⟩ = some (.int .i64 f) ∧ Below w.heap.size w w') (by kernel_rfl) (⟨XZ.drew.cell 0 rfl, XZ.drew.cell 1 rfl, XZ.drew.cell 2 rfl, BZ.drew⟩) (fun hHeld => ?_)
    refine wpAnyH_take (i := 0) (oi := { dst := some 15, op := Op.move (Operand.tmp 3), type := 9, pos := _, after := #[], guard := none }) (v := ?_) rfl (by kernel_rfl) (by kernel_rfl) (by kernel_rfl) (fun _ _ _ h => h) (Or.inl ⟨by kernel_rfl, ?_⟩) (by assumption) ?_
    rotate_left
    · intro w hSw; obtain ⟨z0, z1, z2, _⟩ := hSw; go_simp; first | done | (with_reducible rfl) | (rw [if_neg (by omega)])
    try simp only [Act.put, List.setIfInBounds_toArray, List.set_cons_zero, List.set_cons_succ]
    refine wpAnyH_take (i := 1) (oi := { dst := some 16, op := Op.binOp BinOp.add 9 (Operand.tmp 15) (Operand.const (Value.string ⟨#[32]⟩)) 9, type := 9, pos := _, after := #[{ on := 0, ground := Ground.data }], guard := none }) (v := ?_) rfl (by kernel_rfl) (by kernel_rfl) (by kernel_rfl) (fun _ _ _ h => h) (Or.inl ⟨by kernel_rfl, ?_⟩) (by assumption) ?_
    rotate_left
    · intro w hSw; obtain ⟨z0, z1, z2, _⟩ := hSw; go_simp; first | done | (with_reducible rfl) | (rw [if_neg (by omega)])
    try simp only [Act.put, List.setIfInBounds_toArray, List.set_cons_zero, List.set_cons_succ]
    refine wpAnyH_take (i := 2) (oi := { dst := some 17, op := Op.fieldAddr 39 (Operand.tmp 1) 1, type := 0, pos := _, after := #[], guard := none }) (v := ?_) rfl (by kernel_rfl) (by kernel_rfl) (by kernel_rfl) (fun _ _ _ h => h) (Or.inl ⟨by kernel_rfl, ?_⟩) (by assumption) ?_
    rotate_left
    · intro w hSw; obtain ⟨z0, z1, z2, _⟩ := hSw; go_simp; first | done | (with_reducible rfl) | (rw [if_neg (by omega)])
    try simp only [Act.put, List.setIfInBounds_toArray, List.set_cons_zero, List.set_cons_succ]
    refine wpAnyH_take (i := 3) (oi := { dst := some 18, op := Op.load 3 (Operand.tmp 17), type := 3, pos := _, after := #[{ on := 2, ground := Ground.data }], guard := none }) (v := ?_) rfl (by kernel_rfl) (by kernel_rfl) (by kernel_rfl) (fun _ _ _ h => h) (Or.inl ⟨by kernel_rfl, ?_⟩) (by assumption) ?_
    rotate_left
    · intro w hSw; obtain ⟨z0, z1, z2, _⟩ := hSw; go_simp; first | done | (with_reducible rfl) | (rw [if_neg (by omega)])
    try simp only [Act.put, List.setIfInBounds_toArray, List.set_cons_zero, List.set_cons_succ]
    refine wpAnyH_take (i := 7) (oi := { dst := some 22, op := Op.fieldAddr 39 (Operand.tmp 1) 2, type := 0, pos := _, after := #[], guard := none }) (v := ?_) rfl (by kernel_rfl) (by kernel_rfl) (by kernel_rfl) (fun _ _ _ h => h) (Or.inl ⟨by kernel_rfl, ?_⟩) (by assumption) ?_
    rotate_left
    · intro w hSw; obtain ⟨z0, z1, z2, _⟩ := hSw; go_simp; first | done | (with_reducible rfl) | (rw [if_neg (by omega)])
    try simp only [Act.put, List.setIfInBounds_toArray, List.set_cons_zero, List.set_cons_succ]
    refine wpAnyH_take (i := 8) (oi := { dst := some 23, op := Op.load 3 (Operand.tmp 22), type := 3, pos := _, after := #[{ on := 7, ground := Ground.data }], guard := none }) (v := ?_) rfl (by kernel_rfl) (by kernel_rfl) (by kernel_rfl) (fun _ _ _ h => h) (Or.inl ⟨by kernel_rfl, ?_⟩) (by assumption) ?_
    rotate_left
    · intro w hSw; obtain ⟨z0, z1, z2, _⟩ := hSw; go_simp; first | done | (with_reducible rfl) | (rw [if_neg (by omega)])
    try simp only [Act.put, List.setIfInBounds_toArray, List.set_cons_zero, List.set_cons_succ]
    refine wpAnyH_ready (rs := [4]) (by kernel_rfl) (by simp) ?_
    refine AllReadyH.cons (o := { dst := some 19, op := Op.call { callee := Callee.value (Operand.func 13), args := #[Operand.tmp 18], argTypes := #[3] }, type := 9, pos := _, after := #[{ on := 3, ground := Ground.data }], guard := none }) rfl (fun K hK => ?_) AllReadyH.nil
    rw [if_pos (by kernel_rfl)]
    go_simp
    go_at_call 13
    refine (hD1 _ (hp.below BZ.drew)).mono ?_
    rintro e w1 ⟨rfl, hb1⟩
    have X1 := XZ.drew.all hb1
    have B1 := BZ.drew.trans (hb1.mono BZ.size)
    go_wp2_with fail
    refine hK.out _ _ ⟨X1.cell 0 rfl, X1.cell 1 rfl, X1.cell 2 rfl, B1⟩ (fun hHeld2 => ?_)
    clear hK K
    try simp only [Act.put, List.setIfInBounds_toArray, List.set_cons_zero, List.set_cons_succ]
    refine wpAnyH_take (i := 5) (oi := { dst := some 20, op := Op.binOp BinOp.add 9 (Operand.tmp 16) (Operand.tmp 19) 9, type := 9, pos := _, after := #[{ on := 1, ground := Ground.data }, { on := 4, ground := Ground.data }], guard := none }) (v := ?_) rfl (by kernel_rfl) (by kernel_rfl) (by kernel_rfl) (fun _ _ _ h => h) (Or.inl ⟨by kernel_rfl, ?_⟩) (by assumption) ?_
    rotate_left
    · intro w hSw; obtain ⟨z0, z1, z2, _⟩ := hSw; go_simp; first | done | (with_reducible rfl) | (rw [if_neg (by omega)])
    try simp only [Act.put, List.setIfInBounds_toArray, List.set_cons_zero, List.set_cons_succ]
    refine wpAnyH_take (i := 6) (oi := { dst := some 21, op := Op.binOp BinOp.add 9 (Operand.tmp 20) (Operand.const (Value.string ⟨#[32]⟩)) 9, type := 9, pos := _, after := #[{ on := 5, ground := Ground.data }], guard := none }) (v := ?_) rfl (by kernel_rfl) (by kernel_rfl) (by kernel_rfl) (fun _ _ _ h => h) (Or.inl ⟨by kernel_rfl, ?_⟩) (by assumption) ?_
    rotate_left
    · intro w hSw; obtain ⟨z0, z1, z2, _⟩ := hSw; go_simp; first | done | (with_reducible rfl) | (rw [if_neg (by omega)])
    try simp only [Act.put, List.setIfInBounds_toArray, List.set_cons_zero, List.set_cons_succ]
    refine wpAnyH_ready (rs := [9]) (by kernel_rfl) (by simp) ?_
    refine AllReadyH.cons (o := { dst := some 24, op := Op.call { callee := Callee.value (Operand.func 13), args := #[Operand.tmp 23], argTypes := #[3] }, type := 9, pos := _, after := #[{ on := 8, ground := Ground.data }, { on := 4, ground := Ground.chain }], guard := none }) rfl (fun K hK => ?_) AllReadyH.nil
    rw [if_pos (by kernel_rfl)]
    go_simp
    go_at_call 13
    refine (hD2 _ (hp.below B1)).mono ?_
    rintro e w2 ⟨rfl, hb2⟩
    have X2 := X1.all hb2
    have B2 := B1.trans (hb2.mono B1.size)
    go_wp2_with fail
    refine hK.out _ _ ⟨X2.cell 0 rfl, X2.cell 1 rfl, X2.cell 2 rfl, B2⟩ (fun hHeld3 => ?_)
    clear hK K
    try simp only [Act.put, List.setIfInBounds_toArray, List.set_cons_zero, List.set_cons_succ]
    refine wpAnyH_take (i := 10) (oi := { dst := some 25, op := Op.binOp BinOp.add 9 (Operand.tmp 21) (Operand.tmp 24) 9, type := 9, pos := _, after := #[{ on := 6, ground := Ground.data }, { on := 9, ground := Ground.data }], guard := none }) (v := ?_) rfl (by kernel_rfl) (by kernel_rfl) (by kernel_rfl) (fun _ _ _ h => h) (Or.inl ⟨by kernel_rfl, ?_⟩) (by assumption) ?_
    rotate_left
    · intro w hSw; obtain ⟨z0, z1, z2, _⟩ := hSw; go_simp; first | done | (with_reducible rfl) | (rw [if_neg (by omega)])
    try simp only [Act.put, List.setIfInBounds_toArray, List.set_cons_zero, List.set_cons_succ]
    refine wpAnyH_take (i := 11) (oi := { dst := some 2, op := Op.assign (Operand.tmp 25), type := 9, pos := _, after := #[{ on := 10, ground := Ground.data }, { on := 9, ground := Ground.chain }, { on := 0, ground := Ground.phase }, { on := 1, ground := Ground.phase }, { on := 2, ground := Ground.phase }, { on := 3, ground := Ground.phase }, { on := 4, ground := Ground.phase }, { on := 5, ground := Ground.phase }, { on := 6, ground := Ground.phase }, { on := 7, ground := Ground.phase }, { on := 8, ground := Ground.phase }, { on := 9, ground := Ground.phase }, { on := 10, ground := Ground.phase }], guard := none }) (v := ?_) rfl (by kernel_rfl) (by kernel_rfl) (by kernel_rfl) (fun _ _ _ h => h) (Or.inl ⟨by kernel_rfl, ?_⟩) (by assumption) ?_
    rotate_left
    · intro w hSw; obtain ⟨z0, z1, z2, _⟩ := hSw; go_simp; first | done | (with_reducible rfl) | (rw [if_neg (by omega)])
    try simp only [Act.put, List.setIfInBounds_toArray, List.set_cons_zero, List.set_cons_succ]
    refine wpAnyH_done (by kernel_rfl) ?_ _
    go_wp2
    go_ret
    exact ⟨HV.out, B2⟩
set_option maxRecDepth 20000 in
set_option maxHeartbeats 4000000 in
theorem cP_ViolationText (c m f : Int) (w : World) (m0 : -9223372036854775808 ≤ m) (m1 : m ≤ 9223372036854775807) (f0 : -9223372036854775808 ≤ f) (f1 : f ≤ 9223372036854775807) :
    Calls Tryd.prog 21 #[.agg #[.int .i64 c, .int .i64 m, .int .i64 f]] w fun e w' => e = .returned (.string (vtx c m f)) ∧ Below w.heap.size w w' := by
  have hA := itoa_size m m0 m1
  have hB := itoa_size f f0 f1
  have hD1 := fun (w : World) (h : True) => cP_Digits m w m0 m1
  have hD2 := fun (w : World) (h : True) => cP_Digits f w f0 f1
  unfold vtx
  generalize tx (Lib.itoa m) = A at hA hD1 ⊢
  generalize tx (Lib.itoa f) = B at hB hD2 ⊢
  rcases v_cases c with ⟨rfl, h1⟩ | ⟨rfl, h1, h2⟩ | ⟨rfl, h1, h2⟩ | ⟨rfl, h1, h2⟩ | ⟨rfl, h1, h2⟩ | ⟨rfl, h1, h2⟩ | ⟨rfl, h1, h2⟩ | ⟨rfl, h1, h2⟩ | ⟨rfl, h1, h2⟩ | ⟨rfl, h1, h2⟩ | ⟨h1, h2, h3, h4⟩
  · rw [if_pos rfl]
    go_enter Tryd.func21, Tryd.ntmps21
    go_wp2_with (go_at_call 34; refine (cP_in _ _ _ _).mono ?_; rintro e w' ⟨rfl, rfl⟩)
    go_ret
    exact ⟨rfl, by repeat (first | exact Below.refl _ _ | refine Below.alloc ?_ (by simp; omega) _ | refine Below.alloc ?_ (by simp) _)⟩
  · rw [if_neg (by decide), h2]
    have HV : Hid (Ending.returned (.string ((⟨#[109, 115, 103, 115]⟩ : ByteArray) ++ ⟨#[32]⟩ ++ A ++ ⟨#[32]⟩ ++ B)) = Ending.returned (.string ((⟨#[109, 115, 103, 115]⟩ : ByteArray) ++ sp ++ A ++ sp ++ B))) := Lib.hid rfl
    go_enter Tryd.func21, Tryd.ntmps21
    go_wp2_with (go_at_call 34; refine (cP_in _ _ _ _).mono ?_; rintro e w' ⟨rfl, rfl⟩)
    have XZ := (Box.new w 39 #[.int .i64 1, .int .i64 m, .int .i64 f]).alloc (.cells #[.string ⟨#[111, 107]⟩, .string ⟨#[109, 115, 103, 115]⟩, .string ⟨#[105, 100]⟩, .string ⟨#[116, 119, 105, 99, 101]⟩, .string ⟨#[102, 105, 101, 108, 100, 115]⟩, .string ⟨#[110, 117, 109, 98, 101, 114]⟩, .string ⟨#[115, 97, 109, 101]⟩, .string ⟨#[107, 105, 110, 100]⟩, .string ⟨#[112, 97, 99, 107, 101, 100]⟩, .string ⟨#[114, 101, 102]⟩] 9)
    have BZ := ((Below.refl w.heap.size w).alloc (Nat.le_refl _) (.cells #[.int .i64 1, .int .i64 m, .int .i64 f] 39)).alloc (by simp) (.cells #[.string ⟨#[111, 107]⟩, .string ⟨#[109, 115, 103, 115]⟩, .string ⟨#[105, 100]⟩, .string ⟨#[116, 119, 105, 99, 101]⟩, .string ⟨#[102, 105, 101, 108, 100, 115]⟩, .string ⟨#[110, 117, 109, 98, 101, 114]⟩, .string ⟨#[115, 97, 109, 101]⟩, .string ⟨#[107, 105, 110, 100]⟩, .string ⟨#[112, 97, 99, 107, 101, 100]⟩, .string ⟨#[114, 101, 102]⟩] 9)
    refine wp_region_held_drew (S := fun w' => w'.cell? ⟨w.heap.size, 0, none⟩ = some (.int .i64 1) ∧ w'.cell? ⟨w.heap.size, 1, none⟩ = some (.int .i64 m) ∧ w'.cell? ⟨w.heap.size, 2, none⟩ = some (.int .i64 f) ∧ Below w.heap.size w w') (by kernel_rfl) (⟨XZ.drew.cell 0 rfl, XZ.drew.cell 1 rfl, XZ.drew.cell 2 rfl, BZ.drew⟩) (fun hHeld => ?_)
    refine wpAnyH_take (i := 0) (oi := { dst := some 16, op := Op.move (Operand.tmp 3), type := 9, pos := _, after := #[], guard := none }) (v := ?_) rfl (by kernel_rfl) (by kernel_rfl) (by kernel_rfl) (fun _ _ _ h => h) (Or.inl ⟨by kernel_rfl, ?_⟩) (by assumption) ?_
    rotate_left
    · intro w hSw; obtain ⟨z0, z1, z2, _⟩ := hSw; go_simp; first | done | (with_reducible rfl) | (rw [if_neg (by omega)])
    try simp only [Act.put, List.setIfInBounds_toArray, List.set_cons_zero, List.set_cons_succ]
    refine wpAnyH_take (i := 1) (oi := { dst := some 17, op := Op.binOp BinOp.add 9 (Operand.tmp 16) (Operand.const (Value.string ⟨#[32]⟩)) 9, type := 9, pos := _, after := #[{ on := 0, ground := Ground.data }], guard := none }) (v := ?_) rfl (by kernel_rfl) (by kernel_rfl) (by kernel_rfl) (fun _ _ _ h => h) (Or.inl ⟨by kernel_rfl, ?_⟩) (by assumption) ?_
    rotate_left
    · intro w hSw; obtain ⟨z0, z1, z2, _⟩ := hSw; go_simp; first | done | (with_reducible rfl) | (rw [if_neg (by omega)])
    try simp only [Act.put, List.setIfInBounds_toArray, List.set_cons_zero, List.set_cons_succ]
    refine wpAnyH_take (i := 2) (oi := { dst := some 18, op := Op.fieldAddr 39 (Operand.tmp 1) 1, type := 0, pos := _, after := #[], guard := none }) (v := ?_) rfl (by kernel_rfl) (by kernel_rfl) (by kernel_rfl) (fun _ _ _ h => h) (Or.inl ⟨by kernel_rfl, ?_⟩) (by assumption) ?_
    rotate_left
    · intro w hSw; obtain ⟨z0, z1, z2, _⟩ := hSw; go_simp; first | done | (with_reducible rfl) | (rw [if_neg (by omega)])
    try simp only [Act.put, List.setIfInBounds_toArray, List.set_cons_zero, List.set_cons_succ]
    refine wpAnyH_take (i := 3) (oi := { dst := some 19, op := Op.load 3 (Operand.tmp 18), type := 3, pos := _, after := #[{ on := 2, ground := Ground.data }], guard := none }) (v := ?_) rfl (by kernel_rfl) (by kernel_rfl) (by kernel_rfl) (fun _ _ _ h => h) (Or.inl ⟨by kernel_rfl, ?_⟩) (by assumption) ?_
    rotate_left
    · intro w hSw; obtain ⟨z0, z1, z2, _⟩ := hSw; go_simp; first | done | (with_reducible rfl) | (rw [if_neg (by omega)])
    try simp only [Act.put, List.setIfInBounds_toArray, List.set_cons_zero, List.set_cons_succ]
    refine wpAnyH_take (i := 7) (oi := { dst := some 23, op := Op.fieldAddr 39 (Operand.tmp 1) 2, type := 0, pos := _, after := #[], guard := none }) (v := ?_) rfl (by kernel_rfl) (by kernel_rfl) (by kernel_rfl) (fun _ _ _ h => h) (Or.inl ⟨by kernel_rfl, ?_⟩) (by assumption) ?_
    rotate_left
    · intro w hSw; obtain ⟨z0, z1, z2, _⟩ := hSw; go_simp; first | done | (with_reducible rfl) | (rw [if_neg (by omega)])
    try simp only [Act.put, List.setIfInBounds_toArray, List.set_cons_zero, List.set_cons_succ]
    refine wpAnyH_take (i := 8) (oi := { dst := some 24, op := Op.load 3 (Operand.tmp 23), type := 3, pos := _, after := #[{ on := 7, ground := Ground.data }], guard := none }) (v := ?_) rfl (by kernel_rfl) (by kernel_rfl) (by kernel_rfl) (fun _ _ _ h => h) (Or.inl ⟨by kernel_rfl, ?_⟩) (by assumption) ?_
    rotate_left
    · intro w hSw; obtain ⟨z0, z1, z2, _⟩ := hSw; go_simp; first | done | (with_reducible rfl) | (rw [if_neg (by omega)])
    try simp only [Act.put, List.setIfInBounds_toArray, List.set_cons_zero, List.set_cons_succ]
    refine wpAnyH_ready (rs := [4]) (by kernel_rfl) (by simp) ?_
    refine AllReadyH.cons (o := { dst := some 20, op := Op.call { callee := Callee.value (Operand.func 12), args := #[Operand.tmp 19], argTypes := #[3] }, type := 9, pos := _, after := #[{ on := 3, ground := Ground.data }], guard := none }) rfl (fun K hK => ?_) AllReadyH.nil
    rw [if_pos (by kernel_rfl)]
    go_simp
    go_at_call 12
    refine (hD1 _ trivial).mono ?_
    rintro e w1 ⟨rfl, hb1⟩
    have X1 := XZ.drew.all hb1
    have B1 := BZ.drew.trans (hb1.mono BZ.size)
    go_wp2_with fail
    refine hK.out _ _ ⟨X1.cell 0 rfl, X1.cell 1 rfl, X1.cell 2 rfl, B1⟩ (fun hHeld2 => ?_)
    clear hK K
    try simp only [Act.put, List.setIfInBounds_toArray, List.set_cons_zero, List.set_cons_succ]
    refine wpAnyH_take (i := 5) (oi := { dst := some 21, op := Op.binOp BinOp.add 9 (Operand.tmp 17) (Operand.tmp 20) 9, type := 9, pos := _, after := #[{ on := 1, ground := Ground.data }, { on := 4, ground := Ground.data }], guard := none }) (v := ?_) rfl (by kernel_rfl) (by kernel_rfl) (by kernel_rfl) (fun _ _ _ h => h) (Or.inl ⟨by kernel_rfl, ?_⟩) (by assumption) ?_
    rotate_left
    · intro w hSw; obtain ⟨z0, z1, z2, _⟩ := hSw; go_simp; first | done | (with_reducible rfl) | (rw [if_neg (by omega)])
    try simp only [Act.put, List.setIfInBounds_toArray, List.set_cons_zero, List.set_cons_succ]
    refine wpAnyH_take (i := 6) (oi := { dst := some 22, op := Op.binOp BinOp.add 9 (Operand.tmp 21) (Operand.const (Value.string ⟨#[32]⟩)) 9, type := 9, pos := _, after := #[{ on := 5, ground := Ground.data }], guard := none }) (v := ?_) rfl (by kernel_rfl) (by kernel_rfl) (by kernel_rfl) (fun _ _ _ h => h) (Or.inl ⟨by kernel_rfl, ?_⟩) (by assumption) ?_
    rotate_left
    · intro w hSw; obtain ⟨z0, z1, z2, _⟩ := hSw; go_simp; first | done | (with_reducible rfl) | (rw [if_neg (by omega)])
    try simp only [Act.put, List.setIfInBounds_toArray, List.set_cons_zero, List.set_cons_succ]
    refine wpAnyH_ready (rs := [9]) (by kernel_rfl) (by simp) ?_
    refine AllReadyH.cons (o := { dst := some 25, op := Op.call { callee := Callee.value (Operand.func 12), args := #[Operand.tmp 24], argTypes := #[3] }, type := 9, pos := _, after := #[{ on := 8, ground := Ground.data }, { on := 4, ground := Ground.chain }], guard := none }) rfl (fun K hK => ?_) AllReadyH.nil
    rw [if_pos (by kernel_rfl)]
    go_simp
    go_at_call 12
    refine (hD2 _ trivial).mono ?_
    rintro e w2 ⟨rfl, hb2⟩
    have X2 := X1.all hb2
    have B2 := B1.trans (hb2.mono B1.size)
    go_wp2_with fail
    refine hK.out _ _ ⟨X2.cell 0 rfl, X2.cell 1 rfl, X2.cell 2 rfl, B2⟩ (fun hHeld3 => ?_)
    clear hK K
    try simp only [Act.put, List.setIfInBounds_toArray, List.set_cons_zero, List.set_cons_succ]
    refine wpAnyH_take (i := 10) (oi := { dst := some 26, op := Op.binOp BinOp.add 9 (Operand.tmp 22) (Operand.tmp 25) 9, type := 9, pos := _, after := #[{ on := 6, ground := Ground.data }, { on := 9, ground := Ground.data }], guard := none }) (v := ?_) rfl (by kernel_rfl) (by kernel_rfl) (by kernel_rfl) (fun _ _ _ h => h) (Or.inl ⟨by kernel_rfl, ?_⟩) (by assumption) ?_
    rotate_left
    · intro w hSw; obtain ⟨z0, z1, z2, _⟩ := hSw; go_simp; first | done | (with_reducible rfl) | (rw [if_neg (by omega)])
    try simp only [Act.put, List.setIfInBounds_toArray, List.set_cons_zero, List.set_cons_succ]
    refine wpAnyH_take (i := 11) (oi := { dst := some 2, op := Op.assign (Operand.tmp 26), type := 9, pos := _, after := #[{ on := 10, ground := Ground.data }, { on := 9, ground := Ground.chain }, { on := 0, ground := Ground.phase }, { on := 1, ground := Ground.phase }, { on := 2, ground := Ground.phase }, { on := 3, ground := Ground.phase }, { on := 4, ground := Ground.phase }, { on := 5, ground := Ground.phase }, { on := 6, ground := Ground.phase }, { on := 7, ground := Ground.phase }, { on := 8, ground := Ground.phase }, { on := 9, ground := Ground.phase }, { on := 10, ground := Ground.phase }], guard := none }) (v := ?_) rfl (by kernel_rfl) (by kernel_rfl) (by kernel_rfl) (fun _ _ _ h => h) (Or.inl ⟨by kernel_rfl, ?_⟩) (by assumption) ?_
    rotate_left
    · intro w hSw; obtain ⟨z0, z1, z2, _⟩ := hSw; go_simp; first | done | (with_reducible rfl) | (rw [if_neg (by omega)])
    try simp only [Act.put, List.setIfInBounds_toArray, List.set_cons_zero, List.set_cons_succ]
    refine wpAnyH_done (by kernel_rfl) ?_ _
    go_wp2
    go_ret
    exact ⟨HV.out, B2⟩
  · rw [if_neg (by decide), h2]
    have HV : Hid (Ending.returned (.string ((⟨#[105, 100]⟩ : ByteArray) ++ ⟨#[32]⟩ ++ A ++ ⟨#[32]⟩ ++ B)) = Ending.returned (.string ((⟨#[105, 100]⟩ : ByteArray) ++ sp ++ A ++ sp ++ B))) := Lib.hid rfl
    go_enter Tryd.func21, Tryd.ntmps21
    go_wp2_with (go_at_call 34; refine (cP_in _ _ _ _).mono ?_; rintro e w' ⟨rfl, rfl⟩)
    have XZ := (Box.new w 39 #[.int .i64 2, .int .i64 m, .int .i64 f]).alloc (.cells #[.string ⟨#[111, 107]⟩, .string ⟨#[109, 115, 103, 115]⟩, .string ⟨#[105, 100]⟩, .string ⟨#[116, 119, 105, 99, 101]⟩, .string ⟨#[102, 105, 101, 108, 100, 115]⟩, .string ⟨#[110, 117, 109, 98, 101, 114]⟩, .string ⟨#[115, 97, 109, 101]⟩, .string ⟨#[107, 105, 110, 100]⟩, .string ⟨#[112, 97, 99, 107, 101, 100]⟩, .string ⟨#[114, 101, 102]⟩] 9)
    have BZ := ((Below.refl w.heap.size w).alloc (Nat.le_refl _) (.cells #[.int .i64 2, .int .i64 m, .int .i64 f] 39)).alloc (by simp) (.cells #[.string ⟨#[111, 107]⟩, .string ⟨#[109, 115, 103, 115]⟩, .string ⟨#[105, 100]⟩, .string ⟨#[116, 119, 105, 99, 101]⟩, .string ⟨#[102, 105, 101, 108, 100, 115]⟩, .string ⟨#[110, 117, 109, 98, 101, 114]⟩, .string ⟨#[115, 97, 109, 101]⟩, .string ⟨#[107, 105, 110, 100]⟩, .string ⟨#[112, 97, 99, 107, 101, 100]⟩, .string ⟨#[114, 101, 102]⟩] 9)
    refine wp_region_held_drew (S := fun w' => w'.cell? ⟨w.heap.size, 0, none⟩ = some (.int .i64 2) ∧ w'.cell? ⟨w.heap.size, 1, none⟩ = some (.int .i64 m) ∧ w'.cell? ⟨w.heap.size, 2, none⟩ = some (.int .i64 f) ∧ Below w.heap.size w w') (by kernel_rfl) (⟨XZ.drew.cell 0 rfl, XZ.drew.cell 1 rfl, XZ.drew.cell 2 rfl, BZ.drew⟩) (fun hHeld => ?_)
    refine wpAnyH_take (i := 0) (oi := { dst := some 16, op := Op.move (Operand.tmp 3), type := 9, pos := _, after := #[], guard := none }) (v := ?_) rfl (by kernel_rfl) (by kernel_rfl) (by kernel_rfl) (fun _ _ _ h => h) (Or.inl ⟨by kernel_rfl, ?_⟩) (by assumption) ?_
    rotate_left
    · intro w hSw; obtain ⟨z0, z1, z2, _⟩ := hSw; go_simp; first | done | (with_reducible rfl) | (rw [if_neg (by omega)])
    try simp only [Act.put, List.setIfInBounds_toArray, List.set_cons_zero, List.set_cons_succ]
    refine wpAnyH_take (i := 1) (oi := { dst := some 17, op := Op.binOp BinOp.add 9 (Operand.tmp 16) (Operand.const (Value.string ⟨#[32]⟩)) 9, type := 9, pos := _, after := #[{ on := 0, ground := Ground.data }], guard := none }) (v := ?_) rfl (by kernel_rfl) (by kernel_rfl) (by kernel_rfl) (fun _ _ _ h => h) (Or.inl ⟨by kernel_rfl, ?_⟩) (by assumption) ?_
    rotate_left
    · intro w hSw; obtain ⟨z0, z1, z2, _⟩ := hSw; go_simp; first | done | (with_reducible rfl) | (rw [if_neg (by omega)])
    try simp only [Act.put, List.setIfInBounds_toArray, List.set_cons_zero, List.set_cons_succ]
    refine wpAnyH_take (i := 2) (oi := { dst := some 18, op := Op.fieldAddr 39 (Operand.tmp 1) 1, type := 0, pos := _, after := #[], guard := none }) (v := ?_) rfl (by kernel_rfl) (by kernel_rfl) (by kernel_rfl) (fun _ _ _ h => h) (Or.inl ⟨by kernel_rfl, ?_⟩) (by assumption) ?_
    rotate_left
    · intro w hSw; obtain ⟨z0, z1, z2, _⟩ := hSw; go_simp; first | done | (with_reducible rfl) | (rw [if_neg (by omega)])
    try simp only [Act.put, List.setIfInBounds_toArray, List.set_cons_zero, List.set_cons_succ]
    refine wpAnyH_take (i := 3) (oi := { dst := some 19, op := Op.load 3 (Operand.tmp 18), type := 3, pos := _, after := #[{ on := 2, ground := Ground.data }], guard := none }) (v := ?_) rfl (by kernel_rfl) (by kernel_rfl) (by kernel_rfl) (fun _ _ _ h => h) (Or.inl ⟨by kernel_rfl, ?_⟩) (by assumption) ?_
    rotate_left
    · intro w hSw; obtain ⟨z0, z1, z2, _⟩ := hSw; go_simp; first | done | (with_reducible rfl) | (rw [if_neg (by omega)])
    try simp only [Act.put, List.setIfInBounds_toArray, List.set_cons_zero, List.set_cons_succ]
    refine wpAnyH_take (i := 7) (oi := { dst := some 23, op := Op.fieldAddr 39 (Operand.tmp 1) 2, type := 0, pos := _, after := #[], guard := none }) (v := ?_) rfl (by kernel_rfl) (by kernel_rfl) (by kernel_rfl) (fun _ _ _ h => h) (Or.inl ⟨by kernel_rfl, ?_⟩) (by assumption) ?_
    rotate_left
    · intro w hSw; obtain ⟨z0, z1, z2, _⟩ := hSw; go_simp; first | done | (with_reducible rfl) | (rw [if_neg (by omega)])
    try simp only [Act.put, List.setIfInBounds_toArray, List.set_cons_zero, List.set_cons_succ]
    refine wpAnyH_take (i := 8) (oi := { dst := some 24, op := Op.load 3 (Operand.tmp 23), type := 3, pos := _, after := #[{ on := 7, ground := Ground.data }], guard := none }) (v := ?_) rfl (by kernel_rfl) (by kernel_rfl) (by kernel_rfl) (fun _ _ _ h => h) (Or.inl ⟨by kernel_rfl, ?_⟩) (by assumption) ?_
    rotate_left
    · intro w hSw; obtain ⟨z0, z1, z2, _⟩ := hSw; go_simp; first | done | (with_reducible rfl) | (rw [if_neg (by omega)])
    try simp only [Act.put, List.setIfInBounds_toArray, List.set_cons_zero, List.set_cons_succ]
    refine wpAnyH_ready (rs := [4]) (by kernel_rfl) (by simp) ?_
    refine AllReadyH.cons (o := { dst := some 20, op := Op.call { callee := Callee.value (Operand.func 12), args := #[Operand.tmp 19], argTypes := #[3] }, type := 9, pos := _, after := #[{ on := 3, ground := Ground.data }], guard := none }) rfl (fun K hK => ?_) AllReadyH.nil
    rw [if_pos (by kernel_rfl)]
    go_simp
    go_at_call 12
    refine (hD1 _ trivial).mono ?_
    rintro e w1 ⟨rfl, hb1⟩
    have X1 := XZ.drew.all hb1
    have B1 := BZ.drew.trans (hb1.mono BZ.size)
    go_wp2_with fail
    refine hK.out _ _ ⟨X1.cell 0 rfl, X1.cell 1 rfl, X1.cell 2 rfl, B1⟩ (fun hHeld2 => ?_)
    clear hK K
    try simp only [Act.put, List.setIfInBounds_toArray, List.set_cons_zero, List.set_cons_succ]
    refine wpAnyH_take (i := 5) (oi := { dst := some 21, op := Op.binOp BinOp.add 9 (Operand.tmp 17) (Operand.tmp 20) 9, type := 9, pos := _, after := #[{ on := 1, ground := Ground.data }, { on := 4, ground := Ground.data }], guard := none }) (v := ?_) rfl (by kernel_rfl) (by kernel_rfl) (by kernel_rfl) (fun _ _ _ h => h) (Or.inl ⟨by kernel_rfl, ?_⟩) (by assumption) ?_
    rotate_left
    · intro w hSw; obtain ⟨z0, z1, z2, _⟩ := hSw; go_simp; first | done | (with_reducible rfl) | (rw [if_neg (by omega)])
    try simp only [Act.put, List.setIfInBounds_toArray, List.set_cons_zero, List.set_cons_succ]
    refine wpAnyH_take (i := 6) (oi := { dst := some 22, op := Op.binOp BinOp.add 9 (Operand.tmp 21) (Operand.const (Value.string ⟨#[32]⟩)) 9, type := 9, pos := _, after := #[{ on := 5, ground := Ground.data }], guard := none }) (v := ?_) rfl (by kernel_rfl) (by kernel_rfl) (by kernel_rfl) (fun _ _ _ h => h) (Or.inl ⟨by kernel_rfl, ?_⟩) (by assumption) ?_
    rotate_left
    · intro w hSw; obtain ⟨z0, z1, z2, _⟩ := hSw; go_simp; first | done | (with_reducible rfl) | (rw [if_neg (by omega)])
    try simp only [Act.put, List.setIfInBounds_toArray, List.set_cons_zero, List.set_cons_succ]
    refine wpAnyH_ready (rs := [9]) (by kernel_rfl) (by simp) ?_
    refine AllReadyH.cons (o := { dst := some 25, op := Op.call { callee := Callee.value (Operand.func 12), args := #[Operand.tmp 24], argTypes := #[3] }, type := 9, pos := _, after := #[{ on := 8, ground := Ground.data }, { on := 4, ground := Ground.chain }], guard := none }) rfl (fun K hK => ?_) AllReadyH.nil
    rw [if_pos (by kernel_rfl)]
    go_simp
    go_at_call 12
    refine (hD2 _ trivial).mono ?_
    rintro e w2 ⟨rfl, hb2⟩
    have X2 := X1.all hb2
    have B2 := B1.trans (hb2.mono B1.size)
    go_wp2_with fail
    refine hK.out _ _ ⟨X2.cell 0 rfl, X2.cell 1 rfl, X2.cell 2 rfl, B2⟩ (fun hHeld3 => ?_)
    clear hK K
    try simp only [Act.put, List.setIfInBounds_toArray, List.set_cons_zero, List.set_cons_succ]
    refine wpAnyH_take (i := 10) (oi := { dst := some 26, op := Op.binOp BinOp.add 9 (Operand.tmp 22) (Operand.tmp 25) 9, type := 9, pos := _, after := #[{ on := 6, ground := Ground.data }, { on := 9, ground := Ground.data }], guard := none }) (v := ?_) rfl (by kernel_rfl) (by kernel_rfl) (by kernel_rfl) (fun _ _ _ h => h) (Or.inl ⟨by kernel_rfl, ?_⟩) (by assumption) ?_
    rotate_left
    · intro w hSw; obtain ⟨z0, z1, z2, _⟩ := hSw; go_simp; first | done | (with_reducible rfl) | (rw [if_neg (by omega)])
    try simp only [Act.put, List.setIfInBounds_toArray, List.set_cons_zero, List.set_cons_succ]
    refine wpAnyH_take (i := 11) (oi := { dst := some 2, op := Op.assign (Operand.tmp 26), type := 9, pos := _, after := #[{ on := 10, ground := Ground.data }, { on := 9, ground := Ground.chain }, { on := 0, ground := Ground.phase }, { on := 1, ground := Ground.phase }, { on := 2, ground := Ground.phase }, { on := 3, ground := Ground.phase }, { on := 4, ground := Ground.phase }, { on := 5, ground := Ground.phase }, { on := 6, ground := Ground.phase }, { on := 7, ground := Ground.phase }, { on := 8, ground := Ground.phase }, { on := 9, ground := Ground.phase }, { on := 10, ground := Ground.phase }], guard := none }) (v := ?_) rfl (by kernel_rfl) (by kernel_rfl) (by kernel_rfl) (fun _ _ _ h => h) (Or.inl ⟨by kernel_rfl, ?_⟩) (by assumption) ?_
    rotate_left
    · intro w hSw; obtain ⟨z0, z1, z2, _⟩ := hSw; go_simp; first | done | (with_reducible rfl) | (rw [if_neg (by omega)])
    try simp only [Act.put, List.setIfInBounds_toArray, List.set_cons_zero, List.set_cons_succ]
    refine wpAnyH_done (by kernel_rfl) ?_ _
    go_wp2
    go_ret
    exact ⟨HV.out, B2⟩
  · rw [if_neg (by decide), h2]
    have HV : Hid (Ending.returned (.string ((⟨#[116, 119, 105, 99, 101]⟩ : ByteArray) ++ ⟨#[32]⟩ ++ A ++ ⟨#[32]⟩ ++ B)) = Ending.returned (.string ((⟨#[116, 119, 105, 99, 101]⟩ : ByteArray) ++ sp ++ A ++ sp ++ B))) := Lib.hid rfl
    go_enter Tryd.func21, Tryd.ntmps21
    go_wp2_with (go_at_call 34; refine (cP_in _ _ _ _).mono ?_; rintro e w' ⟨rfl, rfl⟩)
    have XZ := (Box.new w 39 #[.int .i64 3, .int .i64 m, .int .i64 f]).alloc (.cells #[.string ⟨#[111, 107]⟩, .string ⟨#[109, 115, 103, 115]⟩, .string ⟨#[105, 100]⟩, .string ⟨#[116, 119, 105, 99, 101]⟩, .string ⟨#[102, 105, 101, 108, 100, 115]⟩, .string ⟨#[110, 117, 109, 98, 101, 114]⟩, .string ⟨#[115, 97, 109, 101]⟩, .string ⟨#[107, 105, 110, 100]⟩, .string ⟨#[112, 97, 99, 107, 101, 100]⟩, .string ⟨#[114, 101, 102]⟩] 9)
    have BZ := ((Below.refl w.heap.size w).alloc (Nat.le_refl _) (.cells #[.int .i64 3, .int .i64 m, .int .i64 f] 39)).alloc (by simp) (.cells #[.string ⟨#[111, 107]⟩, .string ⟨#[109, 115, 103, 115]⟩, .string ⟨#[105, 100]⟩, .string ⟨#[116, 119, 105, 99, 101]⟩, .string ⟨#[102, 105, 101, 108, 100, 115]⟩, .string ⟨#[110, 117, 109, 98, 101, 114]⟩, .string ⟨#[115, 97, 109, 101]⟩, .string ⟨#[107, 105, 110, 100]⟩, .string ⟨#[112, 97, 99, 107, 101, 100]⟩, .string ⟨#[114, 101, 102]⟩] 9)
    refine wp_region_held_drew (S := fun w' => w'.cell? ⟨w.heap.size, 0, none⟩ = some (.int .i64 3) ∧ w'.cell? ⟨w.heap.size, 1, none⟩ = some (.int .i64 m) ∧ w'.cell? ⟨w.heap.size, 2, none⟩ = some (.int .i64 f) ∧ Below w.heap.size w w') (by kernel_rfl) (⟨XZ.drew.cell 0 rfl, XZ.drew.cell 1 rfl, XZ.drew.cell 2 rfl, BZ.drew⟩) (fun hHeld => ?_)
    refine wpAnyH_take (i := 0) (oi := { dst := some 16, op := Op.move (Operand.tmp 3), type := 9, pos := _, after := #[], guard := none }) (v := ?_) rfl (by kernel_rfl) (by kernel_rfl) (by kernel_rfl) (fun _ _ _ h => h) (Or.inl ⟨by kernel_rfl, ?_⟩) (by assumption) ?_
    rotate_left
    · intro w hSw; obtain ⟨z0, z1, z2, _⟩ := hSw; go_simp; first | done | (with_reducible rfl) | (rw [if_neg (by omega)])
    try simp only [Act.put, List.setIfInBounds_toArray, List.set_cons_zero, List.set_cons_succ]
    refine wpAnyH_take (i := 1) (oi := { dst := some 17, op := Op.binOp BinOp.add 9 (Operand.tmp 16) (Operand.const (Value.string ⟨#[32]⟩)) 9, type := 9, pos := _, after := #[{ on := 0, ground := Ground.data }], guard := none }) (v := ?_) rfl (by kernel_rfl) (by kernel_rfl) (by kernel_rfl) (fun _ _ _ h => h) (Or.inl ⟨by kernel_rfl, ?_⟩) (by assumption) ?_
    rotate_left
    · intro w hSw; obtain ⟨z0, z1, z2, _⟩ := hSw; go_simp; first | done | (with_reducible rfl) | (rw [if_neg (by omega)])
    try simp only [Act.put, List.setIfInBounds_toArray, List.set_cons_zero, List.set_cons_succ]
    refine wpAnyH_take (i := 2) (oi := { dst := some 18, op := Op.fieldAddr 39 (Operand.tmp 1) 1, type := 0, pos := _, after := #[], guard := none }) (v := ?_) rfl (by kernel_rfl) (by kernel_rfl) (by kernel_rfl) (fun _ _ _ h => h) (Or.inl ⟨by kernel_rfl, ?_⟩) (by assumption) ?_
    rotate_left
    · intro w hSw; obtain ⟨z0, z1, z2, _⟩ := hSw; go_simp; first | done | (with_reducible rfl) | (rw [if_neg (by omega)])
    try simp only [Act.put, List.setIfInBounds_toArray, List.set_cons_zero, List.set_cons_succ]
    refine wpAnyH_take (i := 3) (oi := { dst := some 19, op := Op.load 3 (Operand.tmp 18), type := 3, pos := _, after := #[{ on := 2, ground := Ground.data }], guard := none }) (v := ?_) rfl (by kernel_rfl) (by kernel_rfl) (by kernel_rfl) (fun _ _ _ h => h) (Or.inl ⟨by kernel_rfl, ?_⟩) (by assumption) ?_
    rotate_left
    · intro w hSw; obtain ⟨z0, z1, z2, _⟩ := hSw; go_simp; first | done | (with_reducible rfl) | (rw [if_neg (by omega)])
    try simp only [Act.put, List.setIfInBounds_toArray, List.set_cons_zero, List.set_cons_succ]
    refine wpAnyH_take (i := 7) (oi := { dst := some 23, op := Op.fieldAddr 39 (Operand.tmp 1) 2, type := 0, pos := _, after := #[], guard := none }) (v := ?_) rfl (by kernel_rfl) (by kernel_rfl) (by kernel_rfl) (fun _ _ _ h => h) (Or.inl ⟨by kernel_rfl, ?_⟩) (by assumption) ?_
    rotate_left
    · intro w hSw; obtain ⟨z0, z1, z2, _⟩ := hSw; go_simp; first | done | (with_reducible rfl) | (rw [if_neg (by omega)])
    try simp only [Act.put, List.setIfInBounds_toArray, List.set_cons_zero, List.set_cons_succ]
    refine wpAnyH_take (i := 8) (oi := { dst := some 24, op := Op.load 3 (Operand.tmp 23), type := 3, pos := _, after := #[{ on := 7, ground := Ground.data }], guard := none }) (v := ?_) rfl (by kernel_rfl) (by kernel_rfl) (by kernel_rfl) (fun _ _ _ h => h) (Or.inl ⟨by kernel_rfl, ?_⟩) (by assumption) ?_
    rotate_left
    · intro w hSw; obtain ⟨z0, z1, z2, _⟩ := hSw; go_simp; first | done | (with_reducible rfl) | (rw [if_neg (by omega)])
    try simp only [Act.put, List.setIfInBounds_toArray, List.set_cons_zero, List.set_cons_succ]
    refine wpAnyH_ready (rs := [4]) (by kernel_rfl) (by simp) ?_
    refine AllReadyH.cons (o := { dst := some 20, op := Op.call { callee := Callee.value (Operand.func 12), args := #[Operand.tmp 19], argTypes := #[3] }, type := 9, pos := _, after := #[{ on := 3, ground := Ground.data }], guard := none }) rfl (fun K hK => ?_) AllReadyH.nil
    rw [if_pos (by kernel_rfl)]
    go_simp
    go_at_call 12
    refine (hD1 _ trivial).mono ?_
    rintro e w1 ⟨rfl, hb1⟩
    have X1 := XZ.drew.all hb1
    have B1 := BZ.drew.trans (hb1.mono BZ.size)
    go_wp2_with fail
    refine hK.out _ _ ⟨X1.cell 0 rfl, X1.cell 1 rfl, X1.cell 2 rfl, B1⟩ (fun hHeld2 => ?_)
    clear hK K
    try simp only [Act.put, List.setIfInBounds_toArray, List.set_cons_zero, List.set_cons_succ]
    refine wpAnyH_take (i := 5) (oi := { dst := some 21, op := Op.binOp BinOp.add 9 (Operand.tmp 17) (Operand.tmp 20) 9, type := 9, pos := _, after := #[{ on := 1, ground := Ground.data }, { on := 4, ground := Ground.data }], guard := none }) (v := ?_) rfl (by kernel_rfl) (by kernel_rfl) (by kernel_rfl) (fun _ _ _ h => h) (Or.inl ⟨by kernel_rfl, ?_⟩) (by assumption) ?_
    rotate_left
    · intro w hSw; obtain ⟨z0, z1, z2, _⟩ := hSw; go_simp; first | done | (with_reducible rfl) | (rw [if_neg (by omega)])
    try simp only [Act.put, List.setIfInBounds_toArray, List.set_cons_zero, List.set_cons_succ]
    refine wpAnyH_take (i := 6) (oi := { dst := some 22, op := Op.binOp BinOp.add 9 (Operand.tmp 21) (Operand.const (Value.string ⟨#[32]⟩)) 9, type := 9, pos := _, after := #[{ on := 5, ground := Ground.data }], guard := none }) (v := ?_) rfl (by kernel_rfl) (by kernel_rfl) (by kernel_rfl) (fun _ _ _ h => h) (Or.inl ⟨by kernel_rfl, ?_⟩) (by assumption) ?_
    rotate_left
    · intro w hSw; obtain ⟨z0, z1, z2, _⟩ := hSw; go_simp; first | done | (with_reducible rfl) | (rw [if_neg (by omega)])
    try simp only [Act.put, List.setIfInBounds_toArray, List.set_cons_zero, List.set_cons_succ]
    refine wpAnyH_ready (rs := [9]) (by kernel_rfl) (by simp) ?_
    refine AllReadyH.cons (o := { dst := some 25, op := Op.call { callee := Callee.value (Operand.func 12), args := #[Operand.tmp 24], argTypes := #[3] }, type := 9, pos := _, after := #[{ on := 8, ground := Ground.data }, { on := 4, ground := Ground.chain }], guard := none }) rfl (fun K hK => ?_) AllReadyH.nil
    rw [if_pos (by kernel_rfl)]
    go_simp
    go_at_call 12
    refine (hD2 _ trivial).mono ?_
    rintro e w2 ⟨rfl, hb2⟩
    have X2 := X1.all hb2
    have B2 := B1.trans (hb2.mono B1.size)
    go_wp2_with fail
    refine hK.out _ _ ⟨X2.cell 0 rfl, X2.cell 1 rfl, X2.cell 2 rfl, B2⟩ (fun hHeld3 => ?_)
    clear hK K
    try simp only [Act.put, List.setIfInBounds_toArray, List.set_cons_zero, List.set_cons_succ]
    refine wpAnyH_take (i := 10) (oi := { dst := some 26, op := Op.binOp BinOp.add 9 (Operand.tmp 22) (Operand.tmp 25) 9, type := 9, pos := _, after := #[{ on := 6, ground := Ground.data }, { on := 9, ground := Ground.data }], guard := none }) (v := ?_) rfl (by kernel_rfl) (by kernel_rfl) (by kernel_rfl) (fun _ _ _ h => h) (Or.inl ⟨by kernel_rfl, ?_⟩) (by assumption) ?_
    rotate_left
    · intro w hSw; obtain ⟨z0, z1, z2, _⟩ := hSw; go_simp; first | done | (with_reducible rfl) | (rw [if_neg (by omega)])
    try simp only [Act.put, List.setIfInBounds_toArray, List.set_cons_zero, List.set_cons_succ]
    refine wpAnyH_take (i := 11) (oi := { dst := some 2, op := Op.assign (Operand.tmp 26), type := 9, pos := _, after := #[{ on := 10, ground := Ground.data }, { on := 9, ground := Ground.chain }, { on := 0, ground := Ground.phase }, { on := 1, ground := Ground.phase }, { on := 2, ground := Ground.phase }, { on := 3, ground := Ground.phase }, { on := 4, ground := Ground.phase }, { on := 5, ground := Ground.phase }, { on := 6, ground := Ground.phase }, { on := 7, ground := Ground.phase }, { on := 8, ground := Ground.phase }, { on := 9, ground := Ground.phase }, { on := 10, ground := Ground.phase }], guard := none }) (v := ?_) rfl (by kernel_rfl) (by kernel_rfl) (by kernel_rfl) (fun _ _ _ h => h) (Or.inl ⟨by kernel_rfl, ?_⟩) (by assumption) ?_
    rotate_left
    · intro w hSw; obtain ⟨z0, z1, z2, _⟩ := hSw; go_simp; first | done | (with_reducible rfl) | (rw [if_neg (by omega)])
    try simp only [Act.put, List.setIfInBounds_toArray, List.set_cons_zero, List.set_cons_succ]
    refine wpAnyH_done (by kernel_rfl) ?_ _
    go_wp2
    go_ret
    exact ⟨HV.out, B2⟩
  · rw [if_neg (by decide), h2]
    have HV : Hid (Ending.returned (.string ((⟨#[102, 105, 101, 108, 100, 115]⟩ : ByteArray) ++ ⟨#[32]⟩ ++ A ++ ⟨#[32]⟩ ++ B)) = Ending.returned (.string ((⟨#[102, 105, 101, 108, 100, 115]⟩ : ByteArray) ++ sp ++ A ++ sp ++ B))) := Lib.hid rfl
    go_enter Tryd.func21, Tryd.ntmps21
    go_wp2_with (go_at_call 34; refine (cP_in _ _ _ _).mono ?_; rintro e w' ⟨rfl, rfl⟩)
    have XZ := (Box.new w 39 #[.int .i64 4, .int .i64 m, .int .i64 f]).alloc (.cells #[.string ⟨#[111, 107]⟩, .string ⟨#[109, 115, 103, 115]⟩, .string ⟨#[105, 100]⟩, .string ⟨#[116, 119, 105, 99, 101]⟩, .string ⟨#[102, 105, 101, 108, 100, 115]⟩, .string ⟨#[110, 117, 109, 98, 101, 114]⟩, .string ⟨#[115, 97, 109, 101]⟩, .string ⟨#[107, 105, 110, 100]⟩, .string ⟨#[112, 97, 99, 107, 101, 100]⟩, .string ⟨#[114, 101, 102]⟩] 9)
    have BZ := ((Below.refl w.heap.size w).alloc (Nat.le_refl _) (.cells #[.int .i64 4, .int .i64 m, .int .i64 f] 39)).alloc (by simp) (.cells #[.string ⟨#[111, 107]⟩, .string ⟨#[109, 115, 103, 115]⟩, .string ⟨#[105, 100]⟩, .string ⟨#[116, 119, 105, 99, 101]⟩, .string ⟨#[102, 105, 101, 108, 100, 115]⟩, .string ⟨#[110, 117, 109, 98, 101, 114]⟩, .string ⟨#[115, 97, 109, 101]⟩, .string ⟨#[107, 105, 110, 100]⟩, .string ⟨#[112, 97, 99, 107, 101, 100]⟩, .string ⟨#[114, 101, 102]⟩] 9)
    refine wp_region_held_drew (S := fun w' => w'.cell? ⟨w.heap.size, 0, none⟩ = some (.int .i64 4) ∧ w'.cell? ⟨w.heap.size, 1, none⟩ = some (.int .i64 m) ∧ w'.cell? ⟨w.heap.size, 2, none⟩ = some (.int .i64 f) ∧ Below w.heap.size w w') (by kernel_rfl) (⟨XZ.drew.cell 0 rfl, XZ.drew.cell 1 rfl, XZ.drew.cell 2 rfl, BZ.drew⟩) (fun hHeld => ?_)
    refine wpAnyH_take (i := 0) (oi := { dst := some 16, op := Op.move (Operand.tmp 3), type := 9, pos := _, after := #[], guard := none }) (v := ?_) rfl (by kernel_rfl) (by kernel_rfl) (by kernel_rfl) (fun _ _ _ h => h) (Or.inl ⟨by kernel_rfl, ?_⟩) (by assumption) ?_
    rotate_left
    · intro w hSw; obtain ⟨z0, z1, z2, _⟩ := hSw; go_simp; first | done | (with_reducible rfl) | (rw [if_neg (by omega)])
    try simp only [Act.put, List.setIfInBounds_toArray, List.set_cons_zero, List.set_cons_succ]
    refine wpAnyH_take (i := 1) (oi := { dst := some 17, op := Op.binOp BinOp.add 9 (Operand.tmp 16) (Operand.const (Value.string ⟨#[32]⟩)) 9, type := 9, pos := _, after := #[{ on := 0, ground := Ground.data }], guard := none }) (v := ?_) rfl (by kernel_rfl) (by kernel_rfl) (by kernel_rfl) (fun _ _ _ h => h) (Or.inl ⟨by kernel_rfl, ?_⟩) (by assumption) ?_
    rotate_left
    · intro w hSw; obtain ⟨z0, z1, z2, _⟩ := hSw; go_simp; first | done | (with_reducible rfl) | (rw [if_neg (by omega)])
    try simp only [Act.put, List.setIfInBounds_toArray, List.set_cons_zero, List.set_cons_succ]
    refine wpAnyH_take (i := 2) (oi := { dst := some 18, op := Op.fieldAddr 39 (Operand.tmp 1) 1, type := 0, pos := _, after := #[], guard := none }) (v := ?_) rfl (by kernel_rfl) (by kernel_rfl) (by kernel_rfl) (fun _ _ _ h => h) (Or.inl ⟨by kernel_rfl, ?_⟩) (by assumption) ?_
    rotate_left
    · intro w hSw; obtain ⟨z0, z1, z2, _⟩ := hSw; go_simp; first | done | (with_reducible rfl) | (rw [if_neg (by omega)])
    try simp only [Act.put, List.setIfInBounds_toArray, List.set_cons_zero, List.set_cons_succ]
    refine wpAnyH_take (i := 3) (oi := { dst := some 19, op := Op.load 3 (Operand.tmp 18), type := 3, pos := _, after := #[{ on := 2, ground := Ground.data }], guard := none }) (v := ?_) rfl (by kernel_rfl) (by kernel_rfl) (by kernel_rfl) (fun _ _ _ h => h) (Or.inl ⟨by kernel_rfl, ?_⟩) (by assumption) ?_
    rotate_left
    · intro w hSw; obtain ⟨z0, z1, z2, _⟩ := hSw; go_simp; first | done | (with_reducible rfl) | (rw [if_neg (by omega)])
    try simp only [Act.put, List.setIfInBounds_toArray, List.set_cons_zero, List.set_cons_succ]
    refine wpAnyH_take (i := 7) (oi := { dst := some 23, op := Op.fieldAddr 39 (Operand.tmp 1) 2, type := 0, pos := _, after := #[], guard := none }) (v := ?_) rfl (by kernel_rfl) (by kernel_rfl) (by kernel_rfl) (fun _ _ _ h => h) (Or.inl ⟨by kernel_rfl, ?_⟩) (by assumption) ?_
    rotate_left
    · intro w hSw; obtain ⟨z0, z1, z2, _⟩ := hSw; go_simp; first | done | (with_reducible rfl) | (rw [if_neg (by omega)])
    try simp only [Act.put, List.setIfInBounds_toArray, List.set_cons_zero, List.set_cons_succ]
    refine wpAnyH_take (i := 8) (oi := { dst := some 24, op := Op.load 3 (Operand.tmp 23), type := 3, pos := _, after := #[{ on := 7, ground := Ground.data }], guard := none }) (v := ?_) rfl (by kernel_rfl) (by kernel_rfl) (by kernel_rfl) (fun _ _ _ h => h) (Or.inl ⟨by kernel_rfl, ?_⟩) (by assumption) ?_
    rotate_left
    · intro w hSw; obtain ⟨z0, z1, z2, _⟩ := hSw; go_simp; first | done | (with_reducible rfl) | (rw [if_neg (by omega)])
    try simp only [Act.put, List.setIfInBounds_toArray, List.set_cons_zero, List.set_cons_succ]
    refine wpAnyH_ready (rs := [4]) (by kernel_rfl) (by simp) ?_
    refine AllReadyH.cons (o := { dst := some 20, op := Op.call { callee := Callee.value (Operand.func 12), args := #[Operand.tmp 19], argTypes := #[3] }, type := 9, pos := _, after := #[{ on := 3, ground := Ground.data }], guard := none }) rfl (fun K hK => ?_) AllReadyH.nil
    rw [if_pos (by kernel_rfl)]
    go_simp
    go_at_call 12
    refine (hD1 _ trivial).mono ?_
    rintro e w1 ⟨rfl, hb1⟩
    have X1 := XZ.drew.all hb1
    have B1 := BZ.drew.trans (hb1.mono BZ.size)
    go_wp2_with fail
    refine hK.out _ _ ⟨X1.cell 0 rfl, X1.cell 1 rfl, X1.cell 2 rfl, B1⟩ (fun hHeld2 => ?_)
    clear hK K
    try simp only [Act.put, List.setIfInBounds_toArray, List.set_cons_zero, List.set_cons_succ]
    refine wpAnyH_take (i := 5) (oi := { dst := some 21, op := Op.binOp BinOp.add 9 (Operand.tmp 17) (Operand.tmp 20) 9, type := 9, pos := _, after := #[{ on := 1, ground := Ground.data }, { on := 4, ground := Ground.data }], guard := none }) (v := ?_) rfl (by kernel_rfl) (by kernel_rfl) (by kernel_rfl) (fun _ _ _ h => h) (Or.inl ⟨by kernel_rfl, ?_⟩) (by assumption) ?_
    rotate_left
    · intro w hSw; obtain ⟨z0, z1, z2, _⟩ := hSw; go_simp; first | done | (with_reducible rfl) | (rw [if_neg (by omega)])
    try simp only [Act.put, List.setIfInBounds_toArray, List.set_cons_zero, List.set_cons_succ]
    refine wpAnyH_take (i := 6) (oi := { dst := some 22, op := Op.binOp BinOp.add 9 (Operand.tmp 21) (Operand.const (Value.string ⟨#[32]⟩)) 9, type := 9, pos := _, after := #[{ on := 5, ground := Ground.data }], guard := none }) (v := ?_) rfl (by kernel_rfl) (by kernel_rfl) (by kernel_rfl) (fun _ _ _ h => h) (Or.inl ⟨by kernel_rfl, ?_⟩) (by assumption) ?_
    rotate_left
    · intro w hSw; obtain ⟨z0, z1, z2, _⟩ := hSw; go_simp; first | done | (with_reducible rfl) | (rw [if_neg (by omega)])
    try simp only [Act.put, List.setIfInBounds_toArray, List.set_cons_zero, List.set_cons_succ]
    refine wpAnyH_ready (rs := [9]) (by kernel_rfl) (by simp) ?_
    refine AllReadyH.cons (o := { dst := some 25, op := Op.call { callee := Callee.value (Operand.func 12), args := #[Operand.tmp 24], argTypes := #[3] }, type := 9, pos := _, after := #[{ on := 8, ground := Ground.data }, { on := 4, ground := Ground.chain }], guard := none }) rfl (fun K hK => ?_) AllReadyH.nil
    rw [if_pos (by kernel_rfl)]
    go_simp
    go_at_call 12
    refine (hD2 _ trivial).mono ?_
    rintro e w2 ⟨rfl, hb2⟩
    have X2 := X1.all hb2
    have B2 := B1.trans (hb2.mono B1.size)
    go_wp2_with fail
    refine hK.out _ _ ⟨X2.cell 0 rfl, X2.cell 1 rfl, X2.cell 2 rfl, B2⟩ (fun hHeld3 => ?_)
    clear hK K
    try simp only [Act.put, List.setIfInBounds_toArray, List.set_cons_zero, List.set_cons_succ]
    refine wpAnyH_take (i := 10) (oi := { dst := some 26, op := Op.binOp BinOp.add 9 (Operand.tmp 22) (Operand.tmp 25) 9, type := 9, pos := _, after := #[{ on := 6, ground := Ground.data }, { on := 9, ground := Ground.data }], guard := none }) (v := ?_) rfl (by kernel_rfl) (by kernel_rfl) (by kernel_rfl) (fun _ _ _ h => h) (Or.inl ⟨by kernel_rfl, ?_⟩) (by assumption) ?_
    rotate_left
    · intro w hSw; obtain ⟨z0, z1, z2, _⟩ := hSw; go_simp; first | done | (with_reducible rfl) | (rw [if_neg (by omega)])
    try simp only [Act.put, List.setIfInBounds_toArray, List.set_cons_zero, List.set_cons_succ]
    refine wpAnyH_take (i := 11) (oi := { dst := some 2, op := Op.assign (Operand.tmp 26), type := 9, pos := _, after := #[{ on := 10, ground := Ground.data }, { on := 9, ground := Ground.chain }, { on := 0, ground := Ground.phase }, { on := 1, ground := Ground.phase }, { on := 2, ground := Ground.phase }, { on := 3, ground := Ground.phase }, { on := 4, ground := Ground.phase }, { on := 5, ground := Ground.phase }, { on := 6, ground := Ground.phase }, { on := 7, ground := Ground.phase }, { on := 8, ground := Ground.phase }, { on := 9, ground := Ground.phase }, { on := 10, ground := Ground.phase }], guard := none }) (v := ?_) rfl (by kernel_rfl) (by kernel_rfl) (by kernel_rfl) (fun _ _ _ h => h) (Or.inl ⟨by kernel_rfl, ?_⟩) (by assumption) ?_
    rotate_left
    · intro w hSw; obtain ⟨z0, z1, z2, _⟩ := hSw; go_simp; first | done | (with_reducible rfl) | (rw [if_neg (by omega)])
    try simp only [Act.put, List.setIfInBounds_toArray, List.set_cons_zero, List.set_cons_succ]
    refine wpAnyH_done (by kernel_rfl) ?_ _
    go_wp2
    go_ret
    exact ⟨HV.out, B2⟩
  · rw [if_neg (by decide), h2]
    have HV : Hid (Ending.returned (.string ((⟨#[110, 117, 109, 98, 101, 114]⟩ : ByteArray) ++ ⟨#[32]⟩ ++ A ++ ⟨#[32]⟩ ++ B)) = Ending.returned (.string ((⟨#[110, 117, 109, 98, 101, 114]⟩ : ByteArray) ++ sp ++ A ++ sp ++ B))) := Lib.hid rfl
    go_enter Tryd.func21, Tryd.ntmps21
    go_wp2_with (go_at_call 34; refine (cP_in _ _ _ _).mono ?_; rintro e w' ⟨rfl, rfl⟩)
    have XZ := (Box.new w 39 #[.int .i64 5, .int .i64 m, .int .i64 f]).alloc (.cells #[.string ⟨#[111, 107]⟩, .string ⟨#[109, 115, 103, 115]⟩, .string ⟨#[105, 100]⟩, .string ⟨#[116, 119, 105, 99, 101]⟩, .string ⟨#[102, 105, 101, 108, 100, 115]⟩, .string ⟨#[110, 117, 109, 98, 101, 114]⟩, .string ⟨#[115, 97, 109, 101]⟩, .string ⟨#[107, 105, 110, 100]⟩, .string ⟨#[112, 97, 99, 107, 101, 100]⟩, .string ⟨#[114, 101, 102]⟩] 9)
    have BZ := ((Below.refl w.heap.size w).alloc (Nat.le_refl _) (.cells #[.int .i64 5, .int .i64 m, .int .i64 f] 39)).alloc (by simp) (.cells #[.string ⟨#[111, 107]⟩, .string ⟨#[109, 115, 103, 115]⟩, .string ⟨#[105, 100]⟩, .string ⟨#[116, 119, 105, 99, 101]⟩, .string ⟨#[102, 105, 101, 108, 100, 115]⟩, .string ⟨#[110, 117, 109, 98, 101, 114]⟩, .string ⟨#[115, 97, 109, 101]⟩, .string ⟨#[107, 105, 110, 100]⟩, .string ⟨#[112, 97, 99, 107, 101, 100]⟩, .string ⟨#[114, 101, 102]⟩] 9)
    refine wp_region_held_drew (S := fun w' => w'.cell? ⟨w.heap.size, 0, none⟩ = some (.int .i64 5) ∧ w'.cell? ⟨w.heap.size, 1, none⟩ = some (.int .i64 m) ∧ w'.cell? ⟨w.heap.size, 2, none⟩ = some (.int .i64 f) ∧ Below w.heap.size w w') (by kernel_rfl) (⟨XZ.drew.cell 0 rfl, XZ.drew.cell 1 rfl, XZ.drew.cell 2 rfl, BZ.drew⟩) (fun hHeld => ?_)
    refine wpAnyH_take (i := 0) (oi := { dst := some 16, op := Op.move (Operand.tmp 3), type := 9, pos := _, after := #[], guard := none }) (v := ?_) rfl (by kernel_rfl) (by kernel_rfl) (by kernel_rfl) (fun _ _ _ h => h) (Or.inl ⟨by kernel_rfl, ?_⟩) (by assumption) ?_
    rotate_left
    · intro w hSw; obtain ⟨z0, z1, z2, _⟩ := hSw; go_simp; first | done | (with_reducible rfl) | (rw [if_neg (by omega)])
    try simp only [Act.put, List.setIfInBounds_toArray, List.set_cons_zero, List.set_cons_succ]
    refine wpAnyH_take (i := 1) (oi := { dst := some 17, op := Op.binOp BinOp.add 9 (Operand.tmp 16) (Operand.const (Value.string ⟨#[32]⟩)) 9, type := 9, pos := _, after := #[{ on := 0, ground := Ground.data }], guard := none }) (v := ?_) rfl (by kernel_rfl) (by kernel_rfl) (by kernel_rfl) (fun _ _ _ h => h) (Or.inl ⟨by kernel_rfl, ?_⟩) (by assumption) ?_
    rotate_left
    · intro w hSw; obtain ⟨z0, z1, z2, _⟩ := hSw; go_simp; first | done | (with_reducible rfl) | (rw [if_neg (by omega)])
    try simp only [Act.put, List.setIfInBounds_toArray, List.set_cons_zero, List.set_cons_succ]
    refine wpAnyH_take (i := 2) (oi := { dst := some 18, op := Op.fieldAddr 39 (Operand.tmp 1) 1, type := 0, pos := _, after := #[], guard := none }) (v := ?_) rfl (by kernel_rfl) (by kernel_rfl) (by kernel_rfl) (fun _ _ _ h => h) (Or.inl ⟨by kernel_rfl, ?_⟩) (by assumption) ?_
    rotate_left
    · intro w hSw; obtain ⟨z0, z1, z2, _⟩ := hSw; go_simp; first | done | (with_reducible rfl) | (rw [if_neg (by omega)])
    try simp only [Act.put, List.setIfInBounds_toArray, List.set_cons_zero, List.set_cons_succ]
    refine wpAnyH_take (i := 3) (oi := { dst := some 19, op := Op.load 3 (Operand.tmp 18), type := 3, pos := _, after := #[{ on := 2, ground := Ground.data }], guard := none }) (v := ?_) rfl (by kernel_rfl) (by kernel_rfl) (by kernel_rfl) (fun _ _ _ h => h) (Or.inl ⟨by kernel_rfl, ?_⟩) (by assumption) ?_
    rotate_left
    · intro w hSw; obtain ⟨z0, z1, z2, _⟩ := hSw; go_simp; first | done | (with_reducible rfl) | (rw [if_neg (by omega)])
    try simp only [Act.put, List.setIfInBounds_toArray, List.set_cons_zero, List.set_cons_succ]
    refine wpAnyH_take (i := 7) (oi := { dst := some 23, op := Op.fieldAddr 39 (Operand.tmp 1) 2, type := 0, pos := _, after := #[], guard := none }) (v := ?_) rfl (by kernel_rfl) (by kernel_rfl) (by kernel_rfl) (fun _ _ _ h => h) (Or.inl ⟨by kernel_rfl, ?_⟩) (by assumption) ?_
    rotate_left
    · intro w hSw; obtain ⟨z0, z1, z2, _⟩ := hSw; go_simp; first | done | (with_reducible rfl) | (rw [if_neg (by omega)])
    try simp only [Act.put, List.setIfInBounds_toArray, List.set_cons_zero, List.set_cons_succ]
    refine wpAnyH_take (i := 8) (oi := { dst := some 24, op := Op.load 3 (Operand.tmp 23), type := 3, pos := _, after := #[{ on := 7, ground := Ground.data }], guard := none }) (v := ?_) rfl (by kernel_rfl) (by kernel_rfl) (by kernel_rfl) (fun _ _ _ h => h) (Or.inl ⟨by kernel_rfl, ?_⟩) (by assumption) ?_
    rotate_left
    · intro w hSw; obtain ⟨z0, z1, z2, _⟩ := hSw; go_simp; first | done | (with_reducible rfl) | (rw [if_neg (by omega)])
    try simp only [Act.put, List.setIfInBounds_toArray, List.set_cons_zero, List.set_cons_succ]
    refine wpAnyH_ready (rs := [4]) (by kernel_rfl) (by simp) ?_
    refine AllReadyH.cons (o := { dst := some 20, op := Op.call { callee := Callee.value (Operand.func 12), args := #[Operand.tmp 19], argTypes := #[3] }, type := 9, pos := _, after := #[{ on := 3, ground := Ground.data }], guard := none }) rfl (fun K hK => ?_) AllReadyH.nil
    rw [if_pos (by kernel_rfl)]
    go_simp
    go_at_call 12
    refine (hD1 _ trivial).mono ?_
    rintro e w1 ⟨rfl, hb1⟩
    have X1 := XZ.drew.all hb1
    have B1 := BZ.drew.trans (hb1.mono BZ.size)
    go_wp2_with fail
    refine hK.out _ _ ⟨X1.cell 0 rfl, X1.cell 1 rfl, X1.cell 2 rfl, B1⟩ (fun hHeld2 => ?_)
    clear hK K
    try simp only [Act.put, List.setIfInBounds_toArray, List.set_cons_zero, List.set_cons_succ]
    refine wpAnyH_take (i := 5) (oi := { dst := some 21, op := Op.binOp BinOp.add 9 (Operand.tmp 17) (Operand.tmp 20) 9, type := 9, pos := _, after := #[{ on := 1, ground := Ground.data }, { on := 4, ground := Ground.data }], guard := none }) (v := ?_) rfl (by kernel_rfl) (by kernel_rfl) (by kernel_rfl) (fun _ _ _ h => h) (Or.inl ⟨by kernel_rfl, ?_⟩) (by assumption) ?_
    rotate_left
    · intro w hSw; obtain ⟨z0, z1, z2, _⟩ := hSw; go_simp; first | done | (with_reducible rfl) | (rw [if_neg (by omega)])
    try simp only [Act.put, List.setIfInBounds_toArray, List.set_cons_zero, List.set_cons_succ]
    refine wpAnyH_take (i := 6) (oi := { dst := some 22, op := Op.binOp BinOp.add 9 (Operand.tmp 21) (Operand.const (Value.string ⟨#[32]⟩)) 9, type := 9, pos := _, after := #[{ on := 5, ground := Ground.data }], guard := none }) (v := ?_) rfl (by kernel_rfl) (by kernel_rfl) (by kernel_rfl) (fun _ _ _ h => h) (Or.inl ⟨by kernel_rfl, ?_⟩) (by assumption) ?_
    rotate_left
    · intro w hSw; obtain ⟨z0, z1, z2, _⟩ := hSw; go_simp; first | done | (with_reducible rfl) | (rw [if_neg (by omega)])
    try simp only [Act.put, List.setIfInBounds_toArray, List.set_cons_zero, List.set_cons_succ]
    refine wpAnyH_ready (rs := [9]) (by kernel_rfl) (by simp) ?_
    refine AllReadyH.cons (o := { dst := some 25, op := Op.call { callee := Callee.value (Operand.func 12), args := #[Operand.tmp 24], argTypes := #[3] }, type := 9, pos := _, after := #[{ on := 8, ground := Ground.data }, { on := 4, ground := Ground.chain }], guard := none }) rfl (fun K hK => ?_) AllReadyH.nil
    rw [if_pos (by kernel_rfl)]
    go_simp
    go_at_call 12
    refine (hD2 _ trivial).mono ?_
    rintro e w2 ⟨rfl, hb2⟩
    have X2 := X1.all hb2
    have B2 := B1.trans (hb2.mono B1.size)
    go_wp2_with fail
    refine hK.out _ _ ⟨X2.cell 0 rfl, X2.cell 1 rfl, X2.cell 2 rfl, B2⟩ (fun hHeld3 => ?_)
    clear hK K
    try simp only [Act.put, List.setIfInBounds_toArray, List.set_cons_zero, List.set_cons_succ]
    refine wpAnyH_take (i := 10) (oi := { dst := some 26, op := Op.binOp BinOp.add 9 (Operand.tmp 22) (Operand.tmp 25) 9, type := 9, pos := _, after := #[{ on := 6, ground := Ground.data }, { on := 9, ground := Ground.data }], guard := none }) (v := ?_) rfl (by kernel_rfl) (by kernel_rfl) (by kernel_rfl) (fun _ _ _ h => h) (Or.inl ⟨by kernel_rfl, ?_⟩) (by assumption) ?_
    rotate_left
    · intro w hSw; obtain ⟨z0, z1, z2, _⟩ := hSw; go_simp; first | done | (with_reducible rfl) | (rw [if_neg (by omega)])
    try simp only [Act.put, List.setIfInBounds_toArray, List.set_cons_zero, List.set_cons_succ]
    refine wpAnyH_take (i := 11) (oi := { dst := some 2, op := Op.assign (Operand.tmp 26), type := 9, pos := _, after := #[{ on := 10, ground := Ground.data }, { on := 9, ground := Ground.chain }, { on := 0, ground := Ground.phase }, { on := 1, ground := Ground.phase }, { on := 2, ground := Ground.phase }, { on := 3, ground := Ground.phase }, { on := 4, ground := Ground.phase }, { on := 5, ground := Ground.phase }, { on := 6, ground := Ground.phase }, { on := 7, ground := Ground.phase }, { on := 8, ground := Ground.phase }, { on := 9, ground := Ground.phase }, { on := 10, ground := Ground.phase }], guard := none }) (v := ?_) rfl (by kernel_rfl) (by kernel_rfl) (by kernel_rfl) (fun _ _ _ h => h) (Or.inl ⟨by kernel_rfl, ?_⟩) (by assumption) ?_
    rotate_left
    · intro w hSw; obtain ⟨z0, z1, z2, _⟩ := hSw; go_simp; first | done | (with_reducible rfl) | (rw [if_neg (by omega)])
    try simp only [Act.put, List.setIfInBounds_toArray, List.set_cons_zero, List.set_cons_succ]
    refine wpAnyH_done (by kernel_rfl) ?_ _
    go_wp2
    go_ret
    exact ⟨HV.out, B2⟩
  · rw [if_neg (by decide), h2]
    have HV : Hid (Ending.returned (.string ((⟨#[115, 97, 109, 101]⟩ : ByteArray) ++ ⟨#[32]⟩ ++ A ++ ⟨#[32]⟩ ++ B)) = Ending.returned (.string ((⟨#[115, 97, 109, 101]⟩ : ByteArray) ++ sp ++ A ++ sp ++ B))) := Lib.hid rfl
    go_enter Tryd.func21, Tryd.ntmps21
    go_wp2_with (go_at_call 34; refine (cP_in _ _ _ _).mono ?_; rintro e w' ⟨rfl, rfl⟩)
    have XZ := (Box.new w 39 #[.int .i64 6, .int .i64 m, .int .i64 f]).alloc (.cells #[.string ⟨#[111, 107]⟩, .string ⟨#[109, 115, 103, 115]⟩, .string ⟨#[105, 100]⟩, .string ⟨#[116, 119, 105, 99, 101]⟩, .string ⟨#[102, 105, 101, 108, 100, 115]⟩, .string ⟨#[110, 117, 109, 98, 101, 114]⟩, .string ⟨#[115, 97, 109, 101]⟩, .string ⟨#[107, 105, 110, 100]⟩, .string ⟨#[112, 97, 99, 107, 101, 100]⟩, .string ⟨#[114, 101, 102]⟩] 9)
    have BZ := ((Below.refl w.heap.size w).alloc (Nat.le_refl _) (.cells #[.int .i64 6, .int .i64 m, .int .i64 f] 39)).alloc (by simp) (.cells #[.string ⟨#[111, 107]⟩, .string ⟨#[109, 115, 103, 115]⟩, .string ⟨#[105, 100]⟩, .string ⟨#[116, 119, 105, 99, 101]⟩, .string ⟨#[102, 105, 101, 108, 100, 115]⟩, .string ⟨#[110, 117, 109, 98, 101, 114]⟩, .string ⟨#[115, 97, 109, 101]⟩, .string ⟨#[107, 105, 110, 100]⟩, .string ⟨#[112, 97, 99, 107, 101, 100]⟩, .string ⟨#[114, 101, 102]⟩] 9)
    refine wp_region_held_drew (S := fun w' => w'.cell? ⟨w.heap.size, 0, none⟩ = some (.int .i64 6) ∧ w'.cell? ⟨w.heap.size, 1, none⟩ = some (.int .i64 m) ∧ w'.cell? ⟨w.heap.size, 2, none⟩ = some (.int .i64 f) ∧ Below w.heap.size w w') (by kernel_rfl) (⟨XZ.drew.cell 0 rfl, XZ.drew.cell 1 rfl, XZ.drew.cell 2 rfl, BZ.drew⟩) (fun hHeld => ?_)
    refine wpAnyH_take (i := 0) (oi := { dst := some 16, op := Op.move (Operand.tmp 3), type := 9, pos := _, after := #[], guard := none }) (v := ?_) rfl (by kernel_rfl) (by kernel_rfl) (by kernel_rfl) (fun _ _ _ h => h) (Or.inl ⟨by kernel_rfl, ?_⟩) (by assumption) ?_
    rotate_left
    · intro w hSw; obtain ⟨z0, z1, z2, _⟩ := hSw; go_simp; first | done | (with_reducible rfl) | (rw [if_neg (by omega)])
    try simp only [Act.put, List.setIfInBounds_toArray, List.set_cons_zero, List.set_cons_succ]
    refine wpAnyH_take (i := 1) (oi := { dst := some 17, op := Op.binOp BinOp.add 9 (Operand.tmp 16) (Operand.const (Value.string ⟨#[32]⟩)) 9, type := 9, pos := _, after := #[{ on := 0, ground := Ground.data }], guard := none }) (v := ?_) rfl (by kernel_rfl) (by kernel_rfl) (by kernel_rfl) (fun _ _ _ h => h) (Or.inl ⟨by kernel_rfl, ?_⟩) (by assumption) ?_
    rotate_left
    · intro w hSw; obtain ⟨z0, z1, z2, _⟩ := hSw; go_simp; first | done | (with_reducible rfl) | (rw [if_neg (by omega)])
    try simp only [Act.put, List.setIfInBounds_toArray, List.set_cons_zero, List.set_cons_succ]
    refine wpAnyH_take (i := 2) (oi := { dst := some 18, op := Op.fieldAddr 39 (Operand.tmp 1) 1, type := 0, pos := _, after := #[], guard := none }) (v := ?_) rfl (by kernel_rfl) (by kernel_rfl) (by kernel_rfl) (fun _ _ _ h => h) (Or.inl ⟨by kernel_rfl, ?_⟩) (by assumption) ?_
    rotate_left
    · intro w hSw; obtain ⟨z0, z1, z2, _⟩ := hSw; go_simp; first | done | (with_reducible rfl) | (rw [if_neg (by omega)])
    try simp only [Act.put, List.setIfInBounds_toArray, List.set_cons_zero, List.set_cons_succ]
    refine wpAnyH_take (i := 3) (oi := { dst := some 19, op := Op.load 3 (Operand.tmp 18), type := 3, pos := _, after := #[{ on := 2, ground := Ground.data }], guard := none }) (v := ?_) rfl (by kernel_rfl) (by kernel_rfl) (by kernel_rfl) (fun _ _ _ h => h) (Or.inl ⟨by kernel_rfl, ?_⟩) (by assumption) ?_
    rotate_left
    · intro w hSw; obtain ⟨z0, z1, z2, _⟩ := hSw; go_simp; first | done | (with_reducible rfl) | (rw [if_neg (by omega)])
    try simp only [Act.put, List.setIfInBounds_toArray, List.set_cons_zero, List.set_cons_succ]
    refine wpAnyH_take (i := 7) (oi := { dst := some 23, op := Op.fieldAddr 39 (Operand.tmp 1) 2, type := 0, pos := _, after := #[], guard := none }) (v := ?_) rfl (by kernel_rfl) (by kernel_rfl) (by kernel_rfl) (fun _ _ _ h => h) (Or.inl ⟨by kernel_rfl, ?_⟩) (by assumption) ?_
    rotate_left
    · intro w hSw; obtain ⟨z0, z1, z2, _⟩ := hSw; go_simp; first | done | (with_reducible rfl) | (rw [if_neg (by omega)])
    try simp only [Act.put, List.setIfInBounds_toArray, List.set_cons_zero, List.set_cons_succ]
    refine wpAnyH_take (i := 8) (oi := { dst := some 24, op := Op.load 3 (Operand.tmp 23), type := 3, pos := _, after := #[{ on := 7, ground := Ground.data }], guard := none }) (v := ?_) rfl (by kernel_rfl) (by kernel_rfl) (by kernel_rfl) (fun _ _ _ h => h) (Or.inl ⟨by kernel_rfl, ?_⟩) (by assumption) ?_
    rotate_left
    · intro w hSw; obtain ⟨z0, z1, z2, _⟩ := hSw; go_simp; first | done | (with_reducible rfl) | (rw [if_neg (by omega)])
    try simp only [Act.put, List.setIfInBounds_toArray, List.set_cons_zero, List.set_cons_succ]
    refine wpAnyH_ready (rs := [4]) (by kernel_rfl) (by simp) ?_
    refine AllReadyH.cons (o := { dst := some 20, op := Op.call { callee := Callee.value (Operand.func 12), args := #[Operand.tmp 19], argTypes := #[3] }, type := 9, pos := _, after := #[{ on := 3, ground := Ground.data }], guard := none }) rfl (fun K hK => ?_) AllReadyH.nil
    rw [if_pos (by kernel_rfl)]
    go_simp
    go_at_call 12
    refine (hD1 _ trivial).mono ?_
    rintro e w1 ⟨rfl, hb1⟩
    have X1 := XZ.drew.all hb1
    have B1 := BZ.drew.trans (hb1.mono BZ.size)
    go_wp2_with fail
    refine hK.out _ _ ⟨X1.cell 0 rfl, X1.cell 1 rfl, X1.cell 2 rfl, B1⟩ (fun hHeld2 => ?_)
    clear hK K
    try simp only [Act.put, List.setIfInBounds_toArray, List.set_cons_zero, List.set_cons_succ]
    refine wpAnyH_take (i := 5) (oi := { dst := some 21, op := Op.binOp BinOp.add 9 (Operand.tmp 17) (Operand.tmp 20) 9, type := 9, pos := _, after := #[{ on := 1, ground := Ground.data }, { on := 4, ground := Ground.data }], guard := none }) (v := ?_) rfl (by kernel_rfl) (by kernel_rfl) (by kernel_rfl) (fun _ _ _ h => h) (Or.inl ⟨by kernel_rfl, ?_⟩) (by assumption) ?_
    rotate_left
    · intro w hSw; obtain ⟨z0, z1, z2, _⟩ := hSw; go_simp; first | done | (with_reducible rfl) | (rw [if_neg (by omega)])
    try simp only [Act.put, List.setIfInBounds_toArray, List.set_cons_zero, List.set_cons_succ]
    refine wpAnyH_take (i := 6) (oi := { dst := some 22, op := Op.binOp BinOp.add 9 (Operand.tmp 21) (Operand.const (Value.string ⟨#[32]⟩)) 9, type := 9, pos := _, after := #[{ on := 5, ground := Ground.data }], guard := none }) (v := ?_) rfl (by kernel_rfl) (by kernel_rfl) (by kernel_rfl) (fun _ _ _ h => h) (Or.inl ⟨by kernel_rfl, ?_⟩) (by assumption) ?_
    rotate_left
    · intro w hSw; obtain ⟨z0, z1, z2, _⟩ := hSw; go_simp; first | done | (with_reducible rfl) | (rw [if_neg (by omega)])
    try simp only [Act.put, List.setIfInBounds_toArray, List.set_cons_zero, List.set_cons_succ]
    refine wpAnyH_ready (rs := [9]) (by kernel_rfl) (by simp) ?_
    refine AllReadyH.cons (o := { dst := some 25, op := Op.call { callee := Callee.value (Operand.func 12), args := #[Operand.tmp 24], argTypes := #[3] }, type := 9, pos := _, after := #[{ on := 8, ground := Ground.data }, { on := 4, ground := Ground.chain }], guard := none }) rfl (fun K hK => ?_) AllReadyH.nil
    rw [if_pos (by kernel_rfl)]
    go_simp
    go_at_call 12
    refine (hD2 _ trivial).mono ?_
    rintro e w2 ⟨rfl, hb2⟩
    have X2 := X1.all hb2
    have B2 := B1.trans (hb2.mono B1.size)
    go_wp2_with fail
    refine hK.out _ _ ⟨X2.cell 0 rfl, X2.cell 1 rfl, X2.cell 2 rfl, B2⟩ (fun hHeld3 => ?_)
    clear hK K
    try simp only [Act.put, List.setIfInBounds_toArray, List.set_cons_zero, List.set_cons_succ]
    refine wpAnyH_take (i := 10) (oi := { dst := some 26, op := Op.binOp BinOp.add 9 (Operand.tmp 22) (Operand.tmp 25) 9, type := 9, pos := _, after := #[{ on := 6, ground := Ground.data }, { on := 9, ground := Ground.data }], guard := none }) (v := ?_) rfl (by kernel_rfl) (by kernel_rfl) (by kernel_rfl) (fun _ _ _ h => h) (Or.inl ⟨by kernel_rfl, ?_⟩) (by assumption) ?_
    rotate_left
    · intro w hSw; obtain ⟨z0, z1, z2, _⟩ := hSw; go_simp; first | done | (with_reducible rfl) | (rw [if_neg (by omega)])
    try simp only [Act.put, List.setIfInBounds_toArray, List.set_cons_zero, List.set_cons_succ]
    refine wpAnyH_take (i := 11) (oi := { dst := some 2, op := Op.assign (Operand.tmp 26), type := 9, pos := _, after := #[{ on := 10, ground := Ground.data }, { on := 9, ground := Ground.chain }, { on := 0, ground := Ground.phase }, { on := 1, ground := Ground.phase }, { on := 2, ground := Ground.phase }, { on := 3, ground := Ground.phase }, { on := 4, ground := Ground.phase }, { on := 5, ground := Ground.phase }, { on := 6, ground := Ground.phase }, { on := 7, ground := Ground.phase }, { on := 8, ground := Ground.phase }, { on := 9, ground := Ground.phase }, { on := 10, ground := Ground.phase }], guard := none }) (v := ?_) rfl (by kernel_rfl) (by kernel_rfl) (by kernel_rfl) (fun _ _ _ h => h) (Or.inl ⟨by kernel_rfl, ?_⟩) (by assumption) ?_
    rotate_left
    · intro w hSw; obtain ⟨z0, z1, z2, _⟩ := hSw; go_simp; first | done | (with_reducible rfl) | (rw [if_neg (by omega)])
    try simp only [Act.put, List.setIfInBounds_toArray, List.set_cons_zero, List.set_cons_succ]
    refine wpAnyH_done (by kernel_rfl) ?_ _
    go_wp2
    go_ret
    exact ⟨HV.out, B2⟩
  · rw [if_neg (by decide), h2]
    have HV : Hid (Ending.returned (.string ((⟨#[107, 105, 110, 100]⟩ : ByteArray) ++ ⟨#[32]⟩ ++ A ++ ⟨#[32]⟩ ++ B)) = Ending.returned (.string ((⟨#[107, 105, 110, 100]⟩ : ByteArray) ++ sp ++ A ++ sp ++ B))) := Lib.hid rfl
    go_enter Tryd.func21, Tryd.ntmps21
    go_wp2_with (go_at_call 34; refine (cP_in _ _ _ _).mono ?_; rintro e w' ⟨rfl, rfl⟩)
    have XZ := (Box.new w 39 #[.int .i64 7, .int .i64 m, .int .i64 f]).alloc (.cells #[.string ⟨#[111, 107]⟩, .string ⟨#[109, 115, 103, 115]⟩, .string ⟨#[105, 100]⟩, .string ⟨#[116, 119, 105, 99, 101]⟩, .string ⟨#[102, 105, 101, 108, 100, 115]⟩, .string ⟨#[110, 117, 109, 98, 101, 114]⟩, .string ⟨#[115, 97, 109, 101]⟩, .string ⟨#[107, 105, 110, 100]⟩, .string ⟨#[112, 97, 99, 107, 101, 100]⟩, .string ⟨#[114, 101, 102]⟩] 9)
    have BZ := ((Below.refl w.heap.size w).alloc (Nat.le_refl _) (.cells #[.int .i64 7, .int .i64 m, .int .i64 f] 39)).alloc (by simp) (.cells #[.string ⟨#[111, 107]⟩, .string ⟨#[109, 115, 103, 115]⟩, .string ⟨#[105, 100]⟩, .string ⟨#[116, 119, 105, 99, 101]⟩, .string ⟨#[102, 105, 101, 108, 100, 115]⟩, .string ⟨#[110, 117, 109, 98, 101, 114]⟩, .string ⟨#[115, 97, 109, 101]⟩, .string ⟨#[107, 105, 110, 100]⟩, .string ⟨#[112, 97, 99, 107, 101, 100]⟩, .string ⟨#[114, 101, 102]⟩] 9)
    refine wp_region_held_drew (S := fun w' => w'.cell? ⟨w.heap.size, 0, none⟩ = some (.int .i64 7) ∧ w'.cell? ⟨w.heap.size, 1, none⟩ = some (.int .i64 m) ∧ w'.cell? ⟨w.heap.size, 2, none⟩ = some (.int .i64 f) ∧ Below w.heap.size w w') (by kernel_rfl) (⟨XZ.drew.cell 0 rfl, XZ.drew.cell 1 rfl, XZ.drew.cell 2 rfl, BZ.drew⟩) (fun hHeld => ?_)
    refine wpAnyH_take (i := 0) (oi := { dst := some 16, op := Op.move (Operand.tmp 3), type := 9, pos := _, after := #[], guard := none }) (v := ?_) rfl (by kernel_rfl) (by kernel_rfl) (by kernel_rfl) (fun _ _ _ h => h) (Or.inl ⟨by kernel_rfl, ?_⟩) (by assumption) ?_
    rotate_left
    · intro w hSw; obtain ⟨z0, z1, z2, _⟩ := hSw; go_simp; first | done | (with_reducible rfl) | (rw [if_neg (by omega)])
    try simp only [Act.put, List.setIfInBounds_toArray, List.set_cons_zero, List.set_cons_succ]
    refine wpAnyH_take (i := 1) (oi := { dst := some 17, op := Op.binOp BinOp.add 9 (Operand.tmp 16) (Operand.const (Value.string ⟨#[32]⟩)) 9, type := 9, pos := _, after := #[{ on := 0, ground := Ground.data }], guard := none }) (v := ?_) rfl (by kernel_rfl) (by kernel_rfl) (by kernel_rfl) (fun _ _ _ h => h) (Or.inl ⟨by kernel_rfl, ?_⟩) (by assumption) ?_
    rotate_left
    · intro w hSw; obtain ⟨z0, z1, z2, _⟩ := hSw; go_simp; first | done | (with_reducible rfl) | (rw [if_neg (by omega)])
    try simp only [Act.put, List.setIfInBounds_toArray, List.set_cons_zero, List.set_cons_succ]
    refine wpAnyH_take (i := 2) (oi := { dst := some 18, op := Op.fieldAddr 39 (Operand.tmp 1) 1, type := 0, pos := _, after := #[], guard := none }) (v := ?_) rfl (by kernel_rfl) (by kernel_rfl) (by kernel_rfl) (fun _ _ _ h => h) (Or.inl ⟨by kernel_rfl, ?_⟩) (by assumption) ?_
    rotate_left
    · intro w hSw; obtain ⟨z0, z1, z2, _⟩ := hSw; go_simp; first | done | (with_reducible rfl) | (rw [if_neg (by omega)])
    try simp only [Act.put, List.setIfInBounds_toArray, List.set_cons_zero, List.set_cons_succ]
    refine wpAnyH_take (i := 3) (oi := { dst := some 19, op := Op.load 3 (Operand.tmp 18), type := 3, pos := _, after := #[{ on := 2, ground := Ground.data }], guard := none }) (v := ?_) rfl (by kernel_rfl) (by kernel_rfl) (by kernel_rfl) (fun _ _ _ h => h) (Or.inl ⟨by kernel_rfl, ?_⟩) (by assumption) ?_
    rotate_left
    · intro w hSw; obtain ⟨z0, z1, z2, _⟩ := hSw; go_simp; first | done | (with_reducible rfl) | (rw [if_neg (by omega)])
    try simp only [Act.put, List.setIfInBounds_toArray, List.set_cons_zero, List.set_cons_succ]
    refine wpAnyH_take (i := 7) (oi := { dst := some 23, op := Op.fieldAddr 39 (Operand.tmp 1) 2, type := 0, pos := _, after := #[], guard := none }) (v := ?_) rfl (by kernel_rfl) (by kernel_rfl) (by kernel_rfl) (fun _ _ _ h => h) (Or.inl ⟨by kernel_rfl, ?_⟩) (by assumption) ?_
    rotate_left
    · intro w hSw; obtain ⟨z0, z1, z2, _⟩ := hSw; go_simp; first | done | (with_reducible rfl) | (rw [if_neg (by omega)])
    try simp only [Act.put, List.setIfInBounds_toArray, List.set_cons_zero, List.set_cons_succ]
    refine wpAnyH_take (i := 8) (oi := { dst := some 24, op := Op.load 3 (Operand.tmp 23), type := 3, pos := _, after := #[{ on := 7, ground := Ground.data }], guard := none }) (v := ?_) rfl (by kernel_rfl) (by kernel_rfl) (by kernel_rfl) (fun _ _ _ h => h) (Or.inl ⟨by kernel_rfl, ?_⟩) (by assumption) ?_
    rotate_left
    · intro w hSw; obtain ⟨z0, z1, z2, _⟩ := hSw; go_simp; first | done | (with_reducible rfl) | (rw [if_neg (by omega)])
    try simp only [Act.put, List.setIfInBounds_toArray, List.set_cons_zero, List.set_cons_succ]
    refine wpAnyH_ready (rs := [4]) (by kernel_rfl) (by simp) ?_
    refine AllReadyH.cons (o := { dst := some 20, op := Op.call { callee := Callee.value (Operand.func 12), args := #[Operand.tmp 19], argTypes := #[3] }, type := 9, pos := _, after := #[{ on := 3, ground := Ground.data }], guard := none }) rfl (fun K hK => ?_) AllReadyH.nil
    rw [if_pos (by kernel_rfl)]
    go_simp
    go_at_call 12
    refine (hD1 _ trivial).mono ?_
    rintro e w1 ⟨rfl, hb1⟩
    have X1 := XZ.drew.all hb1
    have B1 := BZ.drew.trans (hb1.mono BZ.size)
    go_wp2_with fail
    refine hK.out _ _ ⟨X1.cell 0 rfl, X1.cell 1 rfl, X1.cell 2 rfl, B1⟩ (fun hHeld2 => ?_)
    clear hK K
    try simp only [Act.put, List.setIfInBounds_toArray, List.set_cons_zero, List.set_cons_succ]
    refine wpAnyH_take (i := 5) (oi := { dst := some 21, op := Op.binOp BinOp.add 9 (Operand.tmp 17) (Operand.tmp 20) 9, type := 9, pos := _, after := #[{ on := 1, ground := Ground.data }, { on := 4, ground := Ground.data }], guard := none }) (v := ?_) rfl (by kernel_rfl) (by kernel_rfl) (by kernel_rfl) (fun _ _ _ h => h) (Or.inl ⟨by kernel_rfl, ?_⟩) (by assumption) ?_
    rotate_left
    · intro w hSw; obtain ⟨z0, z1, z2, _⟩ := hSw; go_simp; first | done | (with_reducible rfl) | (rw [if_neg (by omega)])
    try simp only [Act.put, List.setIfInBounds_toArray, List.set_cons_zero, List.set_cons_succ]
    refine wpAnyH_take (i := 6) (oi := { dst := some 22, op := Op.binOp BinOp.add 9 (Operand.tmp 21) (Operand.const (Value.string ⟨#[32]⟩)) 9, type := 9, pos := _, after := #[{ on := 5, ground := Ground.data }], guard := none }) (v := ?_) rfl (by kernel_rfl) (by kernel_rfl) (by kernel_rfl) (fun _ _ _ h => h) (Or.inl ⟨by kernel_rfl, ?_⟩) (by assumption) ?_
    rotate_left
    · intro w hSw; obtain ⟨z0, z1, z2, _⟩ := hSw; go_simp; first | done | (with_reducible rfl) | (rw [if_neg (by omega)])
    try simp only [Act.put, List.setIfInBounds_toArray, List.set_cons_zero, List.set_cons_succ]
    refine wpAnyH_ready (rs := [9]) (by kernel_rfl) (by simp) ?_
    refine AllReadyH.cons (o := { dst := some 25, op := Op.call { callee := Callee.value (Operand.func 12), args := #[Operand.tmp 24], argTypes := #[3] }, type := 9, pos := _, after := #[{ on := 8, ground := Ground.data }, { on := 4, ground := Ground.chain }], guard := none }) rfl (fun K hK => ?_) AllReadyH.nil
    rw [if_pos (by kernel_rfl)]
    go_simp
    go_at_call 12
    refine (hD2 _ trivial).mono ?_
    rintro e w2 ⟨rfl, hb2⟩
    have X2 := X1.all hb2
    have B2 := B1.trans (hb2.mono B1.size)
    go_wp2_with fail
    refine hK.out _ _ ⟨X2.cell 0 rfl, X2.cell 1 rfl, X2.cell 2 rfl, B2⟩ (fun hHeld3 => ?_)
    clear hK K
    try simp only [Act.put, List.setIfInBounds_toArray, List.set_cons_zero, List.set_cons_succ]
    refine wpAnyH_take (i := 10) (oi := { dst := some 26, op := Op.binOp BinOp.add 9 (Operand.tmp 22) (Operand.tmp 25) 9, type := 9, pos := _, after := #[{ on := 6, ground := Ground.data }, { on := 9, ground := Ground.data }], guard := none }) (v := ?_) rfl (by kernel_rfl) (by kernel_rfl) (by kernel_rfl) (fun _ _ _ h => h) (Or.inl ⟨by kernel_rfl, ?_⟩) (by assumption) ?_
    rotate_left
    · intro w hSw; obtain ⟨z0, z1, z2, _⟩ := hSw; go_simp; first | done | (with_reducible rfl) | (rw [if_neg (by omega)])
    try simp only [Act.put, List.setIfInBounds_toArray, List.set_cons_zero, List.set_cons_succ]
    refine wpAnyH_take (i := 11) (oi := { dst := some 2, op := Op.assign (Operand.tmp 26), type := 9, pos := _, after := #[{ on := 10, ground := Ground.data }, { on := 9, ground := Ground.chain }, { on := 0, ground := Ground.phase }, { on := 1, ground := Ground.phase }, { on := 2, ground := Ground.phase }, { on := 3, ground := Ground.phase }, { on := 4, ground := Ground.phase }, { on := 5, ground := Ground.phase }, { on := 6, ground := Ground.phase }, { on := 7, ground := Ground.phase }, { on := 8, ground := Ground.phase }, { on := 9, ground := Ground.phase }, { on := 10, ground := Ground.phase }], guard := none }) (v := ?_) rfl (by kernel_rfl) (by kernel_rfl) (by kernel_rfl) (fun _ _ _ h => h) (Or.inl ⟨by kernel_rfl, ?_⟩) (by assumption) ?_
    rotate_left
    · intro w hSw; obtain ⟨z0, z1, z2, _⟩ := hSw; go_simp; first | done | (with_reducible rfl) | (rw [if_neg (by omega)])
    try simp only [Act.put, List.setIfInBounds_toArray, List.set_cons_zero, List.set_cons_succ]
    refine wpAnyH_done (by kernel_rfl) ?_ _
    go_wp2
    go_ret
    exact ⟨HV.out, B2⟩
  · rw [if_neg (by decide), h2]
    have HV : Hid (Ending.returned (.string ((⟨#[112, 97, 99, 107, 101, 100]⟩ : ByteArray) ++ ⟨#[32]⟩ ++ A ++ ⟨#[32]⟩ ++ B)) = Ending.returned (.string ((⟨#[112, 97, 99, 107, 101, 100]⟩ : ByteArray) ++ sp ++ A ++ sp ++ B))) := Lib.hid rfl
    go_enter Tryd.func21, Tryd.ntmps21
    go_wp2_with (go_at_call 34; refine (cP_in _ _ _ _).mono ?_; rintro e w' ⟨rfl, rfl⟩)
    have XZ := (Box.new w 39 #[.int .i64 8, .int .i64 m, .int .i64 f]).alloc (.cells #[.string ⟨#[111, 107]⟩, .string ⟨#[109, 115, 103, 115]⟩, .string ⟨#[105, 100]⟩, .string ⟨#[116, 119, 105, 99, 101]⟩, .string ⟨#[102, 105, 101, 108, 100, 115]⟩, .string ⟨#[110, 117, 109, 98, 101, 114]⟩, .string ⟨#[115, 97, 109, 101]⟩, .string ⟨#[107, 105, 110, 100]⟩, .string ⟨#[112, 97, 99, 107, 101, 100]⟩, .string ⟨#[114, 101, 102]⟩] 9)
    have BZ := ((Below.refl w.heap.size w).alloc (Nat.le_refl _) (.cells #[.int .i64 8, .int .i64 m, .int .i64 f] 39)).alloc (by simp) (.cells #[.string ⟨#[111, 107]⟩, .string ⟨#[109, 115, 103, 115]⟩, .string ⟨#[105, 100]⟩, .string ⟨#[116, 119, 105, 99, 101]⟩, .string ⟨#[102, 105, 101, 108, 100, 115]⟩, .string ⟨#[110, 117, 109, 98, 101, 114]⟩, .string ⟨#[115, 97, 109, 101]⟩, .string ⟨#[107, 105, 110, 100]⟩, .string ⟨#[112, 97, 99, 107, 101, 100]⟩, .string ⟨#[114, 101, 102]⟩] 9)
    refine wp_region_held_drew (S := fun w' => w'.cell? ⟨w.heap.size, 0, none⟩ = some (.int .i64 8) ∧ w'.cell? ⟨w.heap.size, 1, none⟩ = some (.int .i64 m) ∧ w'.cell? ⟨w.heap.size, 2, none⟩ = some (.int .i64 f) ∧ Below w.heap.size w w') (by kernel_rfl) (⟨XZ.drew.cell 0 rfl, XZ.drew.cell 1 rfl, XZ.drew.cell 2 rfl, BZ.drew⟩) (fun hHeld => ?_)
    refine wpAnyH_take (i := 0) (oi := { dst := some 16, op := Op.move (Operand.tmp 3), type := 9, pos := _, after := #[], guard := none }) (v := ?_) rfl (by kernel_rfl) (by kernel_rfl) (by kernel_rfl) (fun _ _ _ h => h) (Or.inl ⟨by kernel_rfl, ?_⟩) (by assumption) ?_
    rotate_left
    · intro w hSw; obtain ⟨z0, z1, z2, _⟩ := hSw; go_simp; first | done | (with_reducible rfl) | (rw [if_neg (by omega)])
    try simp only [Act.put, List.setIfInBounds_toArray, List.set_cons_zero, List.set_cons_succ]
    refine wpAnyH_take (i := 1) (oi := { dst := some 17, op := Op.binOp BinOp.add 9 (Operand.tmp 16) (Operand.const (Value.string ⟨#[32]⟩)) 9, type := 9, pos := _, after := #[{ on := 0, ground := Ground.data }], guard := none }) (v := ?_) rfl (by kernel_rfl) (by kernel_rfl) (by kernel_rfl) (fun _ _ _ h => h) (Or.inl ⟨by kernel_rfl, ?_⟩) (by assumption) ?_
    rotate_left
    · intro w hSw; obtain ⟨z0, z1, z2, _⟩ := hSw; go_simp; first | done | (with_reducible rfl) | (rw [if_neg (by omega)])
    try simp only [Act.put, List.setIfInBounds_toArray, List.set_cons_zero, List.set_cons_succ]
    refine wpAnyH_take (i := 2) (oi := { dst := some 18, op := Op.fieldAddr 39 (Operand.tmp 1) 1, type := 0, pos := _, after := #[], guard := none }) (v := ?_) rfl (by kernel_rfl) (by kernel_rfl) (by kernel_rfl) (fun _ _ _ h => h) (Or.inl ⟨by kernel_rfl, ?_⟩) (by assumption) ?_
    rotate_left
    · intro w hSw; obtain ⟨z0, z1, z2, _⟩ := hSw; go_simp; first | done | (with_reducible rfl) | (rw [if_neg (by omega)])
    try simp only [Act.put, List.setIfInBounds_toArray, List.set_cons_zero, List.set_cons_succ]
    refine wpAnyH_take (i := 3) (oi := { dst := some 19, op := Op.load 3 (Operand.tmp 18), type := 3, pos := _, after := #[{ on := 2, ground := Ground.data }], guard := none }) (v := ?_) rfl (by kernel_rfl) (by kernel_rfl) (by kernel_rfl) (fun _ _ _ h => h) (Or.inl ⟨by kernel_rfl, ?_⟩) (by assumption) ?_
    rotate_left
    · intro w hSw; obtain ⟨z0, z1, z2, _⟩ := hSw; go_simp; first | done | (with_reducible rfl) | (rw [if_neg (by omega)])
    try simp only [Act.put, List.setIfInBounds_toArray, List.set_cons_zero, List.set_cons_succ]
    refine wpAnyH_take (i := 7) (oi := { dst := some 23, op := Op.fieldAddr 39 (Operand.tmp 1) 2, type := 0, pos := _, after := #[], guard := none }) (v := ?_) rfl (by kernel_rfl) (by kernel_rfl) (by kernel_rfl) (fun _ _ _ h => h) (Or.inl ⟨by kernel_rfl, ?_⟩) (by assumption) ?_
    rotate_left
    · intro w hSw; obtain ⟨z0, z1, z2, _⟩ := hSw; go_simp; first | done | (with_reducible rfl) | (rw [if_neg (by omega)])
    try simp only [Act.put, List.setIfInBounds_toArray, List.set_cons_zero, List.set_cons_succ]
    refine wpAnyH_take (i := 8) (oi := { dst := some 24, op := Op.load 3 (Operand.tmp 23), type := 3, pos := _, after := #[{ on := 7, ground := Ground.data }], guard := none }) (v := ?_) rfl (by kernel_rfl) (by kernel_rfl) (by kernel_rfl) (fun _ _ _ h => h) (Or.inl ⟨by kernel_rfl, ?_⟩) (by assumption) ?_
    rotate_left
    · intro w hSw; obtain ⟨z0, z1, z2, _⟩ := hSw; go_simp; first | done | (with_reducible rfl) | (rw [if_neg (by omega)])
    try simp only [Act.put, List.setIfInBounds_toArray, List.set_cons_zero, List.set_cons_succ]
    refine wpAnyH_ready (rs := [4]) (by kernel_rfl) (by simp) ?_
    refine AllReadyH.cons (o := { dst := some 20, op := Op.call { callee := Callee.value (Operand.func 12), args := #[Operand.tmp 19], argTypes := #[3] }, type := 9, pos := _, after := #[{ on := 3, ground := Ground.data }], guard := none }) rfl (fun K hK => ?_) AllReadyH.nil
    rw [if_pos (by kernel_rfl)]
    go_simp
    go_at_call 12
    refine (hD1 _ trivial).mono ?_
    rintro e w1 ⟨rfl, hb1⟩
    have X1 := XZ.drew.all hb1
    have B1 := BZ.drew.trans (hb1.mono BZ.size)
    go_wp2_with fail
    refine hK.out _ _ ⟨X1.cell 0 rfl, X1.cell 1 rfl, X1.cell 2 rfl, B1⟩ (fun hHeld2 => ?_)
    clear hK K
    try simp only [Act.put, List.setIfInBounds_toArray, List.set_cons_zero, List.set_cons_succ]
    refine wpAnyH_take (i := 5) (oi := { dst := some 21, op := Op.binOp BinOp.add 9 (Operand.tmp 17) (Operand.tmp 20) 9, type := 9, pos := _, after := #[{ on := 1, ground := Ground.data }, { on := 4, ground := Ground.data }], guard := none }) (v := ?_) rfl (by kernel_rfl) (by kernel_rfl) (by kernel_rfl) (fun _ _ _ h => h) (Or.inl ⟨by kernel_rfl, ?_⟩) (by assumption) ?_
    rotate_left
    · intro w hSw; obtain ⟨z0, z1, z2, _⟩ := hSw; go_simp; first | done | (with_reducible rfl) | (rw [if_neg (by omega)])
    try simp only [Act.put, List.setIfInBounds_toArray, List.set_cons_zero, List.set_cons_succ]
    refine wpAnyH_take (i := 6) (oi := { dst := some 22, op := Op.binOp BinOp.add 9 (Operand.tmp 21) (Operand.const (Value.string ⟨#[32]⟩)) 9, type := 9, pos := _, after := #[{ on := 5, ground := Ground.data }], guard := none }) (v := ?_) rfl (by kernel_rfl) (by kernel_rfl) (by kernel_rfl) (fun _ _ _ h => h) (Or.inl ⟨by kernel_rfl, ?_⟩) (by assumption) ?_
    rotate_left
    · intro w hSw; obtain ⟨z0, z1, z2, _⟩ := hSw; go_simp; first | done | (with_reducible rfl) | (rw [if_neg (by omega)])
    try simp only [Act.put, List.setIfInBounds_toArray, List.set_cons_zero, List.set_cons_succ]
    refine wpAnyH_ready (rs := [9]) (by kernel_rfl) (by simp) ?_
    refine AllReadyH.cons (o := { dst := some 25, op := Op.call { callee := Callee.value (Operand.func 12), args := #[Operand.tmp 24], argTypes := #[3] }, type := 9, pos := _, after := #[{ on := 8, ground := Ground.data }, { on := 4, ground := Ground.chain }], guard := none }) rfl (fun K hK => ?_) AllReadyH.nil
    rw [if_pos (by kernel_rfl)]
    go_simp
    go_at_call 12
    refine (hD2 _ trivial).mono ?_
    rintro e w2 ⟨rfl, hb2⟩
    have X2 := X1.all hb2
    have B2 := B1.trans (hb2.mono B1.size)
    go_wp2_with fail
    refine hK.out _ _ ⟨X2.cell 0 rfl, X2.cell 1 rfl, X2.cell 2 rfl, B2⟩ (fun hHeld3 => ?_)
    clear hK K
    try simp only [Act.put, List.setIfInBounds_toArray, List.set_cons_zero, List.set_cons_succ]
    refine wpAnyH_take (i := 10) (oi := { dst := some 26, op := Op.binOp BinOp.add 9 (Operand.tmp 22) (Operand.tmp 25) 9, type := 9, pos := _, after := #[{ on := 6, ground := Ground.data }, { on := 9, ground := Ground.data }], guard := none }) (v := ?_) rfl (by kernel_rfl) (by kernel_rfl) (by kernel_rfl) (fun _ _ _ h => h) (Or.inl ⟨by kernel_rfl, ?_⟩) (by assumption) ?_
    rotate_left
    · intro w hSw; obtain ⟨z0, z1, z2, _⟩ := hSw; go_simp; first | done | (with_reducible rfl) | (rw [if_neg (by omega)])
    try simp only [Act.put, List.setIfInBounds_toArray, List.set_cons_zero, List.set_cons_succ]
    refine wpAnyH_take (i := 11) (oi := { dst := some 2, op := Op.assign (Operand.tmp 26), type := 9, pos := _, after := #[{ on := 10, ground := Ground.data }, { on := 9, ground := Ground.chain }, { on := 0, ground := Ground.phase }, { on := 1, ground := Ground.phase }, { on := 2, ground := Ground.phase }, { on := 3, ground := Ground.phase }, { on := 4, ground := Ground.phase }, { on := 5, ground := Ground.phase }, { on := 6, ground := Ground.phase }, { on := 7, ground := Ground.phase }, { on := 8, ground := Ground.phase }, { on := 9, ground := Ground.phase }, { on := 10, ground := Ground.phase }], guard := none }) (v := ?_) rfl (by kernel_rfl) (by kernel_rfl) (by kernel_rfl) (fun _ _ _ h => h) (Or.inl ⟨by kernel_rfl, ?_⟩) (by assumption) ?_
    rotate_left
    · intro w hSw; obtain ⟨z0, z1, z2, _⟩ := hSw; go_simp; first | done | (with_reducible rfl) | (rw [if_neg (by omega)])
    try simp only [Act.put, List.setIfInBounds_toArray, List.set_cons_zero, List.set_cons_succ]
    refine wpAnyH_done (by kernel_rfl) ?_ _
    go_wp2
    go_ret
    exact ⟨HV.out, B2⟩
  · rw [if_neg (by decide), h2]
    have HV : Hid (Ending.returned (.string ((⟨#[114, 101, 102]⟩ : ByteArray) ++ ⟨#[32]⟩ ++ A ++ ⟨#[32]⟩ ++ B)) = Ending.returned (.string ((⟨#[114, 101, 102]⟩ : ByteArray) ++ sp ++ A ++ sp ++ B))) := Lib.hid rfl
    go_enter Tryd.func21, Tryd.ntmps21
    go_wp2_with (go_at_call 34; refine (cP_in _ _ _ _).mono ?_; rintro e w' ⟨rfl, rfl⟩)
    have XZ := (Box.new w 39 #[.int .i64 9, .int .i64 m, .int .i64 f]).alloc (.cells #[.string ⟨#[111, 107]⟩, .string ⟨#[109, 115, 103, 115]⟩, .string ⟨#[105, 100]⟩, .string ⟨#[116, 119, 105, 99, 101]⟩, .string ⟨#[102, 105, 101, 108, 100, 115]⟩, .string ⟨#[110, 117, 109, 98, 101, 114]⟩, .string ⟨#[115, 97, 109, 101]⟩, .string ⟨#[107, 105, 110, 100]⟩, .string ⟨#[112, 97, 99, 107, 101, 100]⟩, .string ⟨#[114, 101, 102]⟩] 9)
    have BZ := ((Below.refl w.heap.size w).alloc (Nat.le_refl _) (.cells #[.int .i64 9, .int .i64 m, .int .i64 f] 39)).alloc (by simp) (.cells #[.string ⟨#[111, 107]⟩, .string ⟨#[109, 115, 103, 115]⟩, .string ⟨#[105, 100]⟩, .string ⟨#[116, 119, 105, 99, 101]⟩, .string ⟨#[102, 105, 101, 108, 100, 115]⟩, .string ⟨#[110, 117, 109, 98, 101, 114]⟩, .string ⟨#[115, 97, 109, 101]⟩, .string ⟨#[107, 105, 110, 100]⟩, .string ⟨#[112, 97, 99, 107, 101, 100]⟩, .string ⟨#[114, 101, 102]⟩] 9)
    refine wp_region_held_drew (S := fun w' => w'.cell? ⟨w.heap.size, 0, none⟩ = some (.int .i64 9) ∧ w'.cell? ⟨w.heap.size, 1, none⟩ = some (.int .i64 m) ∧ w'.cell? ⟨w.heap.size, 2, none⟩ = some (.int .i64 f) ∧ Below w.heap.size w w') (by kernel_rfl) (⟨XZ.drew.cell 0 rfl, XZ.drew.cell 1 rfl, XZ.drew.cell 2 rfl, BZ.drew⟩) (fun hHeld => ?_)
    refine wpAnyH_take (i := 0) (oi := { dst := some 16, op := Op.move (Operand.tmp 3), type := 9, pos := _, after := #[], guard := none }) (v := ?_) rfl (by kernel_rfl) (by kernel_rfl) (by kernel_rfl) (fun _ _ _ h => h) (Or.inl ⟨by kernel_rfl, ?_⟩) (by assumption) ?_
    rotate_left
    · intro w hSw; obtain ⟨z0, z1, z2, _⟩ := hSw; go_simp; first | done | (with_reducible rfl) | (rw [if_neg (by omega)])
    try simp only [Act.put, List.setIfInBounds_toArray, List.set_cons_zero, List.set_cons_succ]
    refine wpAnyH_take (i := 1) (oi := { dst := some 17, op := Op.binOp BinOp.add 9 (Operand.tmp 16) (Operand.const (Value.string ⟨#[32]⟩)) 9, type := 9, pos := _, after := #[{ on := 0, ground := Ground.data }], guard := none }) (v := ?_) rfl (by kernel_rfl) (by kernel_rfl) (by kernel_rfl) (fun _ _ _ h => h) (Or.inl ⟨by kernel_rfl, ?_⟩) (by assumption) ?_
    rotate_left
    · intro w hSw; obtain ⟨z0, z1, z2, _⟩ := hSw; go_simp; first | done | (with_reducible rfl) | (rw [if_neg (by omega)])
    try simp only [Act.put, List.setIfInBounds_toArray, List.set_cons_zero, List.set_cons_succ]
    refine wpAnyH_take (i := 2) (oi := { dst := some 18, op := Op.fieldAddr 39 (Operand.tmp 1) 1, type := 0, pos := _, after := #[], guard := none }) (v := ?_) rfl (by kernel_rfl) (by kernel_rfl) (by kernel_rfl) (fun _ _ _ h => h) (Or.inl ⟨by kernel_rfl, ?_⟩) (by assumption) ?_
    rotate_left
    · intro w hSw; obtain ⟨z0, z1, z2, _⟩ := hSw; go_simp; first | done | (with_reducible rfl) | (rw [if_neg (by omega)])
    try simp only [Act.put, List.setIfInBounds_toArray, List.set_cons_zero, List.set_cons_succ]
    refine wpAnyH_take (i := 3) (oi := { dst := some 19, op := Op.load 3 (Operand.tmp 18), type := 3, pos := _, after := #[{ on := 2, ground := Ground.data }], guard := none }) (v := ?_) rfl (by kernel_rfl) (by kernel_rfl) (by kernel_rfl) (fun _ _ _ h => h) (Or.inl ⟨by kernel_rfl, ?_⟩) (by assumption) ?_
    rotate_left
    · intro w hSw; obtain ⟨z0, z1, z2, _⟩ := hSw; go_simp; first | done | (with_reducible rfl) | (rw [if_neg (by omega)])
    try simp only [Act.put, List.setIfInBounds_toArray, List.set_cons_zero, List.set_cons_succ]
    refine wpAnyH_take (i := 7) (oi := { dst := some 23, op := Op.fieldAddr 39 (Operand.tmp 1) 2, type := 0, pos := _, after := #[], guard := none }) (v := ?_) rfl (by kernel_rfl) (by kernel_rfl) (by kernel_rfl) (fun _ _ _ h => h) (Or.inl ⟨by kernel_rfl, ?_⟩) (by assumption) ?_
    rotate_left
    · intro w hSw; obtain ⟨z0, z1, z2, _⟩ := hSw; go_simp; first | done | (with_reducible rfl) | (rw [if_neg (by omega)])
    try simp only [Act.put, List.setIfInBounds_toArray, List.set_cons_zero, List.set_cons_succ]
    refine wpAnyH_take (i := 8) (oi := { dst := some 24, op := Op.load 3 (Operand.tmp 23), type := 3, pos := _, after := #[{ on := 7, ground := Ground.data }], guard := none }) (v := ?_) rfl (by kernel_rfl) (by kernel_rfl) (by kernel_rfl) (fun _ _ _ h => h) (Or.inl ⟨by kernel_rfl, ?_⟩) (by assumption) ?_
    rotate_left
    · intro w hSw; obtain ⟨z0, z1, z2, _⟩ := hSw; go_simp; first | done | (with_reducible rfl) | (rw [if_neg (by omega)])
    try simp only [Act.put, List.setIfInBounds_toArray, List.set_cons_zero, List.set_cons_succ]
    refine wpAnyH_ready (rs := [4]) (by kernel_rfl) (by simp) ?_
    refine AllReadyH.cons (o := { dst := some 20, op := Op.call { callee := Callee.value (Operand.func 12), args := #[Operand.tmp 19], argTypes := #[3] }, type := 9, pos := _, after := #[{ on := 3, ground := Ground.data }], guard := none }) rfl (fun K hK => ?_) AllReadyH.nil
    rw [if_pos (by kernel_rfl)]
    go_simp
    go_at_call 12
    refine (hD1 _ trivial).mono ?_
    rintro e w1 ⟨rfl, hb1⟩
    have X1 := XZ.drew.all hb1
    have B1 := BZ.drew.trans (hb1.mono BZ.size)
    go_wp2_with fail
    refine hK.out _ _ ⟨X1.cell 0 rfl, X1.cell 1 rfl, X1.cell 2 rfl, B1⟩ (fun hHeld2 => ?_)
    clear hK K
    try simp only [Act.put, List.setIfInBounds_toArray, List.set_cons_zero, List.set_cons_succ]
    refine wpAnyH_take (i := 5) (oi := { dst := some 21, op := Op.binOp BinOp.add 9 (Operand.tmp 17) (Operand.tmp 20) 9, type := 9, pos := _, after := #[{ on := 1, ground := Ground.data }, { on := 4, ground := Ground.data }], guard := none }) (v := ?_) rfl (by kernel_rfl) (by kernel_rfl) (by kernel_rfl) (fun _ _ _ h => h) (Or.inl ⟨by kernel_rfl, ?_⟩) (by assumption) ?_
    rotate_left
    · intro w hSw; obtain ⟨z0, z1, z2, _⟩ := hSw; go_simp; first | done | (with_reducible rfl) | (rw [if_neg (by omega)])
    try simp only [Act.put, List.setIfInBounds_toArray, List.set_cons_zero, List.set_cons_succ]
    refine wpAnyH_take (i := 6) (oi := { dst := some 22, op := Op.binOp BinOp.add 9 (Operand.tmp 21) (Operand.const (Value.string ⟨#[32]⟩)) 9, type := 9, pos := _, after := #[{ on := 5, ground := Ground.data }], guard := none }) (v := ?_) rfl (by kernel_rfl) (by kernel_rfl) (by kernel_rfl) (fun _ _ _ h => h) (Or.inl ⟨by kernel_rfl, ?_⟩) (by assumption) ?_
    rotate_left
    · intro w hSw; obtain ⟨z0, z1, z2, _⟩ := hSw; go_simp; first | done | (with_reducible rfl) | (rw [if_neg (by omega)])
    try simp only [Act.put, List.setIfInBounds_toArray, List.set_cons_zero, List.set_cons_succ]
    refine wpAnyH_ready (rs := [9]) (by kernel_rfl) (by simp) ?_
    refine AllReadyH.cons (o := { dst := some 25, op := Op.call { callee := Callee.value (Operand.func 12), args := #[Operand.tmp 24], argTypes := #[3] }, type := 9, pos := _, after := #[{ on := 8, ground := Ground.data }, { on := 4, ground := Ground.chain }], guard := none }) rfl (fun K hK => ?_) AllReadyH.nil
    rw [if_pos (by kernel_rfl)]
    go_simp
    go_at_call 12
    refine (hD2 _ trivial).mono ?_
    rintro e w2 ⟨rfl, hb2⟩
    have X2 := X1.all hb2
    have B2 := B1.trans (hb2.mono B1.size)
    go_wp2_with fail
    refine hK.out _ _ ⟨X2.cell 0 rfl, X2.cell 1 rfl, X2.cell 2 rfl, B2⟩ (fun hHeld3 => ?_)
    clear hK K
    try simp only [Act.put, List.setIfInBounds_toArray, List.set_cons_zero, List.set_cons_succ]
    refine wpAnyH_take (i := 10) (oi := { dst := some 26, op := Op.binOp BinOp.add 9 (Operand.tmp 22) (Operand.tmp 25) 9, type := 9, pos := _, after := #[{ on := 6, ground := Ground.data }, { on := 9, ground := Ground.data }], guard := none }) (v := ?_) rfl (by kernel_rfl) (by kernel_rfl) (by kernel_rfl) (fun _ _ _ h => h) (Or.inl ⟨by kernel_rfl, ?_⟩) (by assumption) ?_
    rotate_left
    · intro w hSw; obtain ⟨z0, z1, z2, _⟩ := hSw; go_simp; first | done | (with_reducible rfl) | (rw [if_neg (by omega)])
    try simp only [Act.put, List.setIfInBounds_toArray, List.set_cons_zero, List.set_cons_succ]
    refine wpAnyH_take (i := 11) (oi := { dst := some 2, op := Op.assign (Operand.tmp 26), type := 9, pos := _, after := #[{ on := 10, ground := Ground.data }, { on := 9, ground := Ground.chain }, { on := 0, ground := Ground.phase }, { on := 1, ground := Ground.phase }, { on := 2, ground := Ground.phase }, { on := 3, ground := Ground.phase }, { on := 4, ground := Ground.phase }, { on := 5, ground := Ground.phase }, { on := 6, ground := Ground.phase }, { on := 7, ground := Ground.phase }, { on := 8, ground := Ground.phase }, { on := 9, ground := Ground.phase }, { on := 10, ground := Ground.phase }], guard := none }) (v := ?_) rfl (by kernel_rfl) (by kernel_rfl) (by kernel_rfl) (fun _ _ _ h => h) (Or.inl ⟨by kernel_rfl, ?_⟩) (by assumption) ?_
    rotate_left
    · intro w hSw; obtain ⟨z0, z1, z2, _⟩ := hSw; go_simp; first | done | (with_reducible rfl) | (rw [if_neg (by omega)])
    try simp only [Act.put, List.setIfInBounds_toArray, List.set_cons_zero, List.set_cons_succ]
    refine wpAnyH_done (by kernel_rfl) ?_ _
    go_wp2
    go_ret
    exact ⟨HV.out, B2⟩
  · rw [if_neg h3, h4]
    have HV : Hid (Ending.returned (.string ((⟨#[63]⟩ : ByteArray) ++ ⟨#[32]⟩ ++ A ++ ⟨#[32]⟩ ++ B)) = Ending.returned (.string ((⟨#[63]⟩ : ByteArray) ++ sp ++ A ++ sp ++ B))) := Lib.hid rfl
    go_enter Tryd.func21, Tryd.ntmps21
    go_wp2_with (go_at_call 34; refine (cP_in _ _ _ _).mono ?_; rintro e w' ⟨rfl, rfl⟩)
    have XZ := (Box.new w 39 #[.int .i64 c, .int .i64 m, .int .i64 f])
    have BZ := ((Below.refl w.heap.size w).alloc (Nat.le_refl _) (.cells #[.int .i64 c, .int .i64 m, .int .i64 f] 39))
    refine wp_region_held_drew (S := fun w' => w'.cell? ⟨w.heap.size, 0, none⟩ = some (.int .i64 c) ∧ w'.cell? ⟨w.heap.size, 1, none⟩ = some (.int .i64 m) ∧ w'.cell? ⟨w.heap.size, 2, none⟩ = some (.int .i64 f) ∧ Below w.heap.size w w') (by kernel_rfl) (⟨XZ.drew.cell 0 rfl, XZ.drew.cell 1 rfl, XZ.drew.cell 2 rfl, BZ.drew⟩) (fun hHeld => ?_)
    refine wpAnyH_take (i := 0) (oi := { dst := some 16, op := Op.move (Operand.tmp 3), type := 9, pos := _, after := #[], guard := none }) (v := ?_) rfl (by kernel_rfl) (by kernel_rfl) (by kernel_rfl) (fun _ _ _ h => h) (Or.inl ⟨by kernel_rfl, ?_⟩) (by assumption) ?_
    rotate_left
    · intro w hSw; obtain ⟨z0, z1, z2, _⟩ := hSw; go_simp; first | done | (with_reducible rfl) | (rw [if_neg (by omega)])
    try simp only [Act.put, List.setIfInBounds_toArray, List.set_cons_zero, List.set_cons_succ]
    refine wpAnyH_take (i := 1) (oi := { dst := some 17, op := Op.binOp BinOp.add 9 (Operand.tmp 16) (Operand.const (Value.string ⟨#[32]⟩)) 9, type := 9, pos := _, after := #[{ on := 0, ground := Ground.data }], guard := none }) (v := ?_) rfl (by kernel_rfl) (by kernel_rfl) (by kernel_rfl) (fun _ _ _ h => h) (Or.inl ⟨by kernel_rfl, ?_⟩) (by assumption) ?_
    rotate_left
    · intro w hSw; obtain ⟨z0, z1, z2, _⟩ := hSw; go_simp; first | done | (with_reducible rfl) | (rw [if_neg (by omega)])
    try simp only [Act.put, List.setIfInBounds_toArray, List.set_cons_zero, List.set_cons_succ]
    refine wpAnyH_take (i := 2) (oi := { dst := some 18, op := Op.fieldAddr 39 (Operand.tmp 1) 1, type := 0, pos := _, after := #[], guard := none }) (v := ?_) rfl (by kernel_rfl) (by kernel_rfl) (by kernel_rfl) (fun _ _ _ h => h) (Or.inl ⟨by kernel_rfl, ?_⟩) (by assumption) ?_
    rotate_left
    · intro w hSw; obtain ⟨z0, z1, z2, _⟩ := hSw; go_simp; first | done | (with_reducible rfl) | (rw [if_neg (by omega)])
    try simp only [Act.put, List.setIfInBounds_toArray, List.set_cons_zero, List.set_cons_succ]
    refine wpAnyH_take (i := 3) (oi := { dst := some 19, op := Op.load 3 (Operand.tmp 18), type := 3, pos := _, after := #[{ on := 2, ground := Ground.data }], guard := none }) (v := ?_) rfl (by kernel_rfl) (by kernel_rfl) (by kernel_rfl) (fun _ _ _ h => h) (Or.inl ⟨by kernel_rfl, ?_⟩) (by assumption) ?_
    rotate_left
    · intro w hSw; obtain ⟨z0, z1, z2, _⟩ := hSw; go_simp; first | done | (with_reducible rfl) | (rw [if_neg (by omega)])
    try simp only [Act.put, List.setIfInBounds_toArray, List.set_cons_zero, List.set_cons_succ]
    refine wpAnyH_take (i := 7) (oi := { dst := some 23, op := Op.fieldAddr 39 (Operand.tmp 1) 2, type := 0, pos := _, after := #[], guard := none }) (v := ?_) rfl (by kernel_rfl) (by kernel_rfl) (by kernel_rfl) (fun _ _ _ h => h) (Or.inl ⟨by kernel_rfl, ?_⟩) (by assumption) ?_
    rotate_left
    · intro w hSw; obtain ⟨z0, z1, z2, _⟩ := hSw; go_simp; first | done | (with_reducible rfl) | (rw [if_neg (by omega)])
    try simp only [Act.put, List.setIfInBounds_toArray, List.set_cons_zero, List.set_cons_succ]
    refine wpAnyH_take (i := 8) (oi := { dst := some 24, op := Op.load 3 (Operand.tmp 23), type := 3, pos := _, after := #[{ on := 7, ground := Ground.data }], guard := none }) (v := ?_) rfl (by kernel_rfl) (by kernel_rfl) (by kernel_rfl) (fun _ _ _ h => h) (Or.inl ⟨by kernel_rfl, ?_⟩) (by assumption) ?_
    rotate_left
    · intro w hSw; obtain ⟨z0, z1, z2, _⟩ := hSw; go_simp; first | done | (with_reducible rfl) | (rw [if_neg (by omega)])
    try simp only [Act.put, List.setIfInBounds_toArray, List.set_cons_zero, List.set_cons_succ]
    refine wpAnyH_ready (rs := [4]) (by kernel_rfl) (by simp) ?_
    refine AllReadyH.cons (o := { dst := some 20, op := Op.call { callee := Callee.value (Operand.func 12), args := #[Operand.tmp 19], argTypes := #[3] }, type := 9, pos := _, after := #[{ on := 3, ground := Ground.data }], guard := none }) rfl (fun K hK => ?_) AllReadyH.nil
    rw [if_pos (by kernel_rfl)]
    go_simp
    go_at_call 12
    refine (hD1 _ trivial).mono ?_
    rintro e w1 ⟨rfl, hb1⟩
    have X1 := XZ.drew.all hb1
    have B1 := BZ.drew.trans (hb1.mono BZ.size)
    go_wp2_with fail
    refine hK.out _ _ ⟨X1.cell 0 rfl, X1.cell 1 rfl, X1.cell 2 rfl, B1⟩ (fun hHeld2 => ?_)
    clear hK K
    try simp only [Act.put, List.setIfInBounds_toArray, List.set_cons_zero, List.set_cons_succ]
    refine wpAnyH_take (i := 5) (oi := { dst := some 21, op := Op.binOp BinOp.add 9 (Operand.tmp 17) (Operand.tmp 20) 9, type := 9, pos := _, after := #[{ on := 1, ground := Ground.data }, { on := 4, ground := Ground.data }], guard := none }) (v := ?_) rfl (by kernel_rfl) (by kernel_rfl) (by kernel_rfl) (fun _ _ _ h => h) (Or.inl ⟨by kernel_rfl, ?_⟩) (by assumption) ?_
    rotate_left
    · intro w hSw; obtain ⟨z0, z1, z2, _⟩ := hSw; go_simp; first | done | (with_reducible rfl) | (rw [if_neg (by omega)])
    try simp only [Act.put, List.setIfInBounds_toArray, List.set_cons_zero, List.set_cons_succ]
    refine wpAnyH_take (i := 6) (oi := { dst := some 22, op := Op.binOp BinOp.add 9 (Operand.tmp 21) (Operand.const (Value.string ⟨#[32]⟩)) 9, type := 9, pos := _, after := #[{ on := 5, ground := Ground.data }], guard := none }) (v := ?_) rfl (by kernel_rfl) (by kernel_rfl) (by kernel_rfl) (fun _ _ _ h => h) (Or.inl ⟨by kernel_rfl, ?_⟩) (by assumption) ?_
    rotate_left
    · intro w hSw; obtain ⟨z0, z1, z2, _⟩ := hSw; go_simp; first | done | (with_reducible rfl) | (rw [if_neg (by omega)])
    try simp only [Act.put, List.setIfInBounds_toArray, List.set_cons_zero, List.set_cons_succ]
    refine wpAnyH_ready (rs := [9]) (by kernel_rfl) (by simp) ?_
    refine AllReadyH.cons (o := { dst := some 25, op := Op.call { callee := Callee.value (Operand.func 12), args := #[Operand.tmp 24], argTypes := #[3] }, type := 9, pos := _, after := #[{ on := 8, ground := Ground.data }, { on := 4, ground := Ground.chain }], guard := none }) rfl (fun K hK => ?_) AllReadyH.nil
    rw [if_pos (by kernel_rfl)]
    go_simp
    go_at_call 12
    refine (hD2 _ trivial).mono ?_
    rintro e w2 ⟨rfl, hb2⟩
    have X2 := X1.all hb2
    have B2 := B1.trans (hb2.mono B1.size)
    go_wp2_with fail
    refine hK.out _ _ ⟨X2.cell 0 rfl, X2.cell 1 rfl, X2.cell 2 rfl, B2⟩ (fun hHeld3 => ?_)
    clear hK K
    try simp only [Act.put, List.setIfInBounds_toArray, List.set_cons_zero, List.set_cons_succ]
    refine wpAnyH_take (i := 10) (oi := { dst := some 26, op := Op.binOp BinOp.add 9 (Operand.tmp 22) (Operand.tmp 25) 9, type := 9, pos := _, after := #[{ on := 6, ground := Ground.data }, { on := 9, ground := Ground.data }], guard := none }) (v := ?_) rfl (by kernel_rfl) (by kernel_rfl) (by kernel_rfl) (fun _ _ _ h => h) (Or.inl ⟨by kernel_rfl, ?_⟩) (by assumption) ?_
    rotate_left
    · intro w hSw; obtain ⟨z0, z1, z2, _⟩ := hSw; go_simp; first | done | (with_reducible rfl) | (rw [if_neg (by omega)])
    try simp only [Act.put, List.setIfInBounds_toArray, List.set_cons_zero, List.set_cons_succ]
    refine wpAnyH_take (i := 11) (oi := { dst := some 2, op := Op.assign (Operand.tmp 26), type := 9, pos := _, after := #[{ on := 10, ground := Ground.data }, { on := 9, ground := Ground.chain }, { on := 0, ground := Ground.phase }, { on := 1, ground := Ground.phase }, { on := 2, ground := Ground.phase }, { on := 3, ground := Ground.phase }, { on := 4, ground := Ground.phase }, { on := 5, ground := Ground.phase }, { on := 6, ground := Ground.phase }, { on := 7, ground := Ground.phase }, { on := 8, ground := Ground.phase }, { on := 9, ground := Ground.phase }, { on := 10, ground := Ground.phase }], guard := none }) (v := ?_) rfl (by kernel_rfl) (by kernel_rfl) (by kernel_rfl) (fun _ _ _ h => h) (Or.inl ⟨by kernel_rfl, ?_⟩) (by assumption) ?_
    rotate_left
    · intro w hSw; obtain ⟨z0, z1, z2, _⟩ := hSw; go_simp; first | done | (with_reducible rfl) | (rw [if_neg (by omega)])
    try simp only [Act.put, List.setIfInBounds_toArray, List.set_cons_zero, List.set_cons_succ]
    refine wpAnyH_done (by kernel_rfl) ?_ _
    go_wp2
    go_ret
    exact ⟨HV.out, B2⟩
theorem cL_toViolation (a b c : Int) (w : World) : Calls Tryd.prog 22 #[.agg #[.int .i64 a, .int .i64 b, .int .i64 c]] w fun e w' => e = .returned (.agg #[.int .i64 a, .int .i64 b, .int .i64 c]) ∧ Below w.heap.size w w' := by
  go_enter Tryd.func22, Tryd.ntmps22
  go_wp2
  exact bodyPost_ret (v := .agg #[.int .i64 a, .int .i64 b, .int .i64 c]) (by simp [results, Tryd.results22, go_sem]) rfl ⟨rfl, by repeat (first | exact Below.refl _ _ | refine Below.setCell ?_ (by simp) _ | refine Below.alloc ?_ (by simp; omega) _ | refine Below.alloc ?_ (by simp) _)⟩
theorem walkFnExactViolationText (a b c : Int) (w : World) (ha : (Lit.int .i64 a).wf = true) (hb : (Lit.int .i64 b).wf = true) (hc : (Lit.int .i64 c).wf = true) (hp : Pow w) : Calls Tryd.prog 8 #[.agg #[.int .i64 a, .int .i64 b, .int .i64 c]] w fun e w' => e = .returned (.bool true) ∧ Below w.heap.size w w' := by
  obtain ⟨b0, b1⟩ := i64_bd hb
  obtain ⟨c0, c1⟩ := i64_bd hc
  clear ha hb hc
  go_enter Tryd.func8, Tryd.ntmps8
  go_wp2_with fail
  refine (cL_toViolation _ _ _ _).mono ?_
  rintro e w1 ⟨rfl, hb1⟩
  have X1 := (Box.new w 37 #[.int .i64 a, .int .i64 b, .int .i64 c]).all hb1
  have s1 : w.heap.size < w1.heap.size := X1.lt
  have B1 := ((Below.refl w.heap.size w).alloc (Nat.le_refl _) (.cells #[.int .i64 a, .int .i64 b, .int .i64 c] 37)).trans (hb1.mono (by simp))
  have c1' := X1.cell 0 rfl; have d1 := X1.cell 1 rfl; have e1 := X1.cell 2 rfl
  go_wp2_with fail
  refine (cP_ViolationText _ _ _ _ b0 b1 c0 c1).mono ?_
  rintro e w2 ⟨rfl, hb2⟩
  have X2 := X1.all hb2
  have B2 := B1.trans (hb2.mono B1.size)
  have s2 : w.heap.size < w2.heap.size := X2.lt
  have c2 := X2.cell 0 rfl; have d2 := X2.cell 1 rfl; have e2 := X2.cell 2 rfl
  go_wp2_with fail
  refine (cL_toViolation _ _ _ _).mono ?_
  rintro e w3 ⟨rfl, hb3⟩
  have B3 := B2.trans (hb3.mono B2.size)
  go_wp2_with fail
  refine (cI_ViolationText _ _ _ _ b0 b1 c0 c1 (hp.below B3)).mono ?_
  rintro e w4 ⟨rfl, hb4⟩
  go_wp2
  go_ret
  exact ⟨rfl, B3.trans (hb4.mono B3.size)⟩
end Go.Proofs.YtecmeomcgnjapaaDoor
