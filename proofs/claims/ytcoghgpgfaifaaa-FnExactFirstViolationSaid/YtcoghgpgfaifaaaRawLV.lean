/- The walk of FnExactFirstViolation. Conditions: the description can be read. -/
import Derived.Test.YtcoghgpgfaifaaaRawK
import Derived.Deep.RegionHeld3
namespace Go.Proofs.Ytcoghgpgfaifaaa
open Go.RowKit
set_option linter.unusedVariables false
set_option linter.unusedSimpArgs false
set_option maxHeartbeats 1000000 in
theorem walkFnExactFirstViolation (a : Option Addr) (n c : Nat) (ms : List Msg) (w : World) (hn : ms.length = n) (hcap : n ≤ c) (hmax : c ≤ maxLen) (hms : ∀ (j : Nat) (m : Msg), ms[j]? = some m → m.fs.length ≤ 9223372036854775807) (hf : MAt w 0 a ms) :
    Calls Try.prog 8 #[.agg #[.slice a n c]] w fun e w' => e = .returned (.bool true) ∧ Below w.heap.size w w' := by
  have hb0 := below1 w (.cells #[.slice a n c] 24)
  have R0 := Box.new w 24 #[.slice a n c]
  have r0 := R0.cell 0 rfl
  have hn2 : n ≤ 9223372036854775807 := by have : maxLen ≤ 9223372036854775807 := by decide
                                           omega
  have HMS := Lib.hid hms
  clear hms
  go_enter Try.func8, Try.ntmps8
  go_wp2_with fail
  refine (cL_szRaw a n c ms 0 1048576 _ (by omega) (by omega) hn hn2 HMS.out (hf.below hb0)).mono ?_
  rintro e w1 ⟨r, rfl, hr1, hr2, hr3, hb1⟩
  have HR := Lib.hid hr2
  clear hr2
  have R1 := R0.all hb1
  have r1 := R1.cell 0 rfl
  have B1 := hb0.trans (hb1.mono hb0.size)
  have rl := R1.lt
  by_cases hr : r < 0
  · go_wp2
    go_ret
    exact ⟨rfl, B1⟩
  · have hr' : 0 ≤ r := by omega
    obtain ⟨hle, hms1⟩ := HR.out hr'
    have hle2 : n ≤ 1048576 := by omega
    have hms2 : Hid (∀ (j : Nat) (m : Msg), ms[j]? = some m → m.fs.length ≤ 1048576) := Lib.hid fun j m hm => by have := hms1 j m hm; omega
    clear hle hms1
    go_wp2_with fail
    refine (cL_toRaw a n c ms 0 _ hn hle2 hms2.out (hf.below B1)).mono ?_
    rintro e w2 ⟨g, rfl, hf2, hb2⟩
    have R2 := R1.all hb2
    have r2 := R2.cell 0 rfl
    have B2 := B1.trans (hb2.mono B1.size)
    have hP := fun g w' (h : MAt w' 0 (some ⟨g, 0, none⟩) ms) => cP_FirstViolation (some ⟨g, 0, none⟩) n n ms w' hn hle2 (Nat.le_refl _) hms2.out h
    have hI := fun g w' (h : MAt w' 0 (some ⟨g, 0, none⟩) ms) => cI_FirstViolation (some ⟨g, 0, none⟩) n n ms w' hn hle2 (Nat.le_refl _) hms2.out h
    unfold vAgg at hP hI
    generalize (firstV ms).1 = vx at hP hI
    generalize (firstV ms).2.1 = vy at hP hI
    generalize (firstV ms).2.2 = vz at hP hI
    have rl2 := R2.lt
    go_wp2_with fail
    refine (hP g w2 (hf2.low (Nat.zero_le _))).mono ?_
    rintro e w3 ⟨rfl, hb3⟩
    have R3 := (R2.all hb3).alloc (.cells #[.int .i64 vx, .int .i64 vy, .int .i64 vz] 40)
    have hx3 := below1 w3 (.cells #[.int .i64 vx, .int .i64 vy, .int .i64 vz] 40)
    have W3 := Box.new w3 40 #[.int .i64 vx, .int .i64 vy, .int .i64 vz]
    have rl3 := (R2.all hb3).lt
    have r3 := R3.cell 0 rfl
    have B3 := B2.trans ((hb3.trans (hx3.mono hb3.size)).mono B2.size)
    clear r2 r1 r0
    go_wp2_with fail
    refine (cL_toRaw a n c ms 0 _ hn hle2 hms2.out (hf.below B3)).mono ?_
    rintro e w4 ⟨g4, rfl, hf4, hb4⟩
    have R4 := R3.all hb4
    have W4 := W3.all hb4
    have r4 := R4.cell 0 rfl
    have rl4 := R4.lt
    have wl4 := W4.lt
    have B4 := B3.trans (hb4.mono B3.size)
    have X4 := Box.new w4 29 #[.slice (some ⟨g4, 0, none⟩) n n]
    have hx4 := below1 w4 (.cells #[.slice (some ⟨g4, 0, none⟩) n n] 29)
    go_wp2_with fail
    refine (hI g4 _ ((hf4.low (Nat.zero_le _)).below hx4)).mono ?_
    rintro e w5 ⟨rfl, hb5⟩
    have B5' := B4.trans ((hx4.trans (hb5.mono hx4.size)).mono B4.size)
    have R5' := (R4.alloc (.cells #[.slice (some ⟨g4, 0, none⟩) n n] 29)).all hb5
    have W5' := (W4.alloc (.cells #[.slice (some ⟨g4, 0, none⟩) n n] 29)).all hb5
    have X5' := X4.all hb5
    have hf5' := ((hf4.low (Nat.zero_le _)).below hx4).below hb5
    have k1 := R5'.lt; have k2 := W5'.lt; have k3 := X5'.lt
    have m0 := W5'.cell 0 rfl; have m1 := W5'.cell 1 rfl; have m2 := W5'.cell 2 rfl
    have hx5 := below1 w5 (.cells #[.int .i64 vx, .int .i64 vy, .int .i64 vz] 40)
    go_wp2_with fail
    refine (cL_eqViolation _ _ _ _).mono ?_
    rintro e w6 ⟨rfl, hb6⟩
    go_wp2_with fail
    have B6 := B5'.trans ((hx5.trans (hb6.mono hx5.size)).mono B5'.size)
    have R6 := (R5'.alloc (.cells #[.int .i64 vx, .int .i64 vy, .int .i64 vz] 40)).all hb6
    have X6 := (X5'.alloc (.cells #[.int .i64 vx, .int .i64 vy, .int .i64 vz] 40)).all hb6
    have hf6 := (hf5'.below hx5).below hb6
    have r6 := R6.cell 0 rfl; have x6 := X6.cell 0 rfl
    have xl := X6.lt
    have rl6 := R6.lt
    refine wp_region_held_drew (S := fun w' => Below w6.heap.size w6 w') (by kernel_rfl) ((Below.refl _ w6).drew) (fun hHeld => ?_)
    refine wpAnyH_take (i := 0) (oi := { dst := some 23, op := Op.load 29 (Operand.tmp 5), type := 29, pos := _, after := #[], guard := none }) (v := ?_) rfl (by kernel_rfl) (by kernel_rfl) (by kernel_rfl) (fun _ _ _ h => h) (Or.inl ⟨by kernel_rfl, ?_⟩) (by assumption) ?_
    rotate_left
    · intro w hSw; have z0 := bkeep (hSw.block _ rl6) r6; have z1 := bkeep (hSw.block _ xl) x6; go_simp; first | done | (with_reducible rfl) | (rw [if_neg (by omega)])
    try simp only [Act.put, List.setIfInBounds_toArray, List.set_cons_zero, List.set_cons_succ]
    refine wpAnyH_take (i := 1) (oi := { dst := some 24, op := Op.load 24 (Operand.tmp 1), type := 24, pos := _, after := #[], guard := none }) (v := ?_) rfl (by kernel_rfl) (by kernel_rfl) (by kernel_rfl) (fun _ _ _ h => h) (Or.inl ⟨by kernel_rfl, ?_⟩) (by assumption) ?_
    rotate_left
    · intro w hSw; have z0 := bkeep (hSw.block _ rl6) r6; have z1 := bkeep (hSw.block _ xl) x6; go_simp; first | done | (with_reducible rfl) | (rw [if_neg (by omega)])
    try simp only [Act.put, List.setIfInBounds_toArray, List.set_cons_zero, List.set_cons_succ]
    refine wpAnyH_ready (rs := [2]) (by kernel_rfl) (by simp) ?_
    refine AllReadyH.cons (o := { dst := some 25, op := Op.call { callee := Callee.value (Operand.func 11), args := #[Operand.tmp 24], argTypes := #[24] }, type := 29, pos := _, after := #[{ on := 1, ground := Ground.data }], guard := none }) rfl (fun K hK => ?_) AllReadyH.nil
    rw [if_pos (by kernel_rfl)]
    go_simp
    go_at_call 11
    refine (cL_toRaw a n c ms 0 _ hn hle2 hms2.out (hf.below B6.drew)).mono ?_
    rintro e w7 ⟨g7, rfl, hf7, hb7⟩
    have B7 := (Below.refl w6.heap.size w6).drew.trans (hb7.mono (Nat.le_refl _))
    go_wp2_with fail
    refine hK.out _ _ B7 (fun hHeld2 => ?_)
    clear hK K
    try simp only [Act.put, List.setIfInBounds_toArray, List.set_cons_zero, List.set_cons_succ]
    refine wpAnyH_ready (rs := [3]) (by kernel_rfl) (by simp) ?_
    refine AllReadyH.cons (o := { dst := some 26, op := Op.call { callee := Callee.value (Operand.func 13), args := #[Operand.tmp 23, Operand.tmp 25], argTypes := #[29, 29] }, type := 4, pos := _, after := #[{ on := 0, ground := Ground.data }, { on := 2, ground := Ground.data }, { on := 2, ground := Ground.chain }], guard := none }) rfl (fun K hK => ?_) AllReadyH.nil
    rw [if_pos (by kernel_rfl)]
    go_simp
    go_at_call 13
    refine (cL_eqRaw (some ⟨g4, 0, none⟩) (some ⟨g7, 0, none⟩) n n n ms _ hn hle2 hms2.out (hf6.below B7) (hf7.low (Nat.zero_le _))).mono ?_
    rintro e w8 ⟨rfl, hb8⟩
    have B8 := B7.trans (hb8.mono B7.size)
    go_wp2_with fail
    refine hK.out _ _ B8 (fun hHeld3 => ?_)
    clear hK K
    try simp only [Act.put, List.setIfInBounds_toArray, List.set_cons_zero, List.set_cons_succ]
    refine wpAnyH_take (i := 4) (oi := { dst := some 27, op := Op.unOp UnOp.not 4 (Operand.tmp 26), type := 4, pos := _, after := #[{ on := 3, ground := Ground.data }], guard := none }) (v := ?_) rfl (by kernel_rfl) (by kernel_rfl) (by kernel_rfl) (fun _ _ _ h => h) (Or.inl ⟨by kernel_rfl, ?_⟩) (by assumption) ?_
    rotate_left
    · intro w hSw; have z0 := bkeep (hSw.block _ rl6) r6; have z1 := bkeep (hSw.block _ xl) x6; go_simp; first | done | (with_reducible rfl) | (rw [if_neg (by omega)])
    try simp only [Act.put, List.setIfInBounds_toArray, List.set_cons_zero, List.set_cons_succ]
    refine wpAnyH_done (by kernel_rfl) ?_ _
    go_wp2
    go_ret
    exact ⟨rfl, B6.trans (B8.mono B6.size)⟩
end Go.Proofs.Ytcoghgpgfaifaaa
