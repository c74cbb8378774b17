/- The walk of FnExactSameRaw. Conditions: the descriptions can be read. -/
import Derived.Test.YtcoghgpgfaifaaaRawQ
import Derived.Test.YtcoghgpgfaifaaaRawO
import Derived.Deep.RegionHeld3
namespace Go.Proofs.Ytcoghgpgfaifaaa
open Go.RowKit
set_option linter.unusedVariables false
set_option linter.unusedSimpArgs false
set_option maxHeartbeats 2000000 in
theorem walkFnExactSameRaw (a : Option Addr) (n c : Nat) (ms : List Msg) (b : Option Addr) (n' c' : Nat) (ns : List Msg) (w : World) (hn : ms.length = n) (hcap : n ≤ c) (hmax : c ≤ maxLen) (hms : ∀ (j : Nat) (m : Msg), ms[j]? = some m → m.fs.length ≤ 9223372036854775807) (hf : MAt w 0 a ms)
    (hn' : ns.length = n') (hcap' : n' ≤ c') (hmax' : c' ≤ maxLen) (hns : ∀ (j : Nat) (m : Msg), ns[j]? = some m → m.fs.length ≤ 9223372036854775807) (hg : MAt w 0 b ns) :
    Calls Try.prog 3 #[.agg #[.slice a n c], .agg #[.slice b n' c']] w fun e w' => e = .returned (.bool true) ∧ Below w.heap.size w w' := by
  have hb0 := below2 w (.cells #[.slice a n c] 24) (.cells #[.slice b n' c'] 24)
  have R0 := (Box.new w 24 #[.slice a n c]).alloc (.cells #[.slice b n' c'] 24)
  have S0 := Box.at1 w (.cells #[.slice a n c] 24) 24 #[.slice b n' c']
  have hmx : maxLen ≤ 9223372036854775807 := by decide
  have HMS := Lib.hid hms
  have HNS := Lib.hid hns
  clear hms hns
  go_enter Try.func3, Try.ntmps3
  go_wp2_with fail
  refine (cL_szRaw a n c ms 0 1048576 _ (by omega) (by omega) hn (by omega) HMS.out (hf.below hb0)).mono ?_
  rintro e w1 ⟨r, rfl, hr1, hr2, hr3, hb1⟩
  have HR := Lib.hid hr2
  clear hr2
  have R1 := R0.all hb1
  have S1 := S0.all hb1
  have r1 := R1.cell 0 rfl; have s1 := S1.cell 0 rfl
  have B1 := hb0.trans (hb1.mono hb0.size)
  by_cases hr : r < 0
  · go_wp2
    go_ret
    exact ⟨rfl, B1⟩
  · have hr' : 0 ≤ r := by omega
    obtain ⟨hle, hms1⟩ := HR.out hr'
    have hle2 : n ≤ 1048576 := by omega
    have hms2 : Hid (∀ (j : Nat) (m : Msg), ms[j]? = some m → m.fs.length ≤ 1048576) := Lib.hid fun j m hm => by have := hms1 j m hm; omega
    clear hle hms1
    go_wp2_with fail
    refine (cL_szRaw b n' c' ns 0 r _ hr' (by omega) hn' (by omega) HNS.out (hg.below B1)).mono ?_
    rintro e w2 ⟨q, rfl, hq1, hq2, hq3, hb2⟩
    have HQ := Lib.hid hq2
    clear hq2
    have R2 := R1.all hb2
    have S2 := S1.all hb2
    have r2 := R2.cell 0 rfl; have s2 := S2.cell 0 rfl
    have rl2 := R2.lt; have sl2 := S2.lt
    have B2 := B1.trans (hb2.mono B1.size)
    by_cases hq : q < 0
    · go_wp2
      go_ret
      exact ⟨rfl, B2⟩
    · have hq' : 0 ≤ q := by omega
      obtain ⟨hle', hns1⟩ := HQ.out hq'
      have hle2' : n' ≤ 1048576 := by omega
      have hns2 : Hid (∀ (j : Nat) (m : Msg), ns[j]? = some m → m.fs.length ≤ 1048576) := Lib.hid fun j m hm => by have := hns1 j m hm; omega
      clear hle' hns1 r1 s1
      have hSP := fun (g g' : Nat) w' (h1 : MAt w' 0 (some ⟨g, 0, none⟩) ms) (h2 : MAt w' 0 (some ⟨g', 0, none⟩) ns) => cP_SameRaw (some ⟨g, 0, none⟩) (some ⟨g', 0, none⟩) n n' n n' ms ns w' hn hn' hle2 hms2.out h1 h2
      have hSI := fun (g g' : Nat) w' (h1 : MAt w' 0 (some ⟨g, 0, none⟩) ms) (h2 : MAt w' 0 (some ⟨g', 0, none⟩) ns) => cI_SameRaw (some ⟨g, 0, none⟩) (some ⟨g', 0, none⟩) n n' n n' ms ns w' hn hn' hle2 hms2.out h1 h2
      generalize decide (ms = ns) = res at hSP hSI
      go_wp2_with fail
      refine wp_region_held_drew (S := fun w' => Below w2.heap.size w2 w') (by kernel_rfl) ((Below.refl _ w2).drew) (fun hHeld => ?_)
      refine wpAnyH_take (i := 0) (oi := { dst := some 20, op := Op.load 24 (Operand.tmp 2), type := 24, pos := _, after := #[], guard := none }) (v := ?_) rfl (by kernel_rfl) (by kernel_rfl) (by kernel_rfl) (fun _ _ _ h => h) (Or.inl ⟨by kernel_rfl, ?_⟩) (by assumption) ?_
      rotate_left
      · intro w hSw; have z0 := bkeep (hSw.block _ rl2) r2; have z1 := bkeep (hSw.block _ sl2) s2; go_simp; first | done | (with_reducible rfl) | (rw [if_neg (by omega)])
      try simp only [Act.put, List.setIfInBounds_toArray, List.set_cons_zero, List.set_cons_succ]
      refine wpAnyH_take (i := 2) (oi := { dst := some 22, op := Op.load 24 (Operand.tmp 3), type := 24, pos := _, after := #[], guard := none }) (v := ?_) rfl (by kernel_rfl) (by kernel_rfl) (by kernel_rfl) (fun _ _ _ h => h) (Or.inl ⟨by kernel_rfl, ?_⟩) (by assumption) ?_
      rotate_left
      · intro w hSw; have z0 := bkeep (hSw.block _ rl2) r2; have z1 := bkeep (hSw.block _ sl2) s2; go_simp; first | done | (with_reducible rfl) | (rw [if_neg (by omega)])
      try simp only [Act.put, List.setIfInBounds_toArray, List.set_cons_zero, List.set_cons_succ]
      refine wpAnyH_ready (rs := [1]) (by kernel_rfl) (by simp) ?_
      refine AllReadyH.cons (o := { dst := some 21, op := Op.call { callee := Callee.value (Operand.func 11), args := #[Operand.tmp 20], argTypes := #[24] }, type := 29, pos := _, after := #[{ on := 0, ground := Ground.data }], guard := none }) rfl (fun K hK => ?_) AllReadyH.nil
      rw [if_pos (by kernel_rfl)]
      go_simp
      go_at_call 11
      refine (cL_toRaw a n c ms 0 _ hn hle2 hms2.out (hf.below B2.drew)).mono ?_
      rintro e w3 ⟨g3, rfl, hf3, hb3⟩
      have B3 := (Below.refl w2.heap.size w2).drew.trans (hb3.mono (Nat.le_refl _))
      go_wp2_with fail
      refine hK.out _ _ B3 (fun hHeld2 => ?_)
      clear hK K
      try simp only [Act.put, List.setIfInBounds_toArray, List.set_cons_zero, List.set_cons_succ]
      refine wpAnyH_ready (rs := [3]) (by kernel_rfl) (by simp) ?_
      refine AllReadyH.cons (o := { dst := some 23, op := Op.call { callee := Callee.value (Operand.func 11), args := #[Operand.tmp 22], argTypes := #[24] }, type := 29, pos := _, after := #[{ on := 2, ground := Ground.data }, { on := 1, ground := Ground.chain }], guard := none }) rfl (fun K hK => ?_) AllReadyH.nil
      rw [if_pos (by kernel_rfl)]
      go_simp
      go_at_call 11
      refine (cL_toRaw b n' c' ns 0 _ hn' hle2' hns2.out (hg.below (B2.trans (B3.mono B2.size)))).mono ?_
      rintro e w4 ⟨g4, rfl, hf4, hb4⟩
      have B4 := B3.trans (hb4.mono B3.size)
      go_wp2_with fail
      refine hK.out _ _ B4 (fun hHeld3 => ?_)
      clear hK K
      try simp only [Act.put, List.setIfInBounds_toArray, List.set_cons_zero, List.set_cons_succ]
      refine wpAnyH_ready (rs := [4]) (by kernel_rfl) (by simp) ?_
      refine AllReadyH.cons (o := { dst := some 24, op := Op.call { callee := Callee.value (Operand.func 10), args := #[Operand.tmp 21, Operand.tmp 23], argTypes := #[29, 29] }, type := 4, pos := _, after := #[{ on := 1, ground := Ground.data }, { on := 3, ground := Ground.data }, { on := 3, ground := Ground.chain }], guard := none }) rfl (fun K hK => ?_) AllReadyH.nil
      rw [if_pos (by kernel_rfl)]
      go_simp
      go_at_call 10
      refine (hSP g3 g4 _ ((hf3.low (Nat.zero_le _)).below hb4) (hf4.low (Nat.zero_le _))).mono ?_
      rintro e w5 ⟨rfl, hb5⟩
      have B5 := B4.trans (hb5.mono B4.size)
      go_wp2_with fail
      refine hK.out _ _ B5 (fun hHeld4 => ?_)
      clear hK K
      try simp only [Act.put, List.setIfInBounds_toArray, List.set_cons_zero, List.set_cons_succ]
      refine wpAnyH_take (i := 5) (oi := { dst := some 6, op := Op.assign (Operand.tmp 24), type := 4, pos := _, after := #[{ on := 4, ground := Ground.data }, { on := 4, ground := Ground.chain }, { on := 0, ground := Ground.phase }, { on := 1, ground := Ground.phase }, { on := 2, ground := Ground.phase }, { on := 3, ground := Ground.phase }, { on := 4, ground := Ground.phase }], guard := none }) (v := ?_) rfl (by kernel_rfl) (by kernel_rfl) (by kernel_rfl) (fun _ _ _ h => h) (Or.inl ⟨by kernel_rfl, ?_⟩) (by assumption) ?_
      rotate_left
      · intro w hSw; have z0 := bkeep (hSw.block _ rl2) r2; have z1 := bkeep (hSw.block _ sl2) s2; go_simp; first | done | (with_reducible rfl) | (rw [if_neg (by omega)])
      try simp only [Act.put, List.setIfInBounds_toArray, List.set_cons_zero, List.set_cons_succ]
      refine wpAnyH_done (by kernel_rfl) ?_ _
      skip
      have R5 := R2.all B5
      have S5 := S2.all B5
      have r5 := R5.cell 0 rfl; have s5 := S5.cell 0 rfl
      have D5 := B2.trans (B5.mono B2.size)
      clear r2 s2
      go_wp2_with fail
      refine (cL_toRaw a n c ms 0 _ hn hle2 hms2.out (hf.below D5)).mono ?_
      rintro e w6 ⟨g6, rfl, hf6, hb6⟩
      have X6 := Box.new w6 29 #[.slice (some ⟨g6, 0, none⟩) n n]
      have hx6 := below1 w6 (.cells #[.slice (some ⟨g6, 0, none⟩) n n] 29)
      have R6 := (R5.all hb6).alloc (.cells #[.slice (some ⟨g6, 0, none⟩) n n] 29)
      have S6 := (S5.all hb6).alloc (.cells #[.slice (some ⟨g6, 0, none⟩) n n] 29)
      have r6 := R6.cell 0 rfl; have s6 := S6.cell 0 rfl
      have k1 := (R5.all hb6).lt; have k2 := (S5.all hb6).lt
      have D6 := D5.trans ((hb6.trans (hx6.mono hb6.size)).mono D5.size)
      have h6 := (hf6.low (Nat.zero_le _)).below hx6
      go_wp2_with fail
      refine (cL_toRaw b n' c' ns 0 _ hn' hle2' hns2.out (hg.below D6)).mono ?_
      rintro e w7 ⟨g7, rfl, hf7, hb7⟩
      have Y7 := Box.new w7 29 #[.slice (some ⟨g7, 0, none⟩) n' n']
      have hx7 := below1 w7 (.cells #[.slice (some ⟨g7, 0, none⟩) n' n'] 29)
      have R7 := (R6.all hb7).alloc (.cells #[.slice (some ⟨g7, 0, none⟩) n' n'] 29)
      have S7 := (S6.all hb7).alloc (.cells #[.slice (some ⟨g7, 0, none⟩) n' n'] 29)
      have X7 := (X6.all hb7).alloc (.cells #[.slice (some ⟨g7, 0, none⟩) n' n'] 29)
      have r7 := R7.cell 0 rfl; have s7 := S7.cell 0 rfl; have x7 := X7.cell 0 rfl
      have x7' := (X6.all hb7).cell 0 rfl
      have j1 := (R6.all hb7).lt; have j2 := (S6.all hb7).lt; have j3 := (X6.all hb7).lt
      have D7 := D6.trans ((hb7.trans (hx7.mono hb7.size)).mono D6.size)
      have h7 := (h6.below hb7).below hx7
      have i7 := (hf7.low (Nat.zero_le _)).below hx7
      go_wp2_with fail
      refine (hSI g6 g7 _ h7 i7).mono ?_
      rintro e w8 ⟨rfl, hb8⟩
      have D8 := D7.trans (hb8.mono D7.size)
      have R8 := R7.all hb8
      have S8 := S7.all hb8
      have X8 := X7.all hb8
      have Y8 := Y7.all hb8
      have r8 := R8.cell 0 rfl; have s8 := S8.cell 0 rfl; have x8 := X8.cell 0 rfl; have y8 := Y8.cell 0 rfl
      have rl8 := R8.lt; have sl8 := S8.lt; have xl8 := X8.lt; have yl8 := Y8.lt
      have h8 := h7.below hb8
      have i8 := i7.below hb8
      clear r7 s7 x7 x7' r6 s6 r5 s5
      go_wp2_with fail
      refine wp_region_held_drew (S := fun w' => Below w8.heap.size w8 w') (by kernel_rfl) ((Below.refl _ w8).drew) (fun hHeld => ?_)
      refine wpAnyH_take (i := 0) (oi := { dst := some 35, op := Op.load 29 (Operand.tmp 7), type := 29, pos := _, after := #[], guard := none }) (v := ?_) rfl (by kernel_rfl) (by kernel_rfl) (by kernel_rfl) (fun _ _ _ h => h) (Or.inl ⟨by kernel_rfl, ?_⟩) (by assumption) ?_
      rotate_left
      · intro w hSw; have z0 := bkeep (hSw.block _ rl8) r8; have z1 := bkeep (hSw.block _ xl8) x8; go_simp; first | done | (with_reducible rfl) | (rw [if_neg (by omega)])
      try simp only [Act.put, List.setIfInBounds_toArray, List.set_cons_zero, List.set_cons_succ]
      refine wpAnyH_take (i := 1) (oi := { dst := some 36, op := Op.load 24 (Operand.tmp 2), type := 24, pos := _, after := #[], guard := none }) (v := ?_) rfl (by kernel_rfl) (by kernel_rfl) (by kernel_rfl) (fun _ _ _ h => h) (Or.inl ⟨by kernel_rfl, ?_⟩) (by assumption) ?_
      rotate_left
      · intro w hSw; have z0 := bkeep (hSw.block _ rl8) r8; have z1 := bkeep (hSw.block _ xl8) x8; go_simp; first | done | (with_reducible rfl) | (rw [if_neg (by omega)])
      try simp only [Act.put, List.setIfInBounds_toArray, List.set_cons_zero, List.set_cons_succ]
      refine wpAnyH_ready (rs := [2]) (by kernel_rfl) (by simp) ?_
      refine AllReadyH.cons (o := { dst := some 37, op := Op.call { callee := Callee.value (Operand.func 11), args := #[Operand.tmp 36], argTypes := #[24] }, type := 29, pos := _, after := #[{ on := 1, ground := Ground.data }], guard := none }) rfl (fun K hK => ?_) AllReadyH.nil
      rw [if_pos (by kernel_rfl)]
      go_simp
      go_at_call 11
      refine (cL_toRaw a n c ms 0 _ hn hle2 hms2.out (hf.below D8.drew)).mono ?_
      rintro e w9 ⟨g9, rfl, hf9, hb9⟩
      have B9 := (Below.refl w8.heap.size w8).drew.trans (hb9.mono (Nat.le_refl _))
      go_wp2_with fail
      refine hK.out _ _ B9 (fun hHeld2 => ?_)
      clear hK K
      try simp only [Act.put, List.setIfInBounds_toArray, List.set_cons_zero, List.set_cons_succ]
      refine wpAnyH_ready (rs := [3]) (by kernel_rfl) (by simp) ?_
      refine AllReadyH.cons (o := { dst := some 38, op := Op.call { callee := Callee.value (Operand.func 13), args := #[Operand.tmp 35, Operand.tmp 37], argTypes := #[29, 29] }, type := 4, pos := _, after := #[{ on := 0, ground := Ground.data }, { on := 2, ground := Ground.data }, { on := 2, ground := Ground.chain }], guard := none }) rfl (fun K hK => ?_) AllReadyH.nil
      rw [if_pos (by kernel_rfl)]
      go_simp
      go_at_call 13
      refine (cL_eqRaw (some ⟨g6, 0, none⟩) (some ⟨g9, 0, none⟩) n n n ms _ hn hle2 hms2.out (h8.below B9) (hf9.low (Nat.zero_le _))).mono ?_
      rintro e w10 ⟨rfl, hb10⟩
      have B10 := B9.trans (hb10.mono B9.size)
      go_wp2_with fail
      refine hK.out _ _ B10 (fun hHeld3 => ?_)
      clear hK K
      try simp only [Act.put, List.setIfInBounds_toArray, List.set_cons_zero, List.set_cons_succ]
      refine wpAnyH_take (i := 4) (oi := { dst := some 39, op := Op.unOp UnOp.not 4 (Operand.tmp 38), type := 4, pos := _, after := #[{ on := 3, ground := Ground.data }], guard := none }) (v := ?_) rfl (by kernel_rfl) (by kernel_rfl) (by kernel_rfl) (fun _ _ _ h => h) (Or.inl ⟨by kernel_rfl, ?_⟩) (by assumption) ?_
      rotate_left
      · intro w hSw; have z0 := bkeep (hSw.block _ rl8) r8; have z1 := bkeep (hSw.block _ xl8) x8; go_simp; first | done | (with_reducible rfl) | (rw [if_neg (by omega)])
      try simp only [Act.put, List.setIfInBounds_toArray, List.set_cons_zero, List.set_cons_succ]
      refine wpAnyH_done (by kernel_rfl) ?_ _
      skip
      have S10 := S8.all B10
      have Y10 := Y8.all B10
      have s10 := S10.cell 0 rfl; have y10 := Y10.cell 0 rfl
      have sl10 := S10.lt; have yl10 := Y10.lt
      have D10 := D8.trans (B10.mono D8.size)
      have i10 := i8.below B10
      clear r8 s8 x8 y8
      go_wp2_with fail
      refine wp_region_held_drew (S := fun w' => Below w10.heap.size w10 w') (by kernel_rfl) ((Below.refl _ w10).drew) (fun hHeld => ?_)
      refine wpAnyH_take (i := 0) (oi := { dst := some 40, op := Op.load 29 (Operand.tmp 8), type := 29, pos := _, after := #[], guard := none }) (v := ?_) rfl (by kernel_rfl) (by kernel_rfl) (by kernel_rfl) (fun _ _ _ h => h) (Or.inl ⟨by kernel_rfl, ?_⟩) (by assumption) ?_
      rotate_left
      · intro w hSw; have z0 := bkeep (hSw.block _ sl10) s10; have z1 := bkeep (hSw.block _ yl10) y10; go_simp; first | done | (with_reducible rfl) | (rw [if_neg (by omega)])
      try simp only [Act.put, List.setIfInBounds_toArray, List.set_cons_zero, List.set_cons_succ]
      refine wpAnyH_take (i := 1) (oi := { dst := some 41, op := Op.load 24 (Operand.tmp 3), type := 24, pos := _, after := #[], guard := none }) (v := ?_) rfl (by kernel_rfl) (by kernel_rfl) (by kernel_rfl) (fun _ _ _ h => h) (Or.inl ⟨by kernel_rfl, ?_⟩) (by assumption) ?_
      rotate_left
      · intro w hSw; have z0 := bkeep (hSw.block _ sl10) s10; have z1 := bkeep (hSw.block _ yl10) y10; go_simp; first | done | (with_reducible rfl) | (rw [if_neg (by omega)])
      try simp only [Act.put, List.setIfInBounds_toArray, List.set_cons_zero, List.set_cons_succ]
      refine wpAnyH_ready (rs := [2]) (by kernel_rfl) (by simp) ?_
      refine AllReadyH.cons (o := { dst := some 42, op := Op.call { callee := Callee.value (Operand.func 11), args := #[Operand.tmp 41], argTypes := #[24] }, type := 29, pos := _, after := #[{ on := 1, ground := Ground.data }], guard := none }) rfl (fun K hK => ?_) AllReadyH.nil
      rw [if_pos (by kernel_rfl)]
      go_simp
      go_at_call 11
      refine (cL_toRaw b n' c' ns 0 _ hn' hle2' hns2.out (hg.below D10.drew)).mono ?_
      rintro e w11 ⟨g11, rfl, hf11, hb11⟩
      have B11 := (Below.refl w10.heap.size w10).drew.trans (hb11.mono (Nat.le_refl _))
      go_wp2_with fail
      refine hK.out _ _ B11 (fun hHeld5 => ?_)
      clear hK K
      try simp only [Act.put, List.setIfInBounds_toArray, List.set_cons_zero, List.set_cons_succ]
      refine wpAnyH_ready (rs := [3]) (by kernel_rfl) (by simp) ?_
      refine AllReadyH.cons (o := { dst := some 43, op := Op.call { callee := Callee.value (Operand.func 13), args := #[Operand.tmp 40, Operand.tmp 42], argTypes := #[29, 29] }, type := 4, pos := _, after := #[{ on := 0, ground := Ground.data }, { on := 2, ground := Ground.data }, { on := 2, ground := Ground.chain }], guard := none }) rfl (fun K hK => ?_) AllReadyH.nil
      rw [if_pos (by kernel_rfl)]
      go_simp
      go_at_call 13
      refine (cL_eqRaw (some ⟨g7, 0, none⟩) (some ⟨g11, 0, none⟩) n' n' n' ns _ hn' hle2' hns2.out (i10.below B11) (hf11.low (Nat.zero_le _))).mono ?_
      rintro e w12 ⟨rfl, hb12⟩
      have B12 := B11.trans (hb12.mono B11.size)
      go_wp2_with fail
      refine hK.out _ _ B12 (fun hHeld6 => ?_)
      clear hK K
      try simp only [Act.put, List.setIfInBounds_toArray, List.set_cons_zero, List.set_cons_succ]
      refine wpAnyH_take (i := 4) (oi := { dst := some 44, op := Op.unOp UnOp.not 4 (Operand.tmp 43), type := 4, pos := _, after := #[{ on := 3, ground := Ground.data }], guard := none }) (v := ?_) rfl (by kernel_rfl) (by kernel_rfl) (by kernel_rfl) (fun _ _ _ h => h) (Or.inl ⟨by kernel_rfl, ?_⟩) (by assumption) ?_
      rotate_left
      · intro w hSw; have z0 := bkeep (hSw.block _ sl10) s10; have z1 := bkeep (hSw.block _ yl10) y10; go_simp; first | done | (with_reducible rfl) | (rw [if_neg (by omega)])
      try simp only [Act.put, List.setIfInBounds_toArray, List.set_cons_zero, List.set_cons_succ]
      refine wpAnyH_done (by kernel_rfl) ?_ _
      go_wp2
      go_ret
      exact ⟨rfl, D10.trans (B12.mono D10.size)⟩
end Go.Proofs.Ytcoghgpgfaifaaa
