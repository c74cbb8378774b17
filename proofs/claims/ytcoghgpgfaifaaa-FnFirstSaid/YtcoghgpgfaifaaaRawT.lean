/- The walk of FnFirst. Conditions: the code's bytes can be read. -/
import Derived.Test.YtcoghgpgfaifaaaRawN
import Derived.Test.YtcoghgpgfaifaaaRawK
import Derived.Test.YtcoghgpgfaifaaaRawG
namespace Go.Proofs.Ytcoghgpgfaifaaa
open Go.RowKit
set_option linter.unusedVariables false
set_option linter.unusedSimpArgs false
theorem code_of_row {w : World} {a : Option Addr} {len cap : Nat} {z : List Int} (h : IsRow .u8 w a len cap z) : CodeAt w w.heap.size a len z := by
  intro hl
  rcases h with ⟨_, h0, _⟩ | ⟨x, rfl, hle, _, hz, hc, _⟩
  · omega
  · obtain ⟨b, off, spot⟩ := x
    have h0 := hc 0 (by omega)
    have hspot : spot = none := by simpa [Addr.add] using World.cell?_spot h0
    subst hspot
    have hadd : ∀ i, (⟨b, off, none⟩ : Addr).add i = ⟨b, off + i, none⟩ := fun i => by unfold Addr.add; split <;> simp_all
    refine ⟨b, off, rfl, ?_, fun i hi => by rw [← hadd]; exact hc i (by omega)⟩
    rw [hadd] at h0
    rcases Nat.lt_or_ge b w.heap.size with h | h
    · exact h
    · simp [World.cell?, Array.getElem?_eq_none h] at h0
theorem c_big (a : Option Addr) (len cap : Nat) (w : World) : Calls Try.prog 18 #[.slice a len cap] w fun e w' => e = .returned (.bool (decide (1048576 < len))) ∧ w = w' := by
  rcases h : decide (1048576 < len) with _ | _
  · have h1 : ¬ (1048576 : Int) < (len : Int) := by simp at h; omega
    go_enter Try.func18, Try.ntmps18
    go_wp2
    go_ret
    exact ⟨rfl, rfl⟩
  · have h1 : (1048576 : Int) < (len : Int) := by simp at h; omega
    go_enter Try.func18, Try.ntmps18
    go_wp2
    go_ret
    exact ⟨rfl, rfl⟩
theorem neqViol (c m f : Int) (w : World) : (binOp .neq 40 (.agg #[.int .i64 c, .int .i64 m, .int .i64 f]) (.agg #[.int .i64 c, .int .i64 m, .int .i64 f])).run Try.prog w = .ok (.bool false) w := by
  have u3 := Try.underlying3
  have a3 := Try.isAgg3
  have z3 := Try.sizeOf3
  have hS : Try.prog.underlying 40 = some (.struct (Try.prog.fieldsOf 40)) := by kernel_rfl
  have hp : Try.prog.stoodInHeld 40 = false := by kernel_rfl
  rw [run_neq_struct, show (10000 : Nat) = 9999 + 1 from rfl, run_equalIn_agg w 9999 40 _ _ hS hp]
  simp only [Program.fieldsOf, Try.underlying40]
  go_simp
theorem grdViolN (x y : Operand) (xs ys : Array Value) (w : World) : (eqGuard .neq 40 x y (.agg xs) (.agg ys)).run Try.prog w = .ok () w := run_eqGuard_agg _ _ _ _ _ _ _ (by kernel_rfl)
/-- a plan that can be read -/
def DRaw (w : World) (e : Ending) (w' : World) : Prop := ∃ (va : Option Addr) (n vc : Nat) (ms : List Msg), e = .returned (.agg #[.slice va n vc]) ∧ ms.length = n ∧ n ≤ vc ∧ 1 ≤ n ∧ n ≤ 7 ∧ (∀ (j : Nat) (m : Msg), ms[j]? = some m → m.fs.length ≤ 40) ∧ MAt w' 0 va ms ∧ Below w.heap.size w w'
theorem d_Draw {a : Option Addr} {len cap : Nat} {z : List Int} (w : World) (hl : len ≤ 1048576) (hc : CodeAt w w.heap.size a len z) :
    Calls Try.prog 19 #[.slice a len cap] w (DRaw w) := by
  go_enter Try.func19, Try.ntmps19
  go_wp2_with fail
  refine (d_New (w.alloc (.cells #[.slice none 0 0] 29)) w.heap.size (by simp) hl (hc.keep (fun k hk => Below.heap_alloc w _ k (by omega)))).mono ?_
  rw [show (w.alloc (.cells #[.slice none 0 0] 29)).heap.size = w.heap.size + 1 by simp]
  rintro e w1 ⟨rfl, hc1, hb1⟩
  have hx := below1 w (.cells #[.slice none 0 0] 29)
  have hb1' : Below (w.alloc (.cells #[.slice none 0 0] 29)).heap.size (w.alloc (.cells #[.slice none 0 0] 29)) w1 := by rw [show (w.alloc (.cells #[.slice none 0 0] 29)).heap.size = w.heap.size + 1 by simp]; exact hb1
  have hB1 : Below w.heap.size w w1 := hx.trans (hb1'.mono (by simp))
  have R1 := (Box.new w 29 #[.slice none 0 0]).all hb1'
  have hs1 := hc1.lt
  go_wp2_with fail
  refine (d_Bent _ hc1).mono ?_
  rintro e w2 ⟨v, l, U, rfl, hc2, hg2, hR, hB, hl1, hl7⟩
  obtain ⟨va, vc, rfl, hvc⟩ := hR.shape
  have R2 := R1.grown hg2 (by simp)
  have r0 := R2.cell 0 rfl
  have r1 := R2.free 0
  have hB2 : Below w.heap.size w w2 := hB1.trans (below_of_grown hg2 (by omega) hB1.size)
  have hB3 : Below w.heap.size w (w2.setCell ⟨w.heap.size, 0, none⟩ (.slice va l.length vc)) := ⟨hB2.os, hB2.tape, hB2.output, by simpa [World.setCell] using hB2.size, fun k hk => (Below.heap_setCell w2 _ _ k (by simp; omega)).trans (hB2.block k hk)⟩
  have hR3 : Raws (w2.setCell ⟨w.heap.size, 0, none⟩ (.slice va l.length vc)) w1.heap.size U (.slice va l.length vc) l := hR.keep (by simp [World.setCell]) (fun k hk _ => Below.heap_setCell w2 _ _ k (by simp; omega))
  go_wp2
  refine bodyPost_ret (results_cell_row rfl _ _ w.heap.size 29 #[.slice va l.length vc] (0, 0) _ rfl (R2.set_ 0 (.slice va l.length vc)) Try.underlying29 rfl (by kernel_rfl)) rfl ?_
  refine ⟨va, l.length, vc, toMs l, rfl, toMs_len l, hvc, hl1, hl7, fun j m hm => ?_, hR3.mat (Nat.zero_le _), hB3⟩
  obtain ⟨x, hx, rfl⟩ := toMs_get hm
  exact hB j x hx
set_option maxRecDepth 20000 in
set_option maxHeartbeats 4000000 in
theorem walkFnFirst (a : Option Addr) (len cap : Nat) (z : List Int) (w : World) (hr : IsRow .u8 w a len cap z) : Calls Try.prog 6 #[.slice a len cap] w fun e w' => e = .returned (.bool true) ∧ Below w.heap.size w w' := by
  have hcode := Lib.hid (code_of_row hr)
  clear hr
  rcases hbig : decide (1048576 < len) with _ | _
  · have hl : len ≤ 1048576 := by simp at hbig; omega
    go_enter Try.func6, Try.ntmps6
    go_wp2_with (go_at_call 18; refine (c_big _ _ _ _).mono ?_; rintro e w' ⟨rfl, rfl⟩; rw [hbig])
    refine (d_Draw _ hl hcode.out).mono ?_
    rintro e w1 ⟨va, n, vc, ms, rfl, hn, hcap, hn1, hn7, hms0, hf, hb1⟩
    have hms := fun (j : Nat) (m : Msg) (h : ms[j]? = some m) => Nat.le_trans (hms0 j m h) (show 40 ≤ 1048576 by omega)
    have R1 := Box.new w1 29 #[.slice va n vc]
    have hx1 := below1 w1 (.cells #[.slice va n vc] 29)
    have r1 := R1.cell 0 rfl
    have hI := cI_FirstViolation va n vc ms (w1.alloc (.cells #[.slice va n vc] 29)) hn (by omega) hcap hms (hf.below hx1)
    have hP := fun w h => cP_FirstViolation va n vc ms w hn (by omega) hcap hms h
    have hRK := fun w h => cI_RawOk va n vc ms w hn (by omega) hcap hms h
    have hMC := fun k w h => cI_MsgCode va n vc ms k w hn (by omega) hcap h
    have hFC := fun i j w h => cI_FieldCode va n vc ms i j w hn (by omega) hcap hms h
    rcases hfv : firstV ms with ⟨vx, vy, vz⟩
    unfold rawOk at hRK
    unfold vAgg at hI hP
    rw [hfv] at hI hP hRK
    simp only at hI hP hRK
    have HFV := Lib.hid hfv
    have HMS := Lib.hid hms
    have HM0 := Lib.hid hms0
    have HN := Lib.hid hn
    clear hfv hms hms0 hn
    go_wp2_with fail
    refine hI.mono ?_
    rintro e w2 ⟨rfl, hb2⟩
    have V2 := Box.new w2 40 #[.int .i64 vx, .int .i64 vy, .int .i64 vz]
    have hx2 := below1 w2 (.cells #[.int .i64 vx, .int .i64 vy, .int .i64 vz] 40)
    have hf2 := (hf.below hx1).below hb2
    have R2 := (R1.all hb2).alloc (.cells #[.int .i64 vx, .int .i64 vy, .int .i64 vz] 40)
    have hf3 := hf2.below hx2
    have B3 : Below w.heap.size w (w2.alloc (.cells #[.int .i64 vx, .int .i64 vy, .int .i64 vz] 40)) := hb1.trans ((hx1.trans ((hb2.trans (hx2.mono hb2.size)).mono hx1.size)).mono hb1.size)
    have rl := R2.lt
    have vl := V2.lt
    obtain ⟨W, hW⟩ : ∃ W, W = w2.alloc (.cells #[.int .i64 vx, .int .i64 vy, .int .i64 vz] 40) := ⟨_, rfl⟩
    rw [← hW] at V2 R2 hf3 B3 rl vl
    have q1 := R2.cell 0 rfl
    have q2 := V2.cell 0 rfl
    have q3 := V2.cell 1 rfl
    have q4 := V2.cell 2 rfl
    have hS0 : Below W.heap.size W W.drew := (Below.refl _ W).drew
    have HW := Lib.hid hW
    clear hW r1 hI hf2 hx2
    have hnq := fun w => neqViol vx vy vz w
    have hng := fun a b w => grdViolN a b #[.int .i64 vx, .int .i64 vy, .int .i64 vz] #[.int .i64 vx, .int .i64 vy, .int .i64 vz] w
    have hbb : ((vx == 0) != (vx == 0)) = false := by simp
    generalize hvb : (vx == 0) = vb at hRK hbb
    go_wp2_with fail
    rw [← HW.out]
    refine wp_region_held_drew (S := fun w' => Below W.heap.size W w') (by kernel_rfl) (hS0) (fun hHeld => ?_)
    refine wpAnyH_take (i := 0) (oi := { dst := some 14, op := Op.load 40 (Operand.tmp 4), type := 40, pos := _, after := #[], guard := none }) (v := ?_) rfl (by kernel_rfl) (by kernel_rfl) (by kernel_rfl) (fun _ _ _ h => h) (Or.inl ⟨by kernel_rfl, ?_⟩) (by assumption) ?_
    rotate_left
    · intro w hSw; have z1 := bkeep (hSw.block _ rl) q1; have z2 := bkeep (hSw.block _ vl) q2; have z3 := bkeep (hSw.block _ vl) q3; have z4 := bkeep (hSw.block _ vl) q4; go_simp; first | done | (with_reducible rfl) | (rw [if_neg (by omega)])
    try simp only [Act.put, List.setIfInBounds_toArray, List.set_cons_zero, List.set_cons_succ]
    refine wpAnyH_take (i := 1) (oi := { dst := some 15, op := Op.load 29 (Operand.tmp 3), type := 29, pos := _, after := #[], guard := none }) (v := ?_) rfl (by kernel_rfl) (by kernel_rfl) (by kernel_rfl) (fun _ _ _ h => h) (Or.inl ⟨by kernel_rfl, ?_⟩) (by assumption) ?_
    rotate_left
    · intro w hSw; have z1 := bkeep (hSw.block _ rl) q1; have z2 := bkeep (hSw.block _ vl) q2; have z3 := bkeep (hSw.block _ vl) q3; have z4 := bkeep (hSw.block _ vl) q4; go_simp; first | done | (with_reducible rfl) | (rw [if_neg (by omega)])
    try simp only [Act.put, List.setIfInBounds_toArray, List.set_cons_zero, List.set_cons_succ]
    refine wpAnyH_ready (rs := [2]) (by kernel_rfl) (by simp) ?_
    refine AllReadyH.cons (o := { dst := some 16, op := Op.call { callee := Callee.value (Operand.func 21), args := #[Operand.tmp 15], argTypes := #[29] }, type := 40, pos := _, after := #[{ on := 1, ground := Ground.data }], guard := none }) rfl (fun K hK => ?_) AllReadyH.nil
    rw [if_pos (by kernel_rfl)]
    go_simp
    refine (hP _ (hf3.below hS0)).mono ?_
    rintro e w4 ⟨rfl, hb4⟩
    have B4 : Below W.heap.size W w4 := hS0.trans (hb4.mono hS0.size)
    refine hK.out _ _ B4 (fun hHeld2 => ?_)
    clear hK K
    try simp only [Act.put, List.setIfInBounds_toArray, List.set_cons_zero, List.set_cons_succ]
    refine wpAnyH_take (i := 3) (oi := { dst := some 17, op := Op.binOp BinOp.neq 40 (Operand.tmp 14) (Operand.tmp 16) 40, type := 4, pos := _, after := #[{ on := 0, ground := Ground.data }, { on := 2, ground := Ground.data }], guard := none }) (v := ?_) rfl (by kernel_rfl) (by kernel_rfl) (by kernel_rfl) (fun _ _ _ h => h) (Or.inl ⟨by kernel_rfl, ?_⟩) (by assumption) ?_
    rotate_left
    · intro w hSw; have z1 := bkeep (hSw.block _ rl) q1; have z2 := bkeep (hSw.block _ vl) q2; have z3 := bkeep (hSw.block _ vl) q3; have z4 := bkeep (hSw.block _ vl) q4; go_simp; first | done | (with_reducible rfl) | (rw [if_neg (by omega)])
    try simp only [Act.put, List.setIfInBounds_toArray, List.set_cons_zero, List.set_cons_succ]
    refine wpAnyH_take (i := 4) (oi := { dst := some 18, op := Op.move (Operand.tmp 17), type := 4, pos := _, after := #[{ on := 3, ground := Ground.data }, { on := 2, ground := Ground.chain }], guard := none }) (v := ?_) rfl (by kernel_rfl) (by kernel_rfl) (by kernel_rfl) (fun _ _ _ h => h) (Or.inl ⟨by kernel_rfl, ?_⟩) (by assumption) ?_
    rotate_left
    · intro w hSw; have z1 := bkeep (hSw.block _ rl) q1; have z2 := bkeep (hSw.block _ vl) q2; have z3 := bkeep (hSw.block _ vl) q3; have z4 := bkeep (hSw.block _ vl) q4; go_simp; first | done | (with_reducible rfl) | (rw [if_neg (by omega)])
    try simp only [Act.put, List.setIfInBounds_toArray, List.set_cons_zero, List.set_cons_succ]
    refine wpAnyH_take (i := 5) (oi := { dst := some 19, op := Op.load 29 (Operand.tmp 3), type := 29, pos := _, after := #[{ on := 4, ground := Ground.guard }], guard := some (4, false) }) (v := ?_) rfl (by kernel_rfl) (by kernel_rfl) (by kernel_rfl) (fun _ _ _ h => h) (Or.inl ⟨by kernel_rfl, ?_⟩) (by assumption) ?_
    rotate_left
    · intro w hSw; have z1 := bkeep (hSw.block _ rl) q1; have z2 := bkeep (hSw.block _ vl) q2; have z3 := bkeep (hSw.block _ vl) q3; have z4 := bkeep (hSw.block _ vl) q4; go_simp; first | done | (with_reducible rfl) | (rw [if_neg (by omega)])
    try simp only [Act.put, List.setIfInBounds_toArray, List.set_cons_zero, List.set_cons_succ]
    refine wpAnyH_take (i := 7) (oi := { dst := some 21, op := Op.fieldAddr 40 (Operand.tmp 4) 0, type := 0, pos := _, after := #[{ on := 4, ground := Ground.guard }], guard := some (4, false) }) (v := ?_) rfl (by kernel_rfl) (by kernel_rfl) (by kernel_rfl) (fun _ _ _ h => h) (Or.inl ⟨by kernel_rfl, ?_⟩) (by assumption) ?_
    rotate_left
    · intro w hSw; have z1 := bkeep (hSw.block _ rl) q1; have z2 := bkeep (hSw.block _ vl) q2; have z3 := bkeep (hSw.block _ vl) q3; have z4 := bkeep (hSw.block _ vl) q4; go_simp; first | done | (with_reducible rfl) | (rw [if_neg (by omega)])
    try simp only [Act.put, List.setIfInBounds_toArray, List.set_cons_zero, List.set_cons_succ]
    refine wpAnyH_take (i := 8) (oi := { dst := some 22, op := Op.load 3 (Operand.tmp 21), type := 3, pos := _, after := #[{ on := 7, ground := Ground.data }, { on := 4, ground := Ground.guard }], guard := some (4, false) }) (v := ?_) rfl (by kernel_rfl) (by kernel_rfl) (by kernel_rfl) (fun _ _ _ h => h) (Or.inl ⟨by kernel_rfl, ?_⟩) (by assumption) ?_
    rotate_left
    · intro w hSw; have z1 := bkeep (hSw.block _ rl) q1; have z2 := bkeep (hSw.block _ vl) q2; have z3 := bkeep (hSw.block _ vl) q3; have z4 := bkeep (hSw.block _ vl) q4; go_simp; first | done | (with_reducible rfl) | (rw [if_neg (by omega)])
    try simp only [Act.put, List.setIfInBounds_toArray, List.set_cons_zero, List.set_cons_succ]
    refine wpAnyH_take (i := 9) (oi := { dst := some 23, op := Op.binOp BinOp.eql 3 (Operand.tmp 22) (Operand.const (Value.int IntKind.i64 0)) 3, type := 4, pos := _, after := #[{ on := 8, ground := Ground.data }, { on := 4, ground := Ground.guard }], guard := some (4, false) }) (v := ?_) rfl (by kernel_rfl) (by kernel_rfl) (by kernel_rfl) (fun _ _ _ h => h) (Or.inl ⟨by kernel_rfl, ?_⟩) (by assumption) ?_
    rotate_left
    · intro w hSw; have z1 := bkeep (hSw.block _ rl) q1; have z2 := bkeep (hSw.block _ vl) q2; have z3 := bkeep (hSw.block _ vl) q3; have z4 := bkeep (hSw.block _ vl) q4; go_simp; first | done | (with_reducible rfl) | (rw [if_neg (by omega)])
    try simp only [Act.put, List.setIfInBounds_toArray, List.set_cons_zero, List.set_cons_succ]
    refine wpAnyH_ready (rs := [6]) (by kernel_rfl) (by simp) ?_
    refine AllReadyH.cons (o := { dst := some 20, op := Op.call { callee := Callee.value (Operand.func 22), args := #[Operand.tmp 19], argTypes := #[29] }, type := 4, pos := _, after := #[{ on := 5, ground := Ground.data }, { on := 4, ground := Ground.chain }, { on := 4, ground := Ground.guard }], guard := some (4, false) }) rfl (fun K hK => ?_) AllReadyH.nil
    rw [if_pos (by kernel_rfl)]
    go_simp
    refine (hRK _ (hf3.below B4)).mono ?_
    rintro e w5 ⟨rfl, hb5⟩
    have B5 : Below W.heap.size W w5 := B4.trans (hb5.mono B4.size)
    refine hK.out _ _ B5 (fun hHeld2 => ?_)
    clear hK K
    try simp only [Act.put, List.setIfInBounds_toArray, List.set_cons_zero, List.set_cons_succ]
    refine wpAnyH_take (i := 10) (oi := { dst := some 24, op := Op.binOp BinOp.neq 4 (Operand.tmp 20) (Operand.tmp 23) 4, type := 4, pos := _, after := #[{ on := 6, ground := Ground.data }, { on := 9, ground := Ground.data }, { on := 4, ground := Ground.guard }], guard := some (4, false) }) (v := ?_) rfl (by kernel_rfl) (by kernel_rfl) (by kernel_rfl) (fun _ _ _ h => h) (Or.inl ⟨by kernel_rfl, ?_⟩) (by assumption) ?_
    rotate_left
    · intro w hSw; have z1 := bkeep (hSw.block _ rl) q1; have z2 := bkeep (hSw.block _ vl) q2; have z3 := bkeep (hSw.block _ vl) q3; have z4 := bkeep (hSw.block _ vl) q4; go_simp; first | done | (with_reducible rfl) | (rw [if_neg (by omega)])
    try simp only [Act.put, List.setIfInBounds_toArray, List.set_cons_zero, List.set_cons_succ]
    refine wpAnyH_take (i := 11) (oi := { dst := some 25, op := Op.pick (Operand.tmp 18) (Operand.const (Value.bool true)) (Operand.tmp 24), type := 4, pos := _, after := #[{ on := 4, ground := Ground.data }, { on := 10, ground := Ground.data }], guard := none }) (v := ?_) rfl (by kernel_rfl) (by kernel_rfl) (by kernel_rfl) (fun _ _ _ h => h) (Or.inl ⟨by kernel_rfl, ?_⟩) (by assumption) ?_
    rotate_left
    · intro w hSw; have z1 := bkeep (hSw.block _ rl) q1; have z2 := bkeep (hSw.block _ vl) q2; have z3 := bkeep (hSw.block _ vl) q3; have z4 := bkeep (hSw.block _ vl) q4; go_simp; first | done | (with_reducible rfl) | (rw [if_neg (by omega)])
    try simp only [Act.put, List.setIfInBounds_toArray, List.set_cons_zero, List.set_cons_succ]
    refine wpAnyH_done (by kernel_rfl) ?_ _
    clear hnq hng hP hRK hHeld
    have R5 := R2.all B5
    have V5 := V2.all B5
    have p1 := R5.cell 0 rfl
    have p2 := V5.cell 0 rfl
    have p3 := V5.cell 1 rfl
    have p4 := V5.cell 2 rfl
    have hf5 := hf3.below B5
    have C5 : Below w.heap.size w w5 := B3.trans (B5.mono B3.size)
    clear q1 q2 q3 q4 hS0 B4 hb4 hb5
    by_cases h6 : 6 < n
    · have h61 : (6 : Int) < (n : Int) := by omega
      have hvx : (vx == 1) = true := by
        have h := HFV.out
        unfold firstV at h
        rw [if_pos (by rw [HN.out]; exact h6)] at h
        cases h; rfl
      go_wp2
      go_ret
      exact ⟨ret_bool (by first | exact hvx | rfl | simp), C5⟩
    · have h61 : ¬ (6 : Int) < (n : Int) := by omega
      have h60 : ms.length ≤ 6 := by rw [HN.out]; omega
      have hq := fun c' m' f' w => eqViol vx vy vz c' m' f' w
      have hg := fun a b ys w => grdViol a b #[.int .i64 vx, .int .i64 vy, .int .i64 vz] ys w
      have H60 := Lib.hid h60
      clear h60
      go_wp2_with fail
      go_loopw [5] (fun i wr => ∃ (I : Nat), I ≤ n ∧ i = .int .i64 I ∧ Hid (∀ j, j < I → vAt ms j = none) ∧ Below w5.heap.size w5 wr) (fun i _ => n - (intOf i).toNat)
      case atStart => exact ⟨0, Nat.zero_le _, rfl, Lib.hid (fun j hj => absurd hj (Nat.not_lt_zero _)), Below.refl _ _⟩
      case round =>
        obtain ⟨I, hI, rfl, HA, hbel⟩ := hrel
        have rr := bkeep (hbel.block _ R5.lt) p1
        by_cases hlt : I < n
        · have hlt0 : (I : Int) < (n : Int) := by omega
          have hlt1 : (0 : Int) ≤ (I : Int) := by omega
          obtain ⟨m, hm⟩ : ∃ m, ms[I]? = some m := ⟨_, List.getElem?_eq_getElem (by rw [HN.out]; omega)⟩
          obtain ⟨b, off, rfl, _, hbb5, hmc⟩ := hf5 (by rw [HN.out]; omega)
          obtain ⟨_, fa, fc, hc2, hfc, _⟩ := hmc I m hm
          have hfl : m.fs.length ≤ 40 := HM0.out I m hm
          have HMM := Lib.hid hm
          have HMC2 := Lib.hid hmc
          clear hm hmc
          go_wp2_with fail
          go_loopw [6] (fun k wr => ((k = .int .i64 (-1)) ∨ ∃ Q : Nat, Q ≤ m.fs.length ∧ k = .int .i64 Q ∧ Hid (msgCode ms I = 0 ∧ ∀ j, j < Q → fAt ms I j = none)) ∧ Below w5.heap.size w5 wr) (fun k _ => ((m.fs.length : Int) - intOf k).toNat)
          case atStart => exact ⟨.inl rfl, hbel⟩
          case round =>
            obtain ⟨hk, hbk⟩ := hrel
            have rk := bkeep (hbk.block _ R5.lt) p1
            have rm := bkeep (hbk.block _ hbb5) hc2
            have cM := hMC I wr (hf5.below hbk)
            obtain ⟨mc, hmcd⟩ : ∃ mc, msgCode ms I = mc := ⟨_, rfl⟩
            rw [hmcd] at cM
            have HMC := Lib.hid hmcd
            clear hmcd
            rcases hk with rfl | ⟨Q, hQ, rfl, HQ⟩
            · have hlt2 : (-1 : Int) < (m.fs.length : Int) := by omega
              by_cases hz : mc = 0
              · subst hz
                go_wp2_with fail
                refine cM.mono ?_
                rintro e w6 ⟨rfl, hb6⟩
                have B6 := hbk.trans (hb6.mono hbk.size)
                go_wp2
                go_roundw
                case rel => exact ⟨.inr ⟨0, Nat.zero_le _, by go_num, Lib.hid ⟨HMC.out, fun j hj => absurd hj (Nat.not_lt_zero _)⟩⟩, B6⟩
                case measure => simp [intOf]
              · have hv := firstV_hit H60.out HA.out (vAt_msg (by rw [HMC.out]; exact hz)) (by rw [HN.out]; exact hlt)
                rw [HMC.out] at hv
                have he : (vx, vy, vz) = (mc, (I : Int), (-1 : Int)) := HFV.out.symm.trans hv
                clear hv
                cases he
                have hz1 : (vx == 0) = false := by simpa using hz
                have hz2 : (vx != 0) = true := by simpa using hz
                go_wp2_with fail
                refine cM.mono ?_
                rintro e w6 ⟨rfl, hb6⟩
                have B6 := hbk.trans (hb6.mono hbk.size)
                have vk1 := bkeep (B6.block _ V5.lt) p2
                have vk2 := bkeep (B6.block _ V5.lt) p3
                have vk3 := bkeep (B6.block _ V5.lt) p4
                go_wp2
                go_ret
                exact ⟨ret_bool (by first | rfl | simp), C5.trans (B6.mono C5.size)⟩
            · obtain ⟨hmz, hqz⟩ := HQ.out
              rw [HMC.out] at hmz
              subst hmz
              by_cases hlt3 : Q < m.fs.length
              · have hlt2 : (Q : Int) < (m.fs.length : Int) := by omega
                have hQ0 : (0 : Int) ≤ (Q : Int) := by omega
                go_wp2_with fail
                refine cM.mono ?_
                rintro e w6 ⟨rfl, hb6⟩
                have B6 := hbk.trans (hb6.mono hbk.size)
                have r6 := bkeep (B6.block _ R5.lt) p1
                have cF := hFC I Q w6 (hf5.below B6)
                obtain ⟨fc', hfcd⟩ : ∃ mc, fieldCode ms I Q = mc := ⟨_, rfl⟩
                rw [hfcd] at cF
                have HFC := Lib.hid hfcd
                clear hfcd
                go_wp2_with fail
                refine cF.mono ?_
                rintro e w7 ⟨rfl, hb7⟩
                have B7 := B6.trans (hb7.mono B6.size)
                by_cases hz : fc' = 0
                · subst hz
                  go_wp2
                  go_roundw
                  case rel => exact ⟨.inr ⟨Q + 1, by omega, by go_num, Lib.hid ⟨HMC.out, fun j hj => by
                    rcases Nat.lt_or_ge j Q with h | h
                    · exact hqz j h
                    · obtain rfl : j = Q := by omega
                      unfold fAt
                      rw [if_pos HFC.out]⟩⟩, B7⟩
                  case measure => simp [intOf]; omega
                · have hv := firstV_hit H60.out HA.out (vAt_fld HMC.out HMM.out hqz hlt3 (by rw [HFC.out]; exact hz)) (by rw [HN.out]; exact hlt)
                  rw [HFC.out] at hv
                  have he : (vx, vy, vz) = (fc', (I : Int), (Q : Int)) := HFV.out.symm.trans hv
                  clear hv
                  cases he
                  have hz1 : (vx == 0) = false := by simpa using hz
                  have hz2 : (vx != 0) = true := by simpa using hz
                  have vk1 := bkeep (B7.block _ V5.lt) p2
                  have vk2 := bkeep (B7.block _ V5.lt) p3
                  have vk3 := bkeep (B7.block _ V5.lt) p4
                  go_wp2
                  go_ret
                  exact ⟨ret_bool (by first | rfl | simp), C5.trans (B7.mono C5.size)⟩
              · obtain rfl : Q = m.fs.length := by omega
                have hA2 : ∀ j, j < I + 1 → vAt ms j = none := fun j hj => by
                  rcases Nat.lt_or_ge j I with h | h
                  · exact HA.out j h
                  · obtain rfl : j = I := by omega
                    exact vAt_none HMC.out HMM.out hqz
                have HA2 := Lib.hid hA2
                clear hA2 hqz
                go_wp2
                go_roundw
                case rel => exact ⟨I + 1, by omega, by go_num, HA2, hbk⟩
                case measure => simp [intOf]; omega
        · obtain rfl : I = n := by omega
          have hz : (vx, vy, vz) = ((0, 0, 0) : Int × Int × Int) := HFV.out.symm.trans (firstV_miss H60.out (fun j hj => HA.out j (by have := HN.out; omega)))
          cases hz
          have r2 := bkeep (hbel.block _ V5.lt) p2
          have r3 := bkeep (hbel.block _ V5.lt) p3
          have r4 := bkeep (hbel.block _ V5.lt) p4
          go_wp2
          go_ret
          exact ⟨ret_bool (by first | rfl | simp), C5.trans (hbel.mono C5.size)⟩
  · go_enter Try.func6, Try.ntmps6
    go_wp2_with (go_at_call 18; refine (c_big _ _ _ _).mono ?_; rintro e w' ⟨rfl, rfl⟩; rw [hbig])
    go_ret
    exact ⟨rfl, Below.refl _ _⟩
end Go.Proofs.Ytcoghgpgfaifaaa
