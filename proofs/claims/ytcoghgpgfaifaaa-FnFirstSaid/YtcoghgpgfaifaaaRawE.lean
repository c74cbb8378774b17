/- Contracts of the law's equality over descriptions, where the two are equal. Conditions: the descriptions can be read. -/
import Derived.Test.YtcoghgpgfaifaaaRawA
import Derived.Deep.RegionHeld3
namespace Go.Proofs.Ytcoghgpgfaifaaa
open Go.RowKit
set_option linter.unusedVariables false
set_option linter.unusedSimpArgs false
/-- a field's five cells -/
def F5 (w : World) (b o : Nat) (x : Fld) : Prop := w.cell? ⟨b, o, none⟩ = some (.int .i64 x.n) ∧ w.cell? ⟨b, o + 1, none⟩ = some (.int .i64 x.k) ∧ w.cell? ⟨b, o + 2, none⟩ = some (.bool x.r) ∧ w.cell? ⟨b, o + 3, none⟩ = some (.bool x.p) ∧ w.cell? ⟨b, o + 4, none⟩ = some (.int .i64 x.f)
theorem F5.of {w : World} {b off : Nat} {fs : List Fld} {k : Nat} {x : Fld} (hc : ∀ j x, fs[j]? = some x → ∀ i v, x.vs[i]? = some v → w.cell? ⟨b, off + j * 5 + i, none⟩ = some v) (hx : fs[k]? = some x) : F5 w b (off + k * 5) x :=
  ⟨hc k x hx 0 _ rfl, hc k x hx 1 _ rfl, hc k x hx 2 _ rfl, hc k x hx 3 _ rfl, hc k x hx 4 _ rfl⟩
theorem F5.below {w w' : World} {B b o : Nat} {x : Fld} (h : F5 w b o x) (hb : Below B w w') (hB : b < B) : F5 w' b o x :=
  ⟨bkeep (hb.block b hB) h.1, bkeep (hb.block b hB) h.2.1, bkeep (hb.block b hB) h.2.2.1, bkeep (hb.block b hB) h.2.2.2.1, bkeep (hb.block b hB) h.2.2.2.2⟩
/-- a message's two cells -/
def M2 (w : World) (b o : Nat) (id : Int) (v : Value) : Prop := w.cell? ⟨b, o, none⟩ = some (.int .i64 id) ∧ w.cell? ⟨b, o + 1, none⟩ = some v
theorem M2.below {w w' : World} {B b o : Nat} {id : Int} {v : Value} (h : M2 w b o id v) (hb : Below B w w') (hB : b < B) : M2 w' b o id v :=
  ⟨bkeep (hb.block b hB) h.1, bkeep (hb.block b hB) h.2⟩
theorem cL_eqRawField (x : Fld) (w : World) : Calls Try.prog 64 #[.agg #[.int .i64 x.n, .int .i64 x.k, .bool x.r, .bool x.p, .int .i64 x.f], .agg #[.int .i64 x.n, .int .i64 x.k, .bool x.r, .bool x.p, .int .i64 x.f]] w fun e w' => e = .returned (.bool true) ∧ Below w.heap.size w w' := by
  go_enter Try.func64, Try.ntmps64
  go_wp2
  go_ret
  exact ⟨rfl, below2 _ _ _⟩
set_option maxHeartbeats 1000000 in
theorem cL_eqRawFieldS (a1 a2 : Option Addr) (n c1 c2 : Nat) (fs : List Fld) (w : World) (hn : fs.length = n) (hle : n ≤ 1048576) (h1 : FAt w 0 a1 fs) (h2 : FAt w 0 a2 fs) :
    Calls Try.prog 61 #[.slice a1 n c1, .slice a2 n c2] w fun e w' => e = .returned (.bool true) ∧ Below w.heap.size w w' := by
  go_enter Try.func61, Try.ntmps61
  go_wp2_with fail
  go_loopw [5] (fun i wr => ∃ (k : Nat), k ≤ n ∧ i = .int .i64 k ∧ Below w.heap.size w wr) (fun i _ => n - (intOf i).toNat)
  case atStart => exact ⟨0, Nat.zero_le _, rfl, Below.refl _ _⟩
  case round =>
    obtain ⟨k, hk, rfl, hbel⟩ := hrel
    by_cases hlt : k < n
    · obtain ⟨b1, o1, rfl, _, hb1, hc1⟩ := h1 (by omega)
      obtain ⟨b2, o2, rfl, _, hb2, hc2⟩ := h2 (by omega)
      have hx : fs[k]? = some fs[k] := List.getElem?_eq_getElem (by omega)
      generalize fs[k] = x at hx
      have Q1 := (F5.of hc1 hx).below hbel hb1
      have Q2 := (F5.of hc2 hx).below hbel hb2
      have l1 : b1 < wr.heap.size := Nat.lt_of_lt_of_le hb1 hbel.size
      have l2 : b2 < wr.heap.size := Nat.lt_of_lt_of_le hb2 hbel.size
      have hk0 : (k : Int) < (n : Int) := by omega
      have hk1 : (0 : Int) ≤ (k : Int) := by omega
      clear hc1 hc2 h1 h2 hx
      go_wp2_with fail
      refine wp_region_held_drew (S := fun w' => F5 w' b1 (o1 + k * 5) x ∧ F5 w' b2 (o2 + k * 5) x ∧ Below w.heap.size w w') (by kernel_rfl) (⟨Q1, Q2, hbel.drew⟩) (fun hHeld => ?_)
      refine wpAnyH_take (i := 0) (oi := { dst := some 17, op := Op.move (Operand.tmp 0), type := 43, pos := _, after := #[], guard := none }) (v := ?_) rfl (by kernel_rfl) (by kernel_rfl) (by kernel_rfl) (fun _ _ _ h => h) (Or.inl ⟨by kernel_rfl, ?_⟩) (by assumption) ?_
      rotate_left
      · intro w hSw; obtain ⟨⟨z0, z1, z2, z3, z4⟩, ⟨y0, y1, y2, y3, y4⟩, _⟩ := hSw; go_simp; first | done | (with_reducible rfl) | (rw [if_neg (by omega)])
      try simp only [Act.put, List.setIfInBounds_toArray, List.set_cons_zero, List.set_cons_succ]
      refine wpAnyH_take (i := 1) (oi := { dst := some 18, op := Op.move (Operand.tmp 5), type := 3, pos := _, after := #[], guard := none }) (v := ?_) rfl (by kernel_rfl) (by kernel_rfl) (by kernel_rfl) (fun _ _ _ h => h) (Or.inl ⟨by kernel_rfl, ?_⟩) (by assumption) ?_
      rotate_left
      · intro w hSw; obtain ⟨⟨z0, z1, z2, z3, z4⟩, ⟨y0, y1, y2, y3, y4⟩, _⟩ := hSw; go_simp; first | done | (with_reducible rfl) | (rw [if_neg (by omega)])
      try simp only [Act.put, List.setIfInBounds_toArray, List.set_cons_zero, List.set_cons_succ]
      refine wpAnyH_take (i := 2) (oi := { dst := some 19, op := Op.indexAddr 43 (Operand.tmp 17) (Operand.tmp 18), type := 0, pos := _, after := #[{ on := 0, ground := Ground.data }, { on := 1, ground := Ground.data }], guard := none }) (v := ?_) rfl (by kernel_rfl) (by kernel_rfl) (by kernel_rfl) (fun _ _ _ h => h) (Or.inl ⟨by kernel_rfl, ?_⟩) (by assumption) ?_
      rotate_left
      · intro w hSw; obtain ⟨⟨z0, z1, z2, z3, z4⟩, ⟨y0, y1, y2, y3, y4⟩, _⟩ := hSw; go_simp; first | done | (with_reducible rfl) | (rw [if_neg (by omega)])
      try simp only [Act.put, List.setIfInBounds_toArray, List.set_cons_zero, List.set_cons_succ]
      refine wpAnyH_take (i := 3) (oi := { dst := some 20, op := Op.load 50 (Operand.tmp 19), type := 50, pos := _, after := #[{ on := 2, ground := Ground.data }], guard := none }) (v := ?_) rfl (by kernel_rfl) (by kernel_rfl) (by kernel_rfl) (fun _ _ _ h => h) (Or.inl ⟨by kernel_rfl, ?_⟩) (by assumption) ?_
      rotate_left
      · intro w hSw; obtain ⟨⟨z0, z1, z2, z3, z4⟩, ⟨y0, y1, y2, y3, y4⟩, _⟩ := hSw; go_simp; first | done | (with_reducible rfl) | (rw [if_neg (by omega)])
      try simp only [Act.put, List.setIfInBounds_toArray, List.set_cons_zero, List.set_cons_succ]
      refine wpAnyH_take (i := 4) (oi := { dst := some 21, op := Op.move (Operand.tmp 1), type := 43, pos := _, after := #[], guard := none }) (v := ?_) rfl (by kernel_rfl) (by kernel_rfl) (by kernel_rfl) (fun _ _ _ h => h) (Or.inl ⟨by kernel_rfl, ?_⟩) (by assumption) ?_
      rotate_left
      · intro w hSw; obtain ⟨⟨z0, z1, z2, z3, z4⟩, ⟨y0, y1, y2, y3, y4⟩, _⟩ := hSw; go_simp; first | done | (with_reducible rfl) | (rw [if_neg (by omega)])
      try simp only [Act.put, List.setIfInBounds_toArray, List.set_cons_zero, List.set_cons_succ]
      refine wpAnyH_take (i := 5) (oi := { dst := some 22, op := Op.move (Operand.tmp 5), type := 3, pos := _, after := #[], guard := none }) (v := ?_) rfl (by kernel_rfl) (by kernel_rfl) (by kernel_rfl) (fun _ _ _ h => h) (Or.inl ⟨by kernel_rfl, ?_⟩) (by assumption) ?_
      rotate_left
      · intro w hSw; obtain ⟨⟨z0, z1, z2, z3, z4⟩, ⟨y0, y1, y2, y3, y4⟩, _⟩ := hSw; go_simp; first | done | (with_reducible rfl) | (rw [if_neg (by omega)])
      try simp only [Act.put, List.setIfInBounds_toArray, List.set_cons_zero, List.set_cons_succ]
      refine wpAnyH_take (i := 6) (oi := { dst := some 23, op := Op.indexAddr 43 (Operand.tmp 21) (Operand.tmp 22), type := 0, pos := _, after := #[{ on := 4, ground := Ground.data }, { on := 5, ground := Ground.data }], guard := none }) (v := ?_) rfl (by kernel_rfl) (by kernel_rfl) (by kernel_rfl) (fun _ _ _ h => h) (Or.inl ⟨by kernel_rfl, ?_⟩) (by assumption) ?_
      rotate_left
      · intro w hSw; obtain ⟨⟨z0, z1, z2, z3, z4⟩, ⟨y0, y1, y2, y3, y4⟩, _⟩ := hSw; go_simp; first | done | (with_reducible rfl) | (rw [if_neg (by omega)])
      try simp only [Act.put, List.setIfInBounds_toArray, List.set_cons_zero, List.set_cons_succ]
      refine wpAnyH_take (i := 7) (oi := { dst := some 24, op := Op.load 50 (Operand.tmp 23), type := 50, pos := _, after := #[{ on := 6, ground := Ground.data }], guard := none }) (v := ?_) rfl (by kernel_rfl) (by kernel_rfl) (by kernel_rfl) (fun _ _ _ h => h) (Or.inl ⟨by kernel_rfl, ?_⟩) (by assumption) ?_
      rotate_left
      · intro w hSw; obtain ⟨⟨z0, z1, z2, z3, z4⟩, ⟨y0, y1, y2, y3, y4⟩, _⟩ := hSw; go_simp; first | done | (with_reducible rfl) | (rw [if_neg (by omega)])
      try simp only [Act.put, List.setIfInBounds_toArray, List.set_cons_zero, List.set_cons_succ]
      refine wpAnyH_ready (rs := [8]) (by kernel_rfl) (by simp) ?_
      refine AllReadyH.cons (o := { dst := some 25, op := Op.call { callee := Callee.value (Operand.func 64), args := #[Operand.tmp 20, Operand.tmp 24], argTypes := #[50, 50] }, type := 4, pos := _, after := #[{ on := 3, ground := Ground.data }, { on := 7, ground := Ground.data }], guard := none }) rfl (fun K hK => ?_) AllReadyH.nil
      rw [if_pos (by kernel_rfl)]
      go_simp
      go_at_call 64
      refine (cL_eqRawField x _).mono ?_
      rintro e w2 ⟨rfl, hb3⟩
      have B3 := hbel.drew.trans (hb3.mono hbel.drew.size)
      go_wp2_with fail
      refine hK.out _ _ ⟨F5.below (w := wr.drew) Q1 hb3 l1, F5.below (w := wr.drew) Q2 hb3 l2, B3⟩ (fun hHeld2 => ?_)
      clear hK K
      try simp only [Act.put, List.setIfInBounds_toArray, List.set_cons_zero, List.set_cons_succ]
      refine wpAnyH_take (i := 9) (oi := { dst := some 26, op := Op.unOp UnOp.not 4 (Operand.tmp 25), type := 4, pos := _, after := #[{ on := 8, ground := Ground.data }], guard := none }) (v := ?_) rfl (by kernel_rfl) (by kernel_rfl) (by kernel_rfl) (fun _ _ _ h => h) (Or.inl ⟨by kernel_rfl, ?_⟩) (by assumption) ?_
      rotate_left
      · intro w hSw; obtain ⟨⟨z0, z1, z2, z3, z4⟩, ⟨y0, y1, y2, y3, y4⟩, _⟩ := hSw; go_simp; first | done | (with_reducible rfl) | (rw [if_neg (by omega)])
      try simp only [Act.put, List.setIfInBounds_toArray, List.set_cons_zero, List.set_cons_succ]
      refine wpAnyH_done (by kernel_rfl) ?_ _
      go_wp2
      go_roundw
      case rel => exact ⟨k + 1, by omega, by go_num, B3⟩
      case measure => simp [intOf]; omega
    · obtain rfl : n = k := by omega
      go_wp2
      go_ret
      exact ⟨rfl, hbel⟩
set_option maxHeartbeats 1000000 in
theorem cL_eqRawMsg (id : Int) (a1 a2 : Option Addr) (n c1 c2 : Nat) (fs : List Fld) (w : World) (hn : fs.length = n) (hle : n ≤ 1048576) (h1 : FAt w 0 a1 fs) (h2 : FAt w 0 a2 fs) :
    Calls Try.prog 50 #[.agg #[.int .i64 id, .slice a1 n c1], .agg #[.int .i64 id, .slice a2 n c2]] w fun e w' => e = .returned (.bool true) ∧ Below w.heap.size w w' := by
  have hb0 := below2 w (.cells #[.int .i64 id, .slice a1 n c1] 45) (.cells #[.int .i64 id, .slice a2 n c2] 45)
  have R0 := (Box.new w 45 #[.int .i64 id, .slice a1 n c1]).alloc (.cells #[.int .i64 id, .slice a2 n c2] 45)
  have S0 := Box.at1 w (.cells #[.int .i64 id, .slice a1 n c1] 45) 45 #[.int .i64 id, .slice a2 n c2]
  have q0 := R0.cell 0 rfl; have q1 := R0.cell 1 rfl; have p0 := S0.cell 0 rfl; have p1 := S0.cell 1 rfl
  go_enter Try.func50, Try.ntmps50
  go_wp2_with fail
  refine (cL_eqRawFieldS a1 a2 n c1 c2 fs _ hn hle (h1.below hb0) (h2.below hb0)).mono ?_
  rintro e w2 ⟨rfl, hb2⟩
  go_wp2
  go_ret
  exact ⟨rfl, hb0.trans (hb2.mono hb0.size)⟩
set_option maxHeartbeats 1000000 in
theorem cL_eqRawMsgS (a1 a2 : Option Addr) (n c1 c2 : Nat) (ms : List Msg) (w : World) (hn : ms.length = n) (hle : n ≤ 1048576) (hms : ∀ (j : Nat) (m : Msg), ms[j]? = some m → m.fs.length ≤ 1048576) (h1 : MAt w 0 a1 ms) (h2 : MAt w 0 a2 ms) :
    Calls Try.prog 30 #[.slice a1 n c1, .slice a2 n c2] w fun e w' => e = .returned (.bool true) ∧ Below w.heap.size w w' := by
  have HMS := Lib.hid hms
  clear hms
  go_enter Try.func30, Try.ntmps30
  go_wp2_with fail
  go_loopw [5] (fun i wr => ∃ (k : Nat), k ≤ n ∧ i = .int .i64 k ∧ Below w.heap.size w wr) (fun i _ => n - (intOf i).toNat)
  case atStart => exact ⟨0, Nat.zero_le _, rfl, Below.refl _ _⟩
  case round =>
    obtain ⟨k, hk, rfl, hbel⟩ := hrel
    by_cases hlt : k < n
    · obtain ⟨b1, o1, rfl, _, hb1, hc1⟩ := h1 (by omega)
      obtain ⟨b2, o2, rfl, _, hb2, hc2⟩ := h2 (by omega)
      have hx : ms[k]? = some ms[k] := List.getElem?_eq_getElem (by omega)
      generalize ms[k] = m at hx
      obtain ⟨e1, fa1, fc1, f1, _, g1⟩ := hc1 k m hx
      obtain ⟨e2, fa2, fc2, f2, _, g2⟩ := hc2 k m hx
      have hm := HMS.out k m hx
      have Q1 := M2.below (w := w) ⟨e1, f1⟩ hbel hb1
      have Q2 := M2.below (w := w) ⟨e2, f2⟩ hbel hb2
      have G1 := g1.keep (w' := wr.drew) (fun b _ hb => hbel.block b hb) hbel.size
      have G2 := g2.keep (w' := wr.drew) (fun b _ hb => hbel.block b hb) hbel.size
      have l1 : b1 < wr.heap.size := Nat.lt_of_lt_of_le hb1 hbel.size
      have l2 : b2 < wr.heap.size := Nat.lt_of_lt_of_le hb2 hbel.size
      have hk0 : (k : Int) < (n : Int) := by omega
      have hk1 : (0 : Int) ≤ (k : Int) := by omega
      clear hc1 hc2 h1 h2 hx e1 e2 f1 f2 g1 g2
      go_wp2_with fail
      refine wp_region_held_drew (S := fun w' => M2 w' b1 (o1 + k * 2) m.id (.slice fa1 m.fs.length fc1) ∧ M2 w' b2 (o2 + k * 2) m.id (.slice fa2 m.fs.length fc2) ∧ Below w.heap.size w w') (by kernel_rfl) (⟨Q1, Q2, hbel.drew⟩) (fun hHeld => ?_)
      refine wpAnyH_take (i := 0) (oi := { dst := some 17, op := Op.move (Operand.tmp 0), type := 27, pos := _, after := #[], guard := none }) (v := ?_) rfl (by kernel_rfl) (by kernel_rfl) (by kernel_rfl) (fun _ _ _ h => h) (Or.inl ⟨by kernel_rfl, ?_⟩) (by assumption) ?_
      rotate_left
      · intro w hSw; obtain ⟨⟨z0, z1⟩, ⟨y0, y1⟩, _⟩ := hSw; go_simp; first | done | (with_reducible rfl) | (rw [if_neg (by omega)])
      try simp only [Act.put, List.setIfInBounds_toArray, List.set_cons_zero, List.set_cons_succ]
      refine wpAnyH_take (i := 1) (oi := { dst := some 18, op := Op.move (Operand.tmp 5), type := 3, pos := _, after := #[], guard := none }) (v := ?_) rfl (by kernel_rfl) (by kernel_rfl) (by kernel_rfl) (fun _ _ _ h => h) (Or.inl ⟨by kernel_rfl, ?_⟩) (by assumption) ?_
      rotate_left
      · intro w hSw; obtain ⟨⟨z0, z1⟩, ⟨y0, y1⟩, _⟩ := hSw; go_simp; first | done | (with_reducible rfl) | (rw [if_neg (by omega)])
      try simp only [Act.put, List.setIfInBounds_toArray, List.set_cons_zero, List.set_cons_succ]
      refine wpAnyH_take (i := 2) (oi := { dst := some 19, op := Op.indexAddr 27 (Operand.tmp 17) (Operand.tmp 18), type := 0, pos := _, after := #[{ on := 0, ground := Ground.data }, { on := 1, ground := Ground.data }], guard := none }) (v := ?_) rfl (by kernel_rfl) (by kernel_rfl) (by kernel_rfl) (fun _ _ _ h => h) (Or.inl ⟨by kernel_rfl, ?_⟩) (by assumption) ?_
      rotate_left
      · intro w hSw; obtain ⟨⟨z0, z1⟩, ⟨y0, y1⟩, _⟩ := hSw; go_simp; first | done | (with_reducible rfl) | (rw [if_neg (by omega)])
      try simp only [Act.put, List.setIfInBounds_toArray, List.set_cons_zero, List.set_cons_succ]
      refine wpAnyH_take (i := 3) (oi := { dst := some 20, op := Op.load 45 (Operand.tmp 19), type := 45, pos := _, after := #[{ on := 2, ground := Ground.data }], guard := none }) (v := ?_) rfl (by kernel_rfl) (by kernel_rfl) (by kernel_rfl) (fun _ _ _ h => h) (Or.inl ⟨by kernel_rfl, ?_⟩) (by assumption) ?_
      rotate_left
      · intro w hSw; obtain ⟨⟨z0, z1⟩, ⟨y0, y1⟩, _⟩ := hSw; go_simp; first | done | (with_reducible rfl) | (rw [if_neg (by omega)])
      try simp only [Act.put, List.setIfInBounds_toArray, List.set_cons_zero, List.set_cons_succ]
      refine wpAnyH_take (i := 4) (oi := { dst := some 21, op := Op.move (Operand.tmp 1), type := 27, pos := _, after := #[], guard := none }) (v := ?_) rfl (by kernel_rfl) (by kernel_rfl) (by kernel_rfl) (fun _ _ _ h => h) (Or.inl ⟨by kernel_rfl, ?_⟩) (by assumption) ?_
      rotate_left
      · intro w hSw; obtain ⟨⟨z0, z1⟩, ⟨y0, y1⟩, _⟩ := hSw; go_simp; first | done | (with_reducible rfl) | (rw [if_neg (by omega)])
      try simp only [Act.put, List.setIfInBounds_toArray, List.set_cons_zero, List.set_cons_succ]
      refine wpAnyH_take (i := 5) (oi := { dst := some 22, op := Op.move (Operand.tmp 5), type := 3, pos := _, after := #[], guard := none }) (v := ?_) rfl (by kernel_rfl) (by kernel_rfl) (by kernel_rfl) (fun _ _ _ h => h) (Or.inl ⟨by kernel_rfl, ?_⟩) (by assumption) ?_
      rotate_left
      · intro w hSw; obtain ⟨⟨z0, z1⟩, ⟨y0, y1⟩, _⟩ := hSw; go_simp; first | done | (with_reducible rfl) | (rw [if_neg (by omega)])
      try simp only [Act.put, List.setIfInBounds_toArray, List.set_cons_zero, List.set_cons_succ]
      refine wpAnyH_take (i := 6) (oi := { dst := some 23, op := Op.indexAddr 27 (Operand.tmp 21) (Operand.tmp 22), type := 0, pos := _, after := #[{ on := 4, ground := Ground.data }, { on := 5, ground := Ground.data }], guard := none }) (v := ?_) rfl (by kernel_rfl) (by kernel_rfl) (by kernel_rfl) (fun _ _ _ h => h) (Or.inl ⟨by kernel_rfl, ?_⟩) (by assumption) ?_
      rotate_left
      · intro w hSw; obtain ⟨⟨z0, z1⟩, ⟨y0, y1⟩, _⟩ := hSw; go_simp; first | done | (with_reducible rfl) | (rw [if_neg (by omega)])
      try simp only [Act.put, List.setIfInBounds_toArray, List.set_cons_zero, List.set_cons_succ]
      refine wpAnyH_take (i := 7) (oi := { dst := some 24, op := Op.load 45 (Operand.tmp 23), type := 45, pos := _, after := #[{ on := 6, ground := Ground.data }], guard := none }) (v := ?_) rfl (by kernel_rfl) (by kernel_rfl) (by kernel_rfl) (fun _ _ _ h => h) (Or.inl ⟨by kernel_rfl, ?_⟩) (by assumption) ?_
      rotate_left
      · intro w hSw; obtain ⟨⟨z0, z1⟩, ⟨y0, y1⟩, _⟩ := hSw; go_simp; first | done | (with_reducible rfl) | (rw [if_neg (by omega)])
      try simp only [Act.put, List.setIfInBounds_toArray, List.set_cons_zero, List.set_cons_succ]
      refine wpAnyH_ready (rs := [8]) (by kernel_rfl) (by simp) ?_
      refine AllReadyH.cons (o := { dst := some 25, op := Op.call { callee := Callee.value (Operand.func 50), args := #[Operand.tmp 20, Operand.tmp 24], argTypes := #[45, 45] }, type := 4, pos := _, after := #[{ on := 3, ground := Ground.data }, { on := 7, ground := Ground.data }], guard := none }) rfl (fun K hK => ?_) AllReadyH.nil
      rw [if_pos (by kernel_rfl)]
      go_simp
      go_at_call 50
      refine (cL_eqRawMsg m.id fa1 fa2 _ fc1 fc2 m.fs _ rfl hm G1 G2).mono ?_
      rintro e w2 ⟨rfl, hb3⟩
      have B3 := hbel.drew.trans (hb3.mono hbel.drew.size)
      go_wp2_with fail
      refine hK.out _ _ ⟨M2.below (w := wr.drew) Q1 hb3 l1, M2.below (w := wr.drew) Q2 hb3 l2, B3⟩ (fun hHeld2 => ?_)
      clear hK K
      try simp only [Act.put, List.setIfInBounds_toArray, List.set_cons_zero, List.set_cons_succ]
      refine wpAnyH_take (i := 9) (oi := { dst := some 26, op := Op.unOp UnOp.not 4 (Operand.tmp 25), type := 4, pos := _, after := #[{ on := 8, ground := Ground.data }], guard := none }) (v := ?_) rfl (by kernel_rfl) (by kernel_rfl) (by kernel_rfl) (fun _ _ _ h => h) (Or.inl ⟨by kernel_rfl, ?_⟩) (by assumption) ?_
      rotate_left
      · intro w hSw; obtain ⟨⟨z0, z1⟩, ⟨y0, y1⟩, _⟩ := hSw; go_simp; first | done | (with_reducible rfl) | (rw [if_neg (by omega)])
      try simp only [Act.put, List.setIfInBounds_toArray, List.set_cons_zero, List.set_cons_succ]
      refine wpAnyH_done (by kernel_rfl) ?_ _
      go_wp2
      go_roundw
      case rel => exact ⟨k + 1, by omega, by go_num, B3⟩
      case measure => simp [intOf]; omega
    · obtain rfl : n = k := by omega
      go_wp2
      go_ret
      exact ⟨rfl, hbel⟩
set_option maxHeartbeats 1000000 in
theorem cL_eqRaw (a1 a2 : Option Addr) (n c1 c2 : Nat) (ms : List Msg) (w : World) (hn : ms.length = n) (hle : n ≤ 1048576) (hms : ∀ (j : Nat) (m : Msg), ms[j]? = some m → m.fs.length ≤ 1048576) (h1 : MAt w 0 a1 ms) (h2 : MAt w 0 a2 ms) :
    Calls Try.prog 13 #[.agg #[.slice a1 n c1], .agg #[.slice a2 n c2]] w fun e w' => e = .returned (.bool true) ∧ Below w.heap.size w w' := by
  have hb0 := below2 w (.cells #[.slice a1 n c1] 29) (.cells #[.slice a2 n c2] 29)
  have R0 := (Box.new w 29 #[.slice a1 n c1]).alloc (.cells #[.slice a2 n c2] 29)
  have S0 := Box.at1 w (.cells #[.slice a1 n c1] 29) 29 #[.slice a2 n c2]
  have q0 := R0.cell 0 rfl; have p0 := S0.cell 0 rfl
  have HMS := Lib.hid hms
  clear hms
  go_enter Try.func13, Try.ntmps13
  go_wp2_with fail
  refine (cL_eqRawMsgS a1 a2 n c1 c2 ms _ hn hle HMS.out (h1.below hb0) (h2.below hb0)).mono ?_
  rintro e w2 ⟨rfl, hb2⟩
  go_wp2
  go_ret
  exact ⟨rfl, hb0.trans (hb2.mono hb0.size)⟩
end Go.Proofs.Ytcoghgpgfaifaaa
