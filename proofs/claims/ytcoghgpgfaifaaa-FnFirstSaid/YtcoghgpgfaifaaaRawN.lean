/- The reference draws a plan that may be bent. Conditions: none. -/
import Derived.Test.YtcoghgpgfaifaaaRawY
import Derived.IntWalk
import Derived.Deep.CutBlock
namespace Go.Proofs.Ytcoghgpgfaifaaa
open Go.RowKit
set_option linter.unusedVariables false
set_option linter.unusedSimpArgs false
theorem BInv.post {w wr : World} {B g : Nat} {a : Option Addr} {len cap : Nat} {z : List Int} {T O : Nat} {v : Value} {l : List (Int × Value × List Fld)} (h : BInv w B g a len cap z T O v l wr) (hg : g < w.heap.size) (hT : T ≤ 40) (h1 : 1 ≤ l.length) (h7 : l.length ≤ 7) :
    RawPost B g a len cap z 40 7 w (.returned (.agg #[v])) (wr.setCell ⟨w.heap.size, 0, none⟩ v) := by
  obtain ⟨b1, b2, ⟨U, h3⟩, h4, h5, h6, h8, h9⟩ := h
  exact ⟨v, l, U, rfl, h8.far (by simp; omega) _, grown_set h9 (.inr (by simp)) _, (h3.keep (by simp [World.setCell]) (fun k hk _ => Below.heap_setCell wr _ _ k (by simp; omega))).low (by omega), h6.mono hT, h1, h7⟩
/-- the length of the slice in a cell -/
def lenC : Option Value → Nat
  | some (.slice _ n _) => n
  | _ => 0
theorem d_Number {B g : Nat} {a : Option Addr} {len cap : Nat} {z : List Int} (w : World) (hc : Cur w B g a len cap z) :
    Calls Try.prog 58 #[.pointer (some ⟨g, 0, none⟩)] w (IntPost B g a len cap z .i64 (-9223372036854775808) 9223372036854775807 w) := by
  go_enter Try.func58, Try.ntmps58
  go_wp2_with fail
  refine (d_Once _ hc 4 (by omega) (by omega)).mono ?_
  rintro e w1 ⟨v, rfl, hc1, hg1⟩
  have hgl := hc1.lt
  cases v with
  | true =>
    go_wp2_with fail
    refine (d_PickInt _ (hc1.alloc _) w1.heap.size 10 hc1.lt (by simp) (by omega) (by omega) (-9223372036854775808) 9223372036854775807 (fun j hj => by
      obtain ⟨v, ⟨x, h1, h2, rfl⟩, h3⟩ := pick_cells (P := fun v => ∃ x : Int, -9223372036854775808 ≤ x ∧ x ≤ 9223372036854775807 ∧ v = .int .i64 x) (w := w1) (t := 3) (cs := #[.int .i64 0, .int .i64 1, .int .i64 (-1), .int .i64 18999, .int .i64 19000, .int .i64 19999, .int .i64 20000, .int .i64 536870911, .int .i64 536870912, .int .i64 9223372036854775807]) (n := 10) (fun j hj => by
        rcases (show j = 0 ∨ j = 1 ∨ j = 2 ∨ j = 3 ∨ j = 4 ∨ j = 5 ∨ j = 6 ∨ j = 7 ∨ j = 8 ∨ j = 9 by omega) with rfl | rfl | rfl | rfl | rfl | rfl | rfl | rfl | rfl | rfl
        all_goals exact ⟨_, ⟨_, by omega, by omega, rfl⟩, rfl⟩) j hj
      exact ⟨x, h1, h2, h3⟩)).mono ?_
    rintro e w2 ⟨x, hx0, hx1, rfl, hc2, hg2⟩
    go_wp2
    go_ret
    exact ⟨x, hx0, hx1, rfl, hc2, (grown_alloc hg1 _).trans hg2⟩
  | false =>
    go_wp2_with fail
    refine (d_Below _ hc1 20 (by omega) (by omega)).mono ?_
    rintro e w2 ⟨x, hx0, hx1, rfl, hc2, hg2⟩
    rw [hiB_pos (by omega)] at hx1
    go_wp2
    go_ret
    exact ⟨_, by omega, by omega, rfl, hc2, hg1.trans hg2⟩
set_option maxRecDepth 20000 in
set_option maxHeartbeats 4000000 in
theorem d_Bent {B g : Nat} {a : Option Addr} {len cap : Nat} {z : List Int} (w : World) (hc : Cur w B g a len cap z) :
    Calls Try.prog 46 #[.pointer (some ⟨g, 0, none⟩)] w (RawPost B g a len cap z 40 7 w) := by
  obtain ⟨ti, hi0, hz0, hz1, hz2⟩ := info_parts infoM
  obtain ⟨tf, fi0, fz0, fz1, fz2⟩ := info_parts infoF
  have hgl := hc.lt
  go_enter Try.func46, Try.ntmps46
  go_wp2_with fail
  refine (d_Right _ (hc.alloc _)).mono ?_
  rintro e w1 ⟨v, l, U, rfl, hc1, hg1, hR, hBn, hl1, hl3⟩
  obtain ⟨b, cb, rfl, hb1, hb2, hb3⟩ := hR.form (by omega)
  rw [show (w.alloc (.cells #[.slice none 0 0] 29)).heap.size = w.heap.size + 1 by simp] at hR hb1
  have hw1 : w.heap.size + 1 ≤ w1.heap.size := by have := hg1.size; simpa using this
  have hb : BInv w B g a len cap z 18 w1.heap.size (.slice (some ⟨b, 0, none⟩) l.length cb) l (w1.alloc (.cells #[.slice (some ⟨b, 0, none⟩) l.length cb] 29)) :=
    ⟨((Box.new w 29 #[.slice none 0 0]).grown hg1 (by simp; omega)).alloc _, Box.new _ _ _, ⟨U, hR.keep (by simp) (fun k _ hk => Below.heap_alloc w1 _ k (by have := hR.1; omega))⟩, Off.of_lt hR hR.1, by omega, hBn, hc1.alloc _, grown_alloc ((grown_alloc (grown_refl _ _) _).trans hg1) _⟩
  clear hc hc1 hg1 hR hBn hb1 hb2 hb3
  generalize hOd : w1.heap.size = O at hb
  have o0 := hb.2.1.cell 0 rfl
  have hl0 : (0 : Int) < (l.length : Int) := by omega
  have hdb := d_Below _ hb.2.2.2.2.2.2.1 (l.length : Int) (by omega) (by omega)
  rw [hiB_pos (by omega)] at hdb
  go_wp2_with fail
  refine hdb.mono ?_
  rintro e w2 ⟨m0, hm0, hm1, rfl, hc2, hg2⟩
  obtain ⟨m, rfl⟩ := Int.eq_ofNat_of_zero_le hm0
  have hm : (m : Int) < (l.length : Int) := by omega
  have hm2 : (0 : Int) ≤ (m : Int) := by omega
  obtain ⟨ent, hxm⟩ : ∃ x, l[m]? = some x := ⟨_, List.getElem?_eq_getElem (by omega)⟩
  have hb2 := hb.drawn hgl hc2 hg2
  clear hdb o0 hc2 hg2 hb hm0 hm1
  go_wp2_with fail
  refine (d_Once _ hb2.2.2.2.2.2.2.1 5 (by omega) (by omega)).mono ?_
  rintro e w3 ⟨bt, rfl, hc3, hg3⟩
  have hb3 := hb2.drawn hgl hc3 hg3
  clear hc3 hg3 hb2
  cases bt with
  | true =>
    go_wp2_with fail
    refine (d_Below _ hb3.2.2.2.2.2.2.1 3 (by omega) (by omega)).mono ?_
    rintro e w4 ⟨x4, hx40, hx41, rfl, hc4, hg4⟩
    rw [hiB_pos (by omega)] at hx41
    have hb4 := hb3.drawn hgl hc4 hg4
    clear hc4 hg4 hb3
    rcases (show x4 = 0 ∨ x4 = 1 ∨ x4 = 2 by omega) with rfl | rfl | rfl
    · have o4 := hb4.2.1.cell 0 rfl
      have hBa : Below w4.heap.size w4 (w4.alloc (.cells #[.int .i64 0, .int .i64 (-1), .int .i64 100, .int .i64 5, .int .i64 1] 3)).drew := ((Below.refl _ _).alloc (Nat.le_refl _) _).drew
      have hb5 := hb4.below hBa
      have o5 := hb5.2.1.cell 0 rfl
      have hpick := d_PickInt _ hb5.2.2.2.2.2.2.1 w4.heap.size 5 (by have := hb4.2.2.2.2.2.2.1.lt; omega) (by simp) (by omega) (by omega) (-1) 100 (fun j hj => by
          obtain ⟨v, ⟨x, h1, h2, rfl⟩, h3⟩ := pick_cells (P := fun v => ∃ x : Int, -1 ≤ x ∧ x ≤ 100 ∧ v = .int .i64 x) (w := w4) (t := 3) (cs := #[.int .i64 0, .int .i64 (-1), .int .i64 100, .int .i64 5, .int .i64 1]) (n := 5) (fun j hj => by
            rcases (show j = 0 ∨ j = 1 ∨ j = 2 ∨ j = 3 ∨ j = 4 by omega) with rfl | rfl | rfl | rfl | rfl
            all_goals exact ⟨_, ⟨_, by omega, by omega, rfl⟩, rfl⟩) j hj
          exact ⟨x, h1, h2, h3⟩)
      go_wp2_with fail
      refine wp_region_held_drew (S := fun w' => w'.cell? ⟨O, 0, none⟩ = some (.slice (some ⟨b, 0, none⟩) l.length cb)) (by kernel_rfl) (o4) (fun hHeld => ?_)
      refine wpAnyH_take (i := 0) (oi := { dst := some 44, op := Op.fieldAddr 29 (Operand.tmp 3) 0, type := 0, pos := _, after := #[], guard := none }) (v := ?_) rfl (by kernel_rfl) (by kernel_rfl) (by kernel_rfl) (fun _ _ _ h => h) (Or.inl ⟨by kernel_rfl, ?_⟩) (by assumption) ?_
      rotate_left
      · intro w hSw; have z0 := hSw; go_simp; first | done | (with_reducible rfl) | (rw [if_neg (by omega)])
      try simp only [Act.put, List.setIfInBounds_toArray, List.set_cons_zero, List.set_cons_succ]
      refine wpAnyH_take (i := 1) (oi := { dst := some 45, op := Op.load 27 (Operand.tmp 44), type := 27, pos := _, after := #[{ on := 0, ground := Ground.data }], guard := none }) (v := ?_) rfl (by kernel_rfl) (by kernel_rfl) (by kernel_rfl) (fun _ _ _ h => h) (Or.inl ⟨by kernel_rfl, ?_⟩) (by assumption) ?_
      rotate_left
      · intro w hSw; have z0 := hSw; go_simp; first | done | (with_reducible rfl) | (rw [if_neg (by omega)])
      try simp only [Act.put, List.setIfInBounds_toArray, List.set_cons_zero, List.set_cons_succ]
      refine wpAnyH_take (i := 2) (oi := { dst := some 46, op := Op.move (Operand.tmp 4), type := 3, pos := _, after := #[], guard := none }) (v := ?_) rfl (by kernel_rfl) (by kernel_rfl) (by kernel_rfl) (fun _ _ _ h => h) (Or.inl ⟨by kernel_rfl, ?_⟩) (by assumption) ?_
      rotate_left
      · intro w hSw; have z0 := hSw; go_simp; first | done | (with_reducible rfl) | (rw [if_neg (by omega)])
      try simp only [Act.put, List.setIfInBounds_toArray, List.set_cons_zero, List.set_cons_succ]
      refine wpAnyH_take (i := 3) (oi := { dst := some 47, op := Op.move (Operand.tmp 0), type := 66, pos := _, after := #[], guard := none }) (v := ?_) rfl (by kernel_rfl) (by kernel_rfl) (by kernel_rfl) (fun _ _ _ h => h) (Or.inl ⟨by kernel_rfl, ?_⟩) (by assumption) ?_
      rotate_left
      · intro w hSw; have z0 := hSw; go_simp; first | done | (with_reducible rfl) | (rw [if_neg (by omega)])
      try simp only [Act.put, List.setIfInBounds_toArray, List.set_cons_zero, List.set_cons_succ]
      refine wpAnyH_ready (rs := [4]) (by kernel_rfl) (by simp) ?_
      refine AllReadyH.cons (o := { dst := some 48, op := Op.buildSlice 78 5 #[(0, Operand.const (Value.int IntKind.i64 0)), (1, Operand.const (Value.int IntKind.i64 (-1))), (2, Operand.const (Value.int IntKind.i64 100)), (3, Operand.const (Value.int IntKind.i64 5)), (4, Operand.const (Value.int IntKind.i64 1))], type := 78, pos := _, after := #[], guard := none }) rfl (fun K hK => ?_) AllReadyH.nil
      rw [if_pos (by kernel_rfl)]
      go_simp
      refine hK.out _ _ o5 (fun _ => ?_)
      clear hK K
      try simp only [Act.put, List.setIfInBounds_toArray, List.set_cons_zero, List.set_cons_succ]
      refine wpAnyH_ready (rs := [5]) (by kernel_rfl) (by simp) ?_
      refine AllReadyH.cons (o := { dst := some 49, op := Op.call { callee := Callee.value (Operand.func 57), args := #[Operand.tmp 47, Operand.tmp 48], argTypes := #[66, 78] }, type := 3, pos := _, after := #[{ on := 3, ground := Ground.data }, { on := 4, ground := Ground.data }], guard := none }) rfl (fun K hK => ?_) AllReadyH.nil
      rw [if_pos (by kernel_rfl)]
      go_simp
      refine hpick.mono ?_
      rintro e w6 ⟨id, hid0, hid1, rfl, hc6, hg6⟩
      have hb6 := hb5.drawn hgl hc6 hg6
      refine hK.out _ _ (hb6.2.1.cell 0 rfl) (fun _ => ?_)
      clear hK K
      try simp only [Act.put, List.setIfInBounds_toArray, List.set_cons_zero, List.set_cons_succ]
      refine wpAnyH_take (i := 6) (oi := { dst := some 50, op := Op.indexAddr 27 (Operand.tmp 45) (Operand.tmp 46), type := 0, pos := _, after := #[{ on := 1, ground := Ground.data }, { on := 2, ground := Ground.data }, { on := 0, ground := Ground.phase }, { on := 1, ground := Ground.phase }, { on := 2, ground := Ground.phase }, { on := 3, ground := Ground.phase }, { on := 4, ground := Ground.phase }, { on := 5, ground := Ground.phase }], guard := none }) (v := ?_) rfl (by kernel_rfl) (by kernel_rfl) (by kernel_rfl) (fun _ _ _ h => h) (Or.inl ⟨by kernel_rfl, ?_⟩) (by assumption) ?_
      rotate_left
      · intro w hSw; have z0 := hSw; go_simp; first | done | (with_reducible rfl) | (rw [if_neg (by omega)])
      try simp only [Act.put, List.setIfInBounds_toArray, List.set_cons_zero, List.set_cons_succ]
      refine wpAnyH_take (i := 7) (oi := { dst := some 51, op := Op.fieldAddr 45 (Operand.tmp 50) 0, type := 0, pos := _, after := #[{ on := 6, ground := Ground.data }, { on := 0, ground := Ground.phase }, { on := 1, ground := Ground.phase }, { on := 2, ground := Ground.phase }, { on := 3, ground := Ground.phase }, { on := 4, ground := Ground.phase }, { on := 5, ground := Ground.phase }], guard := none }) (v := ?_) rfl (by kernel_rfl) (by kernel_rfl) (by kernel_rfl) (fun _ _ _ h => h) (Or.inl ⟨by kernel_rfl, ?_⟩) (by assumption) ?_
      rotate_left
      · intro w hSw; have z0 := hSw; go_simp; first | done | (with_reducible rfl) | (rw [if_neg (by omega)])
      try simp only [Act.put, List.setIfInBounds_toArray, List.set_cons_zero, List.set_cons_succ]
      refine wpAnyH_ready (rs := [8]) (by kernel_rfl) (by simp) ?_
      refine AllReadyH.cons (o := { dst := none, op := Op.store 3 (Operand.tmp 51) (Operand.tmp 49), type := 0, pos := _, after := #[{ on := 7, ground := Ground.data }, { on := 5, ground := Ground.data }, { on := 5, ground := Ground.chain }, { on := 0, ground := Ground.phase }, { on := 1, ground := Ground.phase }, { on := 2, ground := Ground.phase }, { on := 3, ground := Ground.phase }, { on := 4, ground := Ground.phase }, { on := 5, ground := Ground.phase }], guard := none }) rfl (fun K hK => ?_) AllReadyH.nil
      rw [if_pos (by kernel_rfl)]
      obtain ⟨⟨i0, i1, i2, i3⟩, _⟩ := hb6.cells hxm
      have hb7 := hb6.setId hgl hxm id
      go_simp
      refine hK.out _ _ (hb7.2.1.cell 0 rfl) (fun _ => ?_)
      clear hK K
      try simp only [Act.put, List.setIfInBounds_toArray, List.set_cons_zero, List.set_cons_succ]
      refine wpAnyH_done (by kernel_rfl) ?_ _
      clear hpick
      have r0 := hb7.1.cell 0 rfl
      have r1 := hb7.1.free 0
      have oo := hb7.2.1.cell 0 rfl
      go_wp2
      exact bodyPost_ret (results_cell_row rfl _ _ w.heap.size 29 #[.slice (some ⟨b, 0, none⟩) l.length cb] (0, 0) _ rfl (hb7.1.set_ 0 (.slice (some ⟨b, 0, none⟩) l.length cb)) Try.underlying29 rfl (by kernel_rfl)) rfl (hb7.post hgl (by omega) (by rw [List.length_set]; omega) (by rw [List.length_set]; omega))
    · have hrel0 : ∃ (v : Value) (l : List (Int × Value × List Fld)), 1 ≤ l.length ∧ l.length ≤ 7 ∧ BInv w B g a len cap z 18 O v l w4 := ⟨_, l, hl1, by omega, hb4⟩
      clear hxm hm hl0 hl1 hl3 hb4
      go_wp2_with fail
      go_loopw [] (fun wr => ∃ (v : Value) (l : List (Int × Value × List Fld)), 1 ≤ l.length ∧ l.length ≤ 7 ∧ BInv w B g a len cap z 18 O v l wr) (fun wr => 7 - lenC (wr.cell? ⟨O, 0, none⟩))
      case atStart => exact hrel0
      case round =>
        obtain ⟨v, l, hl1, hl7, hrel⟩ := hrel
        obtain ⟨b, cb, rfl⟩ : ∃ b cb, v = .slice (some ⟨b, 0, none⟩) l.length cb := by
          obtain ⟨U, hU⟩ := hrel.2.2.1
          obtain ⟨b, cb, e, _⟩ := hU.form (by omega)
          exact ⟨b, cb, e⟩
        have o4 := hrel.2.1.cell 0 rfl
        have hdb := d_Below wr.drew hrel.2.2.2.2.2.2.1.drew 2 (by omega) (by omega)
        rw [hiB_pos (by omega)] at hdb
        go_wp2_with fail
        refine wp_region_held_drew (S := fun w' => w'.cell? ⟨O, 0, none⟩ = some (.slice (some ⟨b, 0, none⟩) l.length cb)) (by kernel_rfl) (o4) (fun hHeld => ?_)
        refine wpAnyH_take (i := 0) (oi := { dst := some 54, op := Op.fieldAddr 29 (Operand.tmp 3) 0, type := 0, pos := _, after := #[], guard := none }) (v := ?_) rfl (by kernel_rfl) (by kernel_rfl) (by kernel_rfl) (fun _ _ _ h => h) (Or.inl ⟨by kernel_rfl, ?_⟩) (by assumption) ?_
        rotate_left
        · intro w hSw; have z0 := hSw; go_simp; first | done | (with_reducible rfl) | (rw [if_neg (by omega)])
        try simp only [Act.put, List.setIfInBounds_toArray, List.set_cons_zero, List.set_cons_succ]
        refine wpAnyH_take (i := 1) (oi := { dst := some 55, op := Op.load 27 (Operand.tmp 54), type := 27, pos := _, after := #[{ on := 0, ground := Ground.data }], guard := none }) (v := ?_) rfl (by kernel_rfl) (by kernel_rfl) (by kernel_rfl) (fun _ _ _ h => h) (Or.inl ⟨by kernel_rfl, ?_⟩) (by assumption) ?_
        rotate_left
        · intro w hSw; have z0 := hSw; go_simp; first | done | (with_reducible rfl) | (rw [if_neg (by omega)])
        try simp only [Act.put, List.setIfInBounds_toArray, List.set_cons_zero, List.set_cons_succ]
        refine wpAnyH_take (i := 2) (oi := { dst := some 56, op := Op.call { callee := Callee.builtin Builtin.len, args := #[Operand.tmp 55], argTypes := #[27] }, type := 3, pos := _, after := #[{ on := 1, ground := Ground.data }], guard := none }) (v := ?_) rfl (by kernel_rfl) (by kernel_rfl) (by kernel_rfl) (fun _ _ _ h => h) (Or.inl ⟨by kernel_rfl, ?_⟩) (by assumption) ?_
        rotate_left
        · intro w hSw; have z0 := hSw; go_simp; first | done | (with_reducible rfl) | (rw [if_neg (by omega)])
        try simp only [Act.put, List.setIfInBounds_toArray, List.set_cons_zero, List.set_cons_succ]
        refine wpAnyH_take (i := 3) (oi := { dst := some 57, op := Op.move (Operand.tmp 0), type := 66, pos := _, after := #[], guard := none }) (v := ?_) rfl (by kernel_rfl) (by kernel_rfl) (by kernel_rfl) (fun _ _ _ h => h) (Or.inl ⟨by kernel_rfl, ?_⟩) (by assumption) ?_
        rotate_left
        · intro w hSw; have z0 := hSw; go_simp; first | done | (with_reducible rfl) | (rw [if_neg (by omega)])
        try simp only [Act.put, List.setIfInBounds_toArray, List.set_cons_zero, List.set_cons_succ]
        refine wpAnyH_ready (rs := [4]) (by kernel_rfl) (by simp) ?_
        refine AllReadyH.cons (o := { dst := some 58, op := Op.call { callee := Callee.value (Operand.func 55), args := #[Operand.tmp 57, Operand.const (Value.int IntKind.i64 2)], argTypes := #[66, 3] }, type := 3, pos := _, after := #[{ on := 3, ground := Ground.data }], guard := none }) rfl (fun K hK => ?_) AllReadyH.nil
        rw [if_pos (by kernel_rfl)]
        go_simp
        refine hdb.mono ?_
        rintro e w6 ⟨q, hq0, hq1, rfl, hc6, hg6⟩
        have hb6 := (hrel.below (Below.refl _ _).drew).drawn hgl hc6 hg6
        have hwq : IntKind.i64.wrap (6 + q) = 6 + q := IntWalk.i64_in _ (by omega)
        refine hK.out _ _ (hb6.2.1.cell 0 rfl) (fun _ => ?_)
        clear hK K
        try simp only [Act.put, List.setIfInBounds_toArray, List.set_cons_zero, List.set_cons_succ]
        refine wpAnyH_take (i := 5) (oi := { dst := some 59, op := Op.binOp BinOp.add 3 (Operand.const (Value.int IntKind.i64 6)) (Operand.tmp 58) 3, type := 3, pos := _, after := #[{ on := 4, ground := Ground.data }], guard := none }) (v := ?_) rfl (by kernel_rfl) (by kernel_rfl) (by kernel_rfl) (fun _ _ _ h => h) (Or.inl ⟨by kernel_rfl, ?_⟩) (by assumption) ?_
        rotate_left
        · intro w hSw; have z0 := hSw; go_simp; first | done | (with_reducible rfl) | (rw [if_neg (by omega)])
        try simp only [Act.put, List.setIfInBounds_toArray, List.set_cons_zero, List.set_cons_succ]
        refine wpAnyH_take (i := 6) (oi := { dst := some 60, op := Op.binOp BinOp.lss 3 (Operand.tmp 56) (Operand.tmp 59) 3, type := 4, pos := _, after := #[{ on := 2, ground := Ground.data }, { on := 5, ground := Ground.data }], guard := none }) (v := ?_) rfl (by kernel_rfl) (by kernel_rfl) (by kernel_rfl) (fun _ _ _ h => h) (Or.inl ⟨by kernel_rfl, ?_⟩) (by assumption) ?_
        rotate_left
        · intro w hSw; have z0 := hSw; go_simp; first | done | (with_reducible rfl) | (rw [if_neg (by omega)])
        try simp only [Act.put, List.setIfInBounds_toArray, List.set_cons_zero, List.set_cons_succ]
        refine wpAnyH_done (by kernel_rfl) ?_ _
        clear hdb hwq
        have o6 := hb6.2.1.cell 0 rfl
        by_cases hlt : (l.length : Int) < 6 + q
        · have hBa : Below w6.heap.size w6 (w6.alloc (.cells #[.int .i64 (20 + (l.length : Int)), .slice none 0 0] 45)) := (Below.refl _ _).alloc (Nat.le_refl _) _
          obtain ⟨xs, hxs0, hxs⟩ := (hb6.below hBa).2.2.1.choose_spec.2.1
          have HXS := Lib.hid hxs
          clear hxs
          have o7 := (hb6.below hBa).2.1.cell 0 rfl
          have hsz : w.heap.size + 1 ≤ w6.heap.size := by have := hb6.1.lt; omega
          go_wp2_with (first | (at_builtin; go_loud (refine wpList_append_lies _ rfl _ _ 27 rfl (w.heap.size + 1) 45 ti _ 2 32 Try.underlying27 hi0 hz0 hz1 hz2 rfl (by decide) (.slice (some ⟨b, 0, none⟩) l.length cb) l.length xs rfl hxs0 ⟨w6.heap.size, 0, none⟩ 1 1 [.int .i64 (20 + (l.length : Int)), .slice none 0 0] rfl rfl (World.news_of_block (heap_alloc_new w6 _)) (by intro u hu; simp at hu; rcases hu with rfl | rfl <;> rfl) (by omega) (by unfold maxLen; omega) (by omega) (by simp; omega) (w6.heap.size + 1) (by simp) ?_; intro p cp w7 hown hgr hor hlp; have hP := hb6.pushed hgl hBa hxs0 HXS.out hown hgr (by simpa using hor) hlp; have p0 := hP.1.cell 0 rfl; have p1 := hP.1.free 0)))
          go_roundw
          case rel => exact ⟨_, _, by simp, by simp; omega, hP.2⟩
          case measure =>
            have e1 : (w7.setCell ⟨O, 0, none⟩ (.slice (some ⟨p, 0, none⟩) (l.length + 1) cp)).cell? ⟨O, 0, none⟩ = some (.slice (some ⟨p, 0, none⟩) (l.length + 1) cp) := hP.2.2.1.cell 0 rfl
            have e2 : wr.cell? ⟨O, 0, none⟩ = some (.slice (some ⟨b, 0, none⟩) l.length cb) := o4
            rw [e1, e2]
            show 7 - (l.length + 1) < 7 - l.length
            omega
        · have r0 := hb6.1.cell 0 rfl
          have r1 := hb6.1.free 0
          have oo := hb6.2.1.cell 0 rfl
          go_wp2
          exact bodyPost_ret (results_cell_row rfl _ _ w.heap.size 29 #[.slice (some ⟨b, 0, none⟩) l.length cb] (0, 0) _ rfl (hb6.1.set_ 0 (.slice (some ⟨b, 0, none⟩) l.length cb)) Try.underlying29 rfl (by kernel_rfl)) rfl (hb6.post hgl (by omega) (by omega) (by omega))
    · have HLM := Lib.hid hxm
      clear hxm
      go_wp2_with fail
      go_loopw [5] (fun k wr => ∃ (J : Nat) (l' : List (Int × Value × List Fld)), J ≤ 9 ∧ k = .int .i64 J ∧ Hid (l'.length = l.length) ∧ BInv w B g a len cap z (18 + J) O (.slice (some ⟨b, 0, none⟩) l.length cb) l' wr) (fun k _ => 10 - (intOf k).toNat)
      case atStart => exact ⟨0, l, Nat.zero_le _, rfl, Lib.hid rfl, hb4⟩
      case round =>
        obtain ⟨J, l', hJ, rfl, HL', hrel⟩ := hrel
        go_wp2_with fail
        refine (d_Below _ hrel.2.2.2.2.2.2.1 2 (by omega) (by omega)).mono ?_
        rintro e w6 ⟨q, hq0, hq1, rfl, hc6, hg6⟩
        rw [hiB_pos (by omega)] at hq1
        have hb6 := hrel.drawn hgl hc6 hg6
        clear hc6 hg6 hrel
        have o6 := hb6.2.1.cell 0 rfl
        by_cases hlt : (J : Int) < 8 + q
        · obtain ⟨ent', hxm'⟩ : ∃ x, l'[m]? = some x := ⟨_, List.getElem?_eq_getElem (by rw [HL'.out]; omega)⟩
          obtain ⟨⟨_, i1, _, _⟩, hfr⟩ := hb6.cells hxm'
          obtain ⟨id, fv, fs⟩ := ent'
          simp only at i1 hfr
          have hfr' := hfr
          obtain ⟨fa, fc, rfl, hfc⟩ := hfr.shape
          have hfl : fs.length ≤ 18 + J := hb6.2.2.2.2.2.1 m _ hxm'
          have hB1 : Below w6.heap.size w6 (w6.alloc (.cells #[.int .i64 (100 + (J : Int)), .int .i64 1, .bool false, .bool false, .int .i64 0] 50)).drew := ((Below.refl _ _).alloc (Nat.le_refl _) _).drew
          have hWs : ((w6.alloc (.cells #[.int .i64 (100 + (J : Int)), .int .i64 1, .bool false, .bool false, .int .i64 0] 50)).drew).heap.size = w6.heap.size + 1 := by simp
          have hba := hb6.below hB1
          have oa := hba.2.1.cell 0 rfl
          obtain ⟨⟨_, ia0, _, _⟩, _⟩ := hba.cells hxm'
          have ia : (w6.alloc (.cells #[.int .i64 (100 + (J : Int)), .int .i64 1, .bool false, .bool false, .int .i64 0] 50)).cell? ⟨b, m * 2 + 1, none⟩ = some (.slice fa fs.length fc) := ia0
          have hsz : w.heap.size + 1 ≤ w6.heap.size := by have := hb6.1.lt; omega
          obtain ⟨ys, hys0, hys⟩ := hfr'
          have hysW := own_keep (w' := (w6.alloc (.cells #[.int .i64 (100 + (J : Int)), .int .i64 1, .bool false, .bool false, .int .i64 0] 50)).drew) hys0 (fun k hk => hB1.block k (hys0.lt k hk).2)
          have HN2 := Lib.hid (World.news_of_block (w := (w6.alloc (.cells #[.int .i64 (100 + (J : Int)), .int .i64 1, .bool false, .bool false, .int .i64 0] 50)).drew) (heap_alloc_new w6 (.cells #[.int .i64 (100 + (J : Int)), .int .i64 1, .bool false, .bool false, .int .i64 0] 50)))
          have HYS := Lib.hid hys
          have HXM := Lib.hid hxm'
          have hwk : IntKind.i64.wrap (100 + (J : Int)) = 100 + (J : Int) := IntWalk.i64_in _ (by omega)
          clear hys hxm'
          go_wp2_with fail
          refine wp_region_held_drew (S := fun w' => w'.cell? ⟨O, 0, none⟩ = some (.slice (some ⟨b, 0, none⟩) l.length cb)) (by kernel_rfl) (o6) (fun hHeld => ?_)
          refine wpAnyH_take (i := 0) (oi := { dst := some 26, op := Op.fieldAddr 29 (Operand.tmp 3) 0, type := 0, pos := _, after := #[], guard := none }) (v := ?_) rfl (by kernel_rfl) (by kernel_rfl) (by kernel_rfl) (fun _ _ _ h => h) (Or.inl ⟨by kernel_rfl, ?_⟩) (by assumption) ?_
          rotate_left
          · intro w hSw; have z0 := hSw; go_simp; first | done | (with_reducible rfl) | (rw [if_neg (by omega)])
          try simp only [Act.put, List.setIfInBounds_toArray, List.set_cons_zero, List.set_cons_succ]
          refine wpAnyH_take (i := 1) (oi := { dst := some 27, op := Op.load 27 (Operand.tmp 26), type := 27, pos := _, after := #[{ on := 0, ground := Ground.data }], guard := none }) (v := ?_) rfl (by kernel_rfl) (by kernel_rfl) (by kernel_rfl) (fun _ _ _ h => h) (Or.inl ⟨by kernel_rfl, ?_⟩) (by assumption) ?_
          rotate_left
          · intro w hSw; have z0 := hSw; go_simp; first | done | (with_reducible rfl) | (rw [if_neg (by omega)])
          try simp only [Act.put, List.setIfInBounds_toArray, List.set_cons_zero, List.set_cons_succ]
          refine wpAnyH_take (i := 2) (oi := { dst := some 28, op := Op.move (Operand.tmp 4), type := 3, pos := _, after := #[], guard := none }) (v := ?_) rfl (by kernel_rfl) (by kernel_rfl) (by kernel_rfl) (fun _ _ _ h => h) (Or.inl ⟨by kernel_rfl, ?_⟩) (by assumption) ?_
          rotate_left
          · intro w hSw; have z0 := hSw; go_simp; first | done | (with_reducible rfl) | (rw [if_neg (by omega)])
          try simp only [Act.put, List.setIfInBounds_toArray, List.set_cons_zero, List.set_cons_succ]
          refine wpAnyH_take (i := 3) (oi := { dst := some 29, op := Op.fieldAddr 29 (Operand.tmp 3) 0, type := 0, pos := _, after := #[], guard := none }) (v := ?_) rfl (by kernel_rfl) (by kernel_rfl) (by kernel_rfl) (fun _ _ _ h => h) (Or.inl ⟨by kernel_rfl, ?_⟩) (by assumption) ?_
          rotate_left
          · intro w hSw; have z0 := hSw; go_simp; first | done | (with_reducible rfl) | (rw [if_neg (by omega)])
          try simp only [Act.put, List.setIfInBounds_toArray, List.set_cons_zero, List.set_cons_succ]
          refine wpAnyH_take (i := 4) (oi := { dst := some 30, op := Op.load 27 (Operand.tmp 29), type := 27, pos := _, after := #[{ on := 3, ground := Ground.data }], guard := none }) (v := ?_) rfl (by kernel_rfl) (by kernel_rfl) (by kernel_rfl) (fun _ _ _ h => h) (Or.inl ⟨by kernel_rfl, ?_⟩) (by assumption) ?_
          rotate_left
          · intro w hSw; have z0 := hSw; go_simp; first | done | (with_reducible rfl) | (rw [if_neg (by omega)])
          try simp only [Act.put, List.setIfInBounds_toArray, List.set_cons_zero, List.set_cons_succ]
          refine wpAnyH_take (i := 5) (oi := { dst := some 31, op := Op.move (Operand.tmp 4), type := 3, pos := _, after := #[], guard := none }) (v := ?_) rfl (by kernel_rfl) (by kernel_rfl) (by kernel_rfl) (fun _ _ _ h => h) (Or.inl ⟨by kernel_rfl, ?_⟩) (by assumption) ?_
          rotate_left
          · intro w hSw; have z0 := hSw; go_simp; first | done | (with_reducible rfl) | (rw [if_neg (by omega)])
          try simp only [Act.put, List.setIfInBounds_toArray, List.set_cons_zero, List.set_cons_succ]
          refine wpAnyH_take (i := 6) (oi := { dst := some 32, op := Op.indexAddr 27 (Operand.tmp 30) (Operand.tmp 31), type := 0, pos := _, after := #[{ on := 4, ground := Ground.data }, { on := 5, ground := Ground.data }], guard := none }) (v := ?_) rfl (by kernel_rfl) (by kernel_rfl) (by kernel_rfl) (fun _ _ _ h => h) (Or.inl ⟨by kernel_rfl, ?_⟩) (by assumption) ?_
          rotate_left
          · intro w hSw; have z0 := hSw; go_simp; first | done | (with_reducible rfl) | (rw [if_neg (by omega)])
          try simp only [Act.put, List.setIfInBounds_toArray, List.set_cons_zero, List.set_cons_succ]
          refine wpAnyH_take (i := 7) (oi := { dst := some 33, op := Op.fieldAddr 45 (Operand.tmp 32) 1, type := 0, pos := _, after := #[{ on := 6, ground := Ground.data }], guard := none }) (v := ?_) rfl (by kernel_rfl) (by kernel_rfl) (by kernel_rfl) (fun _ _ _ h => h) (Or.inl ⟨by kernel_rfl, ?_⟩) (by assumption) ?_
          rotate_left
          · intro w hSw; have z0 := hSw; go_simp; first | done | (with_reducible rfl) | (rw [if_neg (by omega)])
          try simp only [Act.put, List.setIfInBounds_toArray, List.set_cons_zero, List.set_cons_succ]
          refine wpAnyH_take (i := 9) (oi := { dst := some 35, op := Op.move (Operand.tmp 5), type := 3, pos := _, after := #[], guard := none }) (v := ?_) rfl (by kernel_rfl) (by kernel_rfl) (by kernel_rfl) (fun _ _ _ h => h) (Or.inl ⟨by kernel_rfl, ?_⟩) (by assumption) ?_
          rotate_left
          · intro w hSw; have z0 := hSw; go_simp; first | done | (with_reducible rfl) | (rw [if_neg (by omega)])
          try simp only [Act.put, List.setIfInBounds_toArray, List.set_cons_zero, List.set_cons_succ]
          refine wpAnyH_take (i := 10) (oi := { dst := some 36, op := Op.binOp BinOp.add 3 (Operand.const (Value.int IntKind.i64 100)) (Operand.tmp 35) 3, type := 3, pos := _, after := #[{ on := 9, ground := Ground.data }], guard := none }) (v := ?_) rfl (by kernel_rfl) (by kernel_rfl) (by kernel_rfl) (fun _ _ _ h => h) (Or.inl ⟨by kernel_rfl, ?_⟩) (by assumption) ?_
          rotate_left
          · intro w hSw; have z0 := hSw; go_simp; first | done | (with_reducible rfl) | (rw [if_neg (by omega)])
          try simp only [Act.put, List.setIfInBounds_toArray, List.set_cons_zero, List.set_cons_succ]
          refine wpAnyH_take (i := 11) (oi := { dst := some 37, op := Op.build 50 #[(0, Operand.tmp 36), (1, Operand.const (Value.int IntKind.i64 1))], type := 50, pos := _, after := #[{ on := 10, ground := Ground.data }], guard := none }) (v := ?_) rfl (by kernel_rfl) (by kernel_rfl) (by kernel_rfl) (fun _ _ _ h => h) (Or.inl ⟨by kernel_rfl, ?_⟩) (by assumption) ?_
          rotate_left
          · intro w hSw; have z0 := hSw; go_simp; first | done | (with_reducible rfl) | (rw [if_neg (by omega)])
          try simp only [Act.put, List.setIfInBounds_toArray, List.set_cons_zero, List.set_cons_succ]
          refine wpAnyH_ready (rs := [8, 12]) (by kernel_rfl) (by simp) ?_
          refine (AllReadyH.cons (o := { dst := some 34, op := Op.load 43 (Operand.tmp 33), type := 43, pos := _, after := #[{ on := 7, ground := Ground.data }], guard := none }) rfl (fun K hK => ?_) (AllReadyH.cons (o := { dst := some 38, op := Op.buildSlice 43 1 #[(0, Operand.tmp 37)], type := 43, pos := _, after := #[{ on := 11, ground := Ground.data }], guard := none }) rfl (fun K hK => ?_) AllReadyH.nil))
          · rw [if_pos (by kernel_rfl)]
            go_simp
            refine hK.out _ _ (by first | exact o6 | exact oa) (fun _ => ?_)
            clear hK K
            try simp only [Act.put, List.setIfInBounds_toArray, List.set_cons_zero, List.set_cons_succ]
            refine wpAnyH_ready (rs := [12]) (by kernel_rfl) (by simp) ?_
            refine AllReadyH.cons (o := { dst := some 38, op := Op.buildSlice 43 1 #[(0, Operand.tmp 37)], type := 43, pos := _, after := #[{ on := 11, ground := Ground.data }], guard := none }) rfl (fun K hK => ?_) AllReadyH.nil
            rw [if_pos (by kernel_rfl)]
            go_simp
            refine hK.out _ _ (by first | exact o6 | exact oa) (fun _ => ?_)
            clear hK K
            try simp only [Act.put, List.setIfInBounds_toArray, List.set_cons_zero, List.set_cons_succ]
            refine wpAnyH_ready (rs := [13]) (by kernel_rfl) (by simp) ?_
            refine AllReadyH.cons (o := { dst := some 39, op := Op.call { callee := Callee.builtin Builtin.append, args := #[Operand.tmp 34, Operand.tmp 38], argTypes := #[43, 43] }, type := 43, pos := _, after := #[{ on := 8, ground := Ground.data }, { on := 12, ground := Ground.data }], guard := none }) rfl (fun K hK => ?_) AllReadyH.nil
            rw [if_pos (by kernel_rfl)]
            clear hwk
            refine wp_append_lies _ (.tmp 34) (.tmp 38) 43 rfl (w.heap.size + 1) 50 tf _ 5 32 Try.underlying43 fi0 fz0 fz1 fz2 rfl (by decide) (.slice fa fs.length fc) fs.length ys rfl hysW ⟨w6.heap.size, 0, none⟩ 1 1 [.int .i64 (100 + (J : Int)), .int .i64 1, .bool false, .bool false, .int .i64 0] rfl rfl HN2.out (by intro u hu; simp at hu; rcases hu with rfl | rfl | rfl | rfl | rfl <;> rfl) (by omega) (by unfold maxLen; omega) (by omega) (by rw [hWs]; omega) (w6.heap.size + 1) hWs ?_
            intro qb cq w9 hown hgr hor hlq
            have hA := hb6.added hgl HXM.out hB1 hysW HYS.out (f := ⟨100 + (J : Int), 1, false, false, 0⟩) hown hgr (by rw [hWs]; exact hor) hlq (T' := 18 + (J + 1)) (by omega) (by omega)
            obtain ⟨⟨hA1, hA2, hA3⟩, hA5⟩ := hA
            refine hK.out _ _ (hA1.cell 0 rfl) (fun _ => ?_)
            clear hK K
            try simp only [Act.put, List.setIfInBounds_toArray, List.set_cons_zero, List.set_cons_succ]
            refine wpAnyH_take (i := 14) (oi := { dst := some 40, op := Op.indexAddr 27 (Operand.tmp 27) (Operand.tmp 28), type := 0, pos := _, after := #[{ on := 1, ground := Ground.data }, { on := 2, ground := Ground.data }, { on := 0, ground := Ground.phase }, { on := 1, ground := Ground.phase }, { on := 2, ground := Ground.phase }, { on := 3, ground := Ground.phase }, { on := 4, ground := Ground.phase }, { on := 5, ground := Ground.phase }, { on := 6, ground := Ground.phase }, { on := 7, ground := Ground.phase }, { on := 8, ground := Ground.phase }, { on := 9, ground := Ground.phase }, { on := 10, ground := Ground.phase }, { on := 11, ground := Ground.phase }, { on := 12, ground := Ground.phase }, { on := 13, ground := Ground.phase }], guard := none }) (v := ?_) rfl (by kernel_rfl) (by kernel_rfl) (by kernel_rfl) (fun _ _ _ h => h) (Or.inl ⟨by kernel_rfl, ?_⟩) (by assumption) ?_
            rotate_left
            · intro w hSw; have z0 := hSw; go_simp; first | done | (with_reducible rfl) | (rw [if_neg (by omega)])
            try simp only [Act.put, List.setIfInBounds_toArray, List.set_cons_zero, List.set_cons_succ]
            refine wpAnyH_take (i := 15) (oi := { dst := some 41, op := Op.fieldAddr 45 (Operand.tmp 40) 1, type := 0, pos := _, after := #[{ on := 14, ground := Ground.data }, { on := 0, ground := Ground.phase }, { on := 1, ground := Ground.phase }, { on := 2, ground := Ground.phase }, { on := 3, ground := Ground.phase }, { on := 4, ground := Ground.phase }, { on := 5, ground := Ground.phase }, { on := 6, ground := Ground.phase }, { on := 7, ground := Ground.phase }, { on := 8, ground := Ground.phase }, { on := 9, ground := Ground.phase }, { on := 10, ground := Ground.phase }, { on := 11, ground := Ground.phase }, { on := 12, ground := Ground.phase }, { on := 13, ground := Ground.phase }], guard := none }) (v := ?_) rfl (by kernel_rfl) (by kernel_rfl) (by kernel_rfl) (fun _ _ _ h => h) (Or.inl ⟨by kernel_rfl, ?_⟩) (by assumption) ?_
            rotate_left
            · intro w hSw; have z0 := hSw; go_simp; first | done | (with_reducible rfl) | (rw [if_neg (by omega)])
            try simp only [Act.put, List.setIfInBounds_toArray, List.set_cons_zero, List.set_cons_succ]
            refine wpAnyH_ready (rs := [16]) (by kernel_rfl) (by simp) ?_
            refine AllReadyH.cons (o := { dst := none, op := Op.store 43 (Operand.tmp 41) (Operand.tmp 39), type := 0, pos := _, after := #[{ on := 15, ground := Ground.data }, { on := 13, ground := Ground.data }, { on := 13, ground := Ground.chain }, { on := 0, ground := Ground.phase }, { on := 1, ground := Ground.phase }, { on := 2, ground := Ground.phase }, { on := 3, ground := Ground.phase }, { on := 4, ground := Ground.phase }, { on := 5, ground := Ground.phase }, { on := 6, ground := Ground.phase }, { on := 7, ground := Ground.phase }, { on := 8, ground := Ground.phase }, { on := 9, ground := Ground.phase }, { on := 10, ground := Ground.phase }, { on := 11, ground := Ground.phase }, { on := 12, ground := Ground.phase }, { on := 13, ground := Ground.phase }], guard := none }) rfl (fun K hK => ?_) AllReadyH.nil
            rw [if_pos (by kernel_rfl)]
            go_simp
            refine hK.out _ _ (hA5.2.1.cell 0 rfl) (fun _ => ?_)
            clear hK K
            try simp only [Act.put, List.setIfInBounds_toArray, List.set_cons_zero, List.set_cons_succ]
            refine wpAnyH_done (by kernel_rfl) ?_ _
            go_wp2
            go_roundw
            case rel => exact ⟨J + 1, _, by omega, by go_num, Lib.hid (by rw [List.length_set]; exact HL'.out), hA5⟩
            case measure => simp [intOf]; omega
          · rw [if_pos (by kernel_rfl)]
            go_simp
            refine hK.out _ _ (by first | exact o6 | exact oa) (fun _ => ?_)
            clear hK K
            try simp only [Act.put, List.setIfInBounds_toArray, List.set_cons_zero, List.set_cons_succ]
            refine wpAnyH_ready (rs := [8]) (by kernel_rfl) (by simp) ?_
            refine AllReadyH.cons (o := { dst := some 34, op := Op.load 43 (Operand.tmp 33), type := 43, pos := _, after := #[{ on := 7, ground := Ground.data }], guard := none }) rfl (fun K hK => ?_) AllReadyH.nil
            rw [if_pos (by kernel_rfl)]
            go_simp
            refine hK.out _ _ (by first | exact o6 | exact oa) (fun _ => ?_)
            clear hK K
            try simp only [Act.put, List.setIfInBounds_toArray, List.set_cons_zero, List.set_cons_succ]
            refine wpAnyH_ready (rs := [13]) (by kernel_rfl) (by simp) ?_
            refine AllReadyH.cons (o := { dst := some 39, op := Op.call { callee := Callee.builtin Builtin.append, args := #[Operand.tmp 34, Operand.tmp 38], argTypes := #[43, 43] }, type := 43, pos := _, after := #[{ on := 8, ground := Ground.data }, { on := 12, ground := Ground.data }], guard := none }) rfl (fun K hK => ?_) AllReadyH.nil
            rw [if_pos (by kernel_rfl)]
            clear hwk
            refine wp_append_lies _ (.tmp 34) (.tmp 38) 43 rfl (w.heap.size + 1) 50 tf _ 5 32 Try.underlying43 fi0 fz0 fz1 fz2 rfl (by decide) (.slice fa fs.length fc) fs.length ys rfl hysW ⟨w6.heap.size, 0, none⟩ 1 1 [.int .i64 (100 + (J : Int)), .int .i64 1, .bool false, .bool false, .int .i64 0] rfl rfl HN2.out (by intro u hu; simp at hu; rcases hu with rfl | rfl | rfl | rfl | rfl <;> rfl) (by omega) (by unfold maxLen; omega) (by omega) (by rw [hWs]; omega) (w6.heap.size + 1) hWs ?_
            intro qb cq w9 hown hgr hor hlq
            have hA := hb6.added hgl HXM.out hB1 hysW HYS.out (f := ⟨100 + (J : Int), 1, false, false, 0⟩) hown hgr (by rw [hWs]; exact hor) hlq (T' := 18 + (J + 1)) (by omega) (by omega)
            obtain ⟨⟨hA1, hA2, hA3⟩, hA5⟩ := hA
            refine hK.out _ _ (hA1.cell 0 rfl) (fun _ => ?_)
            clear hK K
            try simp only [Act.put, List.setIfInBounds_toArray, List.set_cons_zero, List.set_cons_succ]
            refine wpAnyH_take (i := 14) (oi := { dst := some 40, op := Op.indexAddr 27 (Operand.tmp 27) (Operand.tmp 28), type := 0, pos := _, after := #[{ on := 1, ground := Ground.data }, { on := 2, ground := Ground.data }, { on := 0, ground := Ground.phase }, { on := 1, ground := Ground.phase }, { on := 2, ground := Ground.phase }, { on := 3, ground := Ground.phase }, { on := 4, ground := Ground.phase }, { on := 5, ground := Ground.phase }, { on := 6, ground := Ground.phase }, { on := 7, ground := Ground.phase }, { on := 8, ground := Ground.phase }, { on := 9, ground := Ground.phase }, { on := 10, ground := Ground.phase }, { on := 11, ground := Ground.phase }, { on := 12, ground := Ground.phase }, { on := 13, ground := Ground.phase }], guard := none }) (v := ?_) rfl (by kernel_rfl) (by kernel_rfl) (by kernel_rfl) (fun _ _ _ h => h) (Or.inl ⟨by kernel_rfl, ?_⟩) (by assumption) ?_
            rotate_left
            · intro w hSw; have z0 := hSw; go_simp; first | done | (with_reducible rfl) | (rw [if_neg (by omega)])
            try simp only [Act.put, List.setIfInBounds_toArray, List.set_cons_zero, List.set_cons_succ]
            refine wpAnyH_take (i := 15) (oi := { dst := some 41, op := Op.fieldAddr 45 (Operand.tmp 40) 1, type := 0, pos := _, after := #[{ on := 14, ground := Ground.data }, { on := 0, ground := Ground.phase }, { on := 1, ground := Ground.phase }, { on := 2, ground := Ground.phase }, { on := 3, ground := Ground.phase }, { on := 4, ground := Ground.phase }, { on := 5, ground := Ground.phase }, { on := 6, ground := Ground.phase }, { on := 7, ground := Ground.phase }, { on := 8, ground := Ground.phase }, { on := 9, ground := Ground.phase }, { on := 10, ground := Ground.phase }, { on := 11, ground := Ground.phase }, { on := 12, ground := Ground.phase }, { on := 13, ground := Ground.phase }], guard := none }) (v := ?_) rfl (by kernel_rfl) (by kernel_rfl) (by kernel_rfl) (fun _ _ _ h => h) (Or.inl ⟨by kernel_rfl, ?_⟩) (by assumption) ?_
            rotate_left
            · intro w hSw; have z0 := hSw; go_simp; first | done | (with_reducible rfl) | (rw [if_neg (by omega)])
            try simp only [Act.put, List.setIfInBounds_toArray, List.set_cons_zero, List.set_cons_succ]
            refine wpAnyH_ready (rs := [16]) (by kernel_rfl) (by simp) ?_
            refine AllReadyH.cons (o := { dst := none, op := Op.store 43 (Operand.tmp 41) (Operand.tmp 39), type := 0, pos := _, after := #[{ on := 15, ground := Ground.data }, { on := 13, ground := Ground.data }, { on := 13, ground := Ground.chain }, { on := 0, ground := Ground.phase }, { on := 1, ground := Ground.phase }, { on := 2, ground := Ground.phase }, { on := 3, ground := Ground.phase }, { on := 4, ground := Ground.phase }, { on := 5, ground := Ground.phase }, { on := 6, ground := Ground.phase }, { on := 7, ground := Ground.phase }, { on := 8, ground := Ground.phase }, { on := 9, ground := Ground.phase }, { on := 10, ground := Ground.phase }, { on := 11, ground := Ground.phase }, { on := 12, ground := Ground.phase }, { on := 13, ground := Ground.phase }], guard := none }) rfl (fun K hK => ?_) AllReadyH.nil
            rw [if_pos (by kernel_rfl)]
            go_simp
            refine hK.out _ _ (hA5.2.1.cell 0 rfl) (fun _ => ?_)
            clear hK K
            try simp only [Act.put, List.setIfInBounds_toArray, List.set_cons_zero, List.set_cons_succ]
            refine wpAnyH_done (by kernel_rfl) ?_ _
            go_wp2
            go_roundw
            case rel => exact ⟨J + 1, _, by omega, by go_num, Lib.hid (by rw [List.length_set]; exact HL'.out), hA5⟩
            case measure => simp [intOf]; omega
        · have r0 := hb6.1.cell 0 rfl
          have r1 := hb6.1.free 0
          have oo := hb6.2.1.cell 0 rfl
          go_wp2
          exact bodyPost_ret (results_cell_row rfl _ _ w.heap.size 29 #[.slice (some ⟨b, 0, none⟩) l.length cb] (0, 0) _ rfl (hb6.1.set_ 0 (.slice (some ⟨b, 0, none⟩) l.length cb)) Try.underlying29 rfl (by kernel_rfl)) rfl (hb6.post hgl (by omega) (by rw [HL'.out]; omega) (by rw [HL'.out]; omega))
  | false =>
    obtain ⟨⟨i0, i1, i2, i3⟩, hfr⟩ := hb3.cells hxm
    obtain ⟨id, fv, fs⟩ := ent
    simp only at i1 hfr
    obtain ⟨fa, fc, rfl, hfc⟩ := hfr.shape
    have o3 := hb3.2.1.cell 0 rfl
    have hfl : fs.length ≤ 18 := hb3.2.2.2.2.2.1 m _ hxm
    have HXM := Lib.hid hxm
    clear hxm
    by_cases hf0 : 0 < fs.length
    · have hfp : (0 : Int) < (fs.length : Int) := by omega
      go_wp2_with fail
      refine (d_Once _ hb3.2.2.2.2.2.2.1 2 (by omega) (by omega)).mono ?_
      rintro e w4 ⟨b2, rfl, hc4, hg4⟩
      have hb4 := hb3.drawn hgl hc4 hg4
      clear hc4 hg4
      cases b2 with
      | false =>
        have r0 := hb4.1.cell 0 rfl
        have r1 := hb4.1.free 0
        have oo := hb4.2.1.cell 0 rfl
        go_wp2
        exact bodyPost_ret (results_cell_row rfl _ _ w.heap.size 29 #[.slice (some ⟨b, 0, none⟩) l.length cb] (0, 0) _ rfl (hb4.1.set_ 0 (.slice (some ⟨b, 0, none⟩) l.length cb)) Try.underlying29 rfl (by kernel_rfl)) rfl (hb4.post hgl (by omega) (by omega) (by omega))
      | true =>
        clear i0 i1 i2 i3 o3 hfr hb3
        obtain ⟨⟨_, i1, _, _⟩, hfr⟩ := hb4.cells HXM.out
        have j1 : w4.cell? ⟨b, m * 2 + 1, none⟩ = some (.slice fa fs.length fc) := i1
        have o4 := hb4.2.1.cell 0 rfl
        have hdb := d_Below _ hb4.2.2.2.2.2.2.1 (fs.length : Int) (by omega) (by omega)
        rw [hiB_pos (by omega)] at hdb
        go_wp2_with fail
        refine hdb.mono ?_
        rintro e w5 ⟨k0, hk0, hk1, rfl, hc5, hg5⟩
        obtain ⟨k, rfl⟩ := Int.eq_ofNat_of_zero_le hk0
        have hb5 := hb4.drawn hgl hc5 hg5
        clear hc5 hg5 hdb i1 j1 o4 hfr hb4
        have hkl : (k : Int) < (fs.length : Int) := by omega
        have hkl0 : (0 : Int) ≤ (k : Int) := by omega
        obtain ⟨⟨_, i1, _, _⟩, hfr⟩ := hb5.cells HXM.out
        obtain ⟨p, fc', he, hpB, hplt, hfc'⟩ := FRow.form hfr hf0
        simp only [Value.slice.injEq] at he
        obtain ⟨rfl, _, rfl⟩ := he
        have j1 : w5.cell? ⟨b, m * 2 + 1, none⟩ = some (.slice (some ⟨p, 0, none⟩) fs.length fc) := i1
        have o5 := hb5.2.1.cell 0 rfl
        obtain ⟨y, hy⟩ : ∃ y, fs[k]? = some y := ⟨_, List.getElem?_eq_getElem (by omega)⟩
        obtain ⟨y0, hy0⟩ : ∃ y, fs[0]? = some y := ⟨_, List.getElem?_eq_getElem hf0⟩
        have hcy := (FRow.cells hfr hy).1
        have y1 : w5.cell? ⟨p, k * 5, none⟩ = some (.int .i64 y.n) := hcy 0 _ rfl
        have y2 : w5.cell? ⟨p, k * 5 + 1, none⟩ = some (.int .i64 y.k) := hcy 1 _ rfl
        have y3 : w5.cell? ⟨p, k * 5 + 2, none⟩ = some (.bool y.r) := hcy 2 _ rfl
        have y4 : w5.cell? ⟨p, k * 5 + 3, none⟩ = some (.bool y.p) := hcy 3 _ rfl
        have y5 : w5.cell? ⟨p, k * 5 + 4, none⟩ = some (.int .i64 y.f) := hcy 4 _ rfl
        have HY0 := Lib.hid hy0
        clear hcy hy hy0
        have hoff : Off w5.heap.size (.slice (some ⟨b, 0, none⟩) l.length cb) l := by
          obtain ⟨U, hU⟩ := hb5.2.2.1
          exact Off.of_lt hU hU.1
        have hOw : O < w5.heap.size := hb5.2.1.lt
        have hRw : w.heap.size < w5.heap.size := hb5.1.lt
        have hbF : BInv w B g a len cap z 18 O (.slice (some ⟨b, 0, none⟩) l.length cb) l (w5.alloc (.cells y.arr 50)) := hb5.below ((Below.refl _ _).alloc (Nat.le_refl _) _)
        have hBF := Box.new w5 50 y.arr
        generalize hFd : w5.heap.size = F at hoff hOw hRw hBF
        have hFO : F ≠ O := by omega
        have hgF : some F ≠ some g := by simp; omega
        go_wp2_with fail
        refine (d_Below _ hbF.2.2.2.2.2.2.1 6 (by omega) (by omega)).mono ?_
        rintro e w6 ⟨x6, hx60, hx61, rfl, hc6, hg6⟩
        rw [hiB_pos (by omega)] at hx61
        have hb6 := hbF.drawn hgl hc6 hg6
        have hB6 := hBF.grown hg6 hgF
        have c0 : w6.cell? ⟨F, 0, none⟩ = some (.int .i64 y.n) := hB6.cell 0 rfl
        have c1 : w6.cell? ⟨F, 1, none⟩ = some (.int .i64 y.k) := hB6.cell 1 rfl
        have c2 : w6.cell? ⟨F, 2, none⟩ = some (.bool y.r) := hB6.cell 2 rfl
        have c3 : w6.cell? ⟨F, 3, none⟩ = some (.bool y.p) := hB6.cell 3 rfl
        have c4 : w6.cell? ⟨F, 4, none⟩ = some (.int .i64 y.f) := hB6.cell 4 rfl
        have e0 := hB6.free 0; have e1 := hB6.free 1; have e2 := hB6.free 2; have e3 := hB6.free 3; have e4 := hB6.free 4
        clear hc6 hg6 hbF hBF hb5 y1 y2 y3 y4 y5 o5 j1 i1 hfr
        go_upto_block 5 with (fail)
        go_cut [] (fun wx => ∃ f' : Fld, BInv w B g a len cap z 18 O (.slice (some ⟨b, 0, none⟩) l.length cb) l wx ∧ Box wx F 50 f'.arr)
        case first =>
          rcases (show x6 = 0 ∨ x6 = 1 ∨ x6 = 2 ∨ x6 = 3 ∨ x6 = 4 ∨ x6 = 5 by omega) with rfl | rfl | rfl | rfl | rfl | rfl
          · go_wp2_with fail
            refine (d_Number _ hb6.2.2.2.2.2.2.1).mono ?_
            rintro e w7 ⟨x7, hx70, hx71, rfl, hc7, hg7⟩
            have hb7 := hb6.drawn hgl hc7 hg7
            have hB7 := hB6.grown hg7 hgF
            have d0 : w7.cell? ⟨F, 0, none⟩ = some (.int .i64 y.n) := hB7.cell 0 rfl
            have d1 := hB7.free 0
            go_wp2
            go_meet
            case rel => exact ⟨⟨x7, y.k, y.r, y.p, y.f⟩, hb7.far hgl hRw hFO hoff 0 _, hB7.set_ 0 _⟩
          · go_wp2_with fail
            refine (d_Below _ hb6.2.2.2.2.2.2.1 11 (by omega) (by omega)).mono ?_
            rintro e w7 ⟨x7, hx70, hx71, rfl, hc7, hg7⟩
            rw [hiB_pos (by omega)] at hx71
            have hb7 := hb6.drawn hgl hc7 hg7
            have hB7 := hB6.grown hg7 hgF
            have d0 : w7.cell? ⟨F, 1, none⟩ = some (.int .i64 y.k) := hB7.cell 1 rfl
            have d1 := hB7.free 1
            go_wp2
            go_meet
            case rel => exact ⟨⟨y.n, x7 - 1, y.r, y.p, y.f⟩, hb7.far hgl hRw hFO hoff 1 _, hB7.set_ 1 _⟩
          · go_wp2
            go_meet
            case rel => exact ⟨⟨y.n, y.k, y.r, !y.p, y.f⟩, hb6.far hgl hRw hFO hoff 3 _, hB6.set_ 3 _⟩
          · go_wp2
            go_meet
            case rel => exact ⟨⟨y.n, y.k, !y.r, y.p, y.f⟩, hb6.far hgl hRw hFO hoff 2 _, hB6.set_ 2 _⟩
          · go_wp2_with fail
            refine (d_PickInt _ (hb6.2.2.2.2.2.2.1.alloc _) w6.heap.size 6 (by have := hb6.2.2.2.2.2.2.1.lt; omega) (by simp) (by omega) (by omega) (-1) 99 (fun j hj => by
              obtain ⟨v, ⟨x, h1, h2, rfl⟩, h3⟩ := pick_cells (P := fun v => ∃ x : Int, -1 ≤ x ∧ x ≤ 99 ∧ v = .int .i64 x) (w := w6) (t := 3) (cs := #[.int .i64 0, .int .i64 5, .int .i64 1, .int .i64 99, .int .i64 44, .int .i64 (-1)]) (n := 6) (fun j hj => by
                rcases (show j = 0 ∨ j = 1 ∨ j = 2 ∨ j = 3 ∨ j = 4 ∨ j = 5 by omega) with rfl | rfl | rfl | rfl | rfl | rfl
                all_goals exact ⟨_, ⟨_, by omega, by omega, rfl⟩, rfl⟩) j hj
              exact ⟨x, h1, h2, h3⟩)).mono ?_
            rintro e w7 ⟨x7, hx70, hx71, rfl, hc7, hg7⟩
            have hb7 := (hb6.below ((Below.refl _ _).alloc (Nat.le_refl _) _)).drawn hgl hc7 hg7
            have hB7 := (hB6.alloc (.cells #[.int .i64 0, .int .i64 5, .int .i64 1, .int .i64 99, .int .i64 44, .int .i64 (-1)] 3)).grown hg7 hgF
            have d0 : w7.cell? ⟨F, 4, none⟩ = some (.int .i64 y.f) := hB7.cell 4 rfl
            have d1 := hB7.free 4
            go_wp2
            go_meet
            case rel => exact ⟨⟨y.n, y.k, y.r, y.p, x7⟩, hb7.far hgl hRw hFO hoff 4 _, hB7.set_ 4 _⟩
          · obtain ⟨⟨_, i1, _, _⟩, hfr⟩ := hb6.cells HXM.out
            have j1 : w6.cell? ⟨b, m * 2 + 1, none⟩ = some (.slice (some ⟨p, 0, none⟩) fs.length fc) := i1
            have o6 := hb6.2.1.cell 0 rfl
            have hcy := (FRow.cells hfr HY0.out).1
            have y1 : w6.cell? ⟨p, 0, none⟩ = some (.int .i64 y0.n) := hcy 0 _ rfl
            have y2 : w6.cell? ⟨p, 1, none⟩ = some (.int .i64 y0.k) := hcy 1 _ rfl
            have y3 : w6.cell? ⟨p, 2, none⟩ = some (.bool y0.r) := hcy 2 _ rfl
            have y4 : w6.cell? ⟨p, 3, none⟩ = some (.bool y0.p) := hcy 3 _ rfl
            have y5 : w6.cell? ⟨p, 4, none⟩ = some (.int .i64 y0.f) := hcy 4 _ rfl
            clear hcy
            go_wp2
            go_meet
            case rel => exact ⟨y0, ((((hb6.far hgl hRw hFO hoff 0 _).far hgl hRw hFO hoff 1 _).far hgl hRw hFO hoff 2 _).far hgl hRw hFO hoff 3 _).far hgl hRw hFO hoff 4 _, ((((hB6.set_ 0 _).set_ 1 _).set_ 2 _).set_ 3 _).set_ 4 _⟩
        case rest =>
          obtain ⟨f', hb7, hB7⟩ := hcut
          clear c0 c1 c2 c3 c4 e0 e1 e2 e3 e4 hb6 hB6
          obtain ⟨⟨_, i1, _, _⟩, hfr⟩ := hb7.cells HXM.out
          have j1 : wc.cell? ⟨b, m * 2 + 1, none⟩ = some (.slice (some ⟨p, 0, none⟩) fs.length fc) := i1
          have o7 := hb7.2.1.cell 0 rfl
          have c0 : wc.cell? ⟨F, 0, none⟩ = some (.int .i64 f'.n) := hB7.cell 0 rfl
          have c1 : wc.cell? ⟨F, 1, none⟩ = some (.int .i64 f'.k) := hB7.cell 1 rfl
          have c2 : wc.cell? ⟨F, 2, none⟩ = some (.bool f'.r) := hB7.cell 2 rfl
          have c3 : wc.cell? ⟨F, 3, none⟩ = some (.bool f'.p) := hB7.cell 3 rfl
          have c4 : wc.cell? ⟨F, 4, none⟩ = some (.int .i64 f'.f) := hB7.cell 4 rfl
          obtain ⟨y', hy'⟩ : ∃ y, fs[k]? = some y := ⟨_, List.getElem?_eq_getElem (by omega)⟩
          obtain ⟨hcy, hfy⟩ := FRow.cells hfr hy'
          have y1 : wc.cell? ⟨p, k * 5, none⟩ = some (.int .i64 y'.n) := hcy 0 _ rfl
          have y2 : wc.cell? ⟨p, k * 5 + 1, none⟩ = some (.int .i64 y'.k) := hcy 1 _ rfl
          have y3 : wc.cell? ⟨p, k * 5 + 2, none⟩ = some (.bool y'.r) := hcy 2 _ rfl
          have y4 : wc.cell? ⟨p, k * 5 + 3, none⟩ = some (.bool y'.p) := hcy 3 _ rfl
          have y5 : wc.cell? ⟨p, k * 5 + 4, none⟩ = some (.int .i64 y'.f) := hcy 4 _ rfl
          have z1 : wc.frozen? ⟨p, k * 5, none⟩ = false := hfy 0
          have z2 := hfy 1; have z3 := hfy 2; have z4 := hfy 3; have z5 := hfy 4
          have hpF : p ≠ F := fun e => hoff.2 m _ HXM.out (by simp [Value.ownBlock, e])
          have hpO : p ≠ O := fun e => hb7.2.2.2.1.2 m _ HXM.out (by simp [Value.ownBlock, e])
          have hpb : b ≠ p := by
            obtain ⟨U, hU⟩ := hb7.2.2.1
            intro e
            exact (hU.2.2.1.2 m _ HXM.out p rfl).2.1 (by simp [Value.ownBlock, e])
          have hb8 := hb7.fived hgl HXM.out (k := k) (by omega) f'
          obtain ⟨X, hX⟩ : ∃ X, X = five wc p k f' := ⟨_, rfl⟩
          have hB8 : Box X F 50 f'.arr := by rw [hX]; exact hB7.keep (five_other wc p k f' F (fun e => hpF e.symm))
          have j8 : X.cell? ⟨b, m * 2 + 1, none⟩ = some (.slice (some ⟨p, 0, none⟩) fs.length fc) := by rw [hX]; exact (World.cell?_of_block (a := ⟨b, m * 2 + 1, none⟩) (five_other wc p k f' b hpb)).trans j1
          rw [← hX] at hb8
          have hb9 := hb8.below (Below.refl _ _).drew
          have hS8 : X.drew.cell? ⟨O, 0, none⟩ = some (.slice (some ⟨b, 0, none⟩) l.length cb) ∧ X.drew.cell? ⟨b, m * 2 + 1, none⟩ = some (.slice (some ⟨p, 0, none⟩) fs.length fc) ∧ X.drew.cell? ⟨F, 0, none⟩ = some (.int .i64 f'.n) ∧ X.drew.cell? ⟨F, 1, none⟩ = some (.int .i64 f'.k) ∧ X.drew.cell? ⟨F, 2, none⟩ = some (.bool f'.r) ∧ X.drew.cell? ⟨F, 3, none⟩ = some (.bool f'.p) ∧ X.drew.cell? ⟨F, 4, none⟩ = some (.int .i64 f'.f) :=
            ⟨hb8.2.1.cell 0 rfl, j8, hB8.cell 0 rfl, hB8.cell 1 rfl, hB8.cell 2 rfl, hB8.cell 3 rfl, hB8.cell 4 rfl⟩
          have HS8 := Lib.hid hS8
          unfold five at hX
          have HX := Lib.hid hX
          clear hX hS8 j8
          clear hcy hfy hy' i1 hfr hB8
          go_wp2_with fail
          refine wp_region_held_drew (S := fun w' => w'.cell? ⟨O, 0, none⟩ = some (.slice (some ⟨b, 0, none⟩) l.length cb) ∧ w'.cell? ⟨b, m * 2 + 1, none⟩ = some (.slice (some ⟨p, 0, none⟩) fs.length fc) ∧ w'.cell? ⟨F, 0, none⟩ = some (.int .i64 f'.n) ∧ w'.cell? ⟨F, 1, none⟩ = some (.int .i64 f'.k) ∧ w'.cell? ⟨F, 2, none⟩ = some (.bool f'.r) ∧ w'.cell? ⟨F, 3, none⟩ = some (.bool f'.p) ∧ w'.cell? ⟨F, 4, none⟩ = some (.int .i64 f'.f)) (by kernel_rfl) (⟨o7, j1, c0, c1, c2, c3, c4⟩) (fun hHeld => ?_)
          refine wpAnyH_take (i := 0) (oi := { dst := some 141, op := Op.fieldAddr 29 (Operand.tmp 3) 0, type := 0, pos := _, after := #[], guard := none }) (v := ?_) rfl (by kernel_rfl) (by kernel_rfl) (by kernel_rfl) (fun _ _ _ h => h) (Or.inl ⟨by kernel_rfl, ?_⟩) (by assumption) ?_
          rotate_left
          · intro w hSw; obtain ⟨x0, x1, x2, x3, x4, x5, x6⟩ := hSw; go_simp; first | done | (with_reducible rfl) | (rw [if_neg (by omega)])
          try simp only [Act.put, List.setIfInBounds_toArray, List.set_cons_zero, List.set_cons_succ]
          refine wpAnyH_take (i := 1) (oi := { dst := some 142, op := Op.load 27 (Operand.tmp 141), type := 27, pos := _, after := #[{ on := 0, ground := Ground.data }], guard := none }) (v := ?_) rfl (by kernel_rfl) (by kernel_rfl) (by kernel_rfl) (fun _ _ _ h => h) (Or.inl ⟨by kernel_rfl, ?_⟩) (by assumption) ?_
          rotate_left
          · intro w hSw; obtain ⟨x0, x1, x2, x3, x4, x5, x6⟩ := hSw; go_simp; first | done | (with_reducible rfl) | (rw [if_neg (by omega)])
          try simp only [Act.put, List.setIfInBounds_toArray, List.set_cons_zero, List.set_cons_succ]
          refine wpAnyH_take (i := 2) (oi := { dst := some 143, op := Op.move (Operand.tmp 4), type := 3, pos := _, after := #[], guard := none }) (v := ?_) rfl (by kernel_rfl) (by kernel_rfl) (by kernel_rfl) (fun _ _ _ h => h) (Or.inl ⟨by kernel_rfl, ?_⟩) (by assumption) ?_
          rotate_left
          · intro w hSw; obtain ⟨x0, x1, x2, x3, x4, x5, x6⟩ := hSw; go_simp; first | done | (with_reducible rfl) | (rw [if_neg (by omega)])
          try simp only [Act.put, List.setIfInBounds_toArray, List.set_cons_zero, List.set_cons_succ]
          refine wpAnyH_take (i := 3) (oi := { dst := some 144, op := Op.indexAddr 27 (Operand.tmp 142) (Operand.tmp 143), type := 0, pos := _, after := #[{ on := 1, ground := Ground.data }, { on := 2, ground := Ground.data }], guard := none }) (v := ?_) rfl (by kernel_rfl) (by kernel_rfl) (by kernel_rfl) (fun _ _ _ h => h) (Or.inl ⟨by kernel_rfl, ?_⟩) (by assumption) ?_
          rotate_left
          · intro w hSw; obtain ⟨x0, x1, x2, x3, x4, x5, x6⟩ := hSw; go_simp; first | done | (with_reducible rfl) | (rw [if_neg (by omega)])
          try simp only [Act.put, List.setIfInBounds_toArray, List.set_cons_zero, List.set_cons_succ]
          refine wpAnyH_take (i := 4) (oi := { dst := some 145, op := Op.fieldAddr 45 (Operand.tmp 144) 1, type := 0, pos := _, after := #[{ on := 3, ground := Ground.data }], guard := none }) (v := ?_) rfl (by kernel_rfl) (by kernel_rfl) (by kernel_rfl) (fun _ _ _ h => h) (Or.inl ⟨by kernel_rfl, ?_⟩) (by assumption) ?_
          rotate_left
          · intro w hSw; obtain ⟨x0, x1, x2, x3, x4, x5, x6⟩ := hSw; go_simp; first | done | (with_reducible rfl) | (rw [if_neg (by omega)])
          try simp only [Act.put, List.setIfInBounds_toArray, List.set_cons_zero, List.set_cons_succ]
          refine wpAnyH_take (i := 5) (oi := { dst := some 146, op := Op.load 43 (Operand.tmp 145), type := 43, pos := _, after := #[{ on := 4, ground := Ground.data }], guard := none }) (v := ?_) rfl (by kernel_rfl) (by kernel_rfl) (by kernel_rfl) (fun _ _ _ h => h) (Or.inl ⟨by kernel_rfl, ?_⟩) (by assumption) ?_
          rotate_left
          · intro w hSw; obtain ⟨x0, x1, x2, x3, x4, x5, x6⟩ := hSw; go_simp; first | done | (with_reducible rfl) | (rw [if_neg (by omega)])
          try simp only [Act.put, List.setIfInBounds_toArray, List.set_cons_zero, List.set_cons_succ]
          refine wpAnyH_take (i := 6) (oi := { dst := some 147, op := Op.move (Operand.tmp 6), type := 3, pos := _, after := #[], guard := none }) (v := ?_) rfl (by kernel_rfl) (by kernel_rfl) (by kernel_rfl) (fun _ _ _ h => h) (Or.inl ⟨by kernel_rfl, ?_⟩) (by assumption) ?_
          rotate_left
          · intro w hSw; obtain ⟨x0, x1, x2, x3, x4, x5, x6⟩ := hSw; go_simp; first | done | (with_reducible rfl) | (rw [if_neg (by omega)])
          try simp only [Act.put, List.setIfInBounds_toArray, List.set_cons_zero, List.set_cons_succ]
          refine wpAnyH_take (i := 7) (oi := { dst := some 148, op := Op.load 50 (Operand.tmp 7), type := 50, pos := _, after := #[], guard := none }) (v := ?_) rfl (by kernel_rfl) (by kernel_rfl) (by kernel_rfl) (fun _ _ _ h => h) (Or.inl ⟨by kernel_rfl, ?_⟩) (by assumption) ?_
          rotate_left
          · intro w hSw; obtain ⟨x0, x1, x2, x3, x4, x5, x6⟩ := hSw; go_simp; first | done | (with_reducible rfl) | (rw [if_neg (by omega)])
          try simp only [Act.put, List.setIfInBounds_toArray, List.set_cons_zero, List.set_cons_succ]
          refine wpAnyH_take (i := 8) (oi := { dst := some 149, op := Op.indexAddr 43 (Operand.tmp 146) (Operand.tmp 147), type := 0, pos := _, after := #[{ on := 5, ground := Ground.data }, { on := 6, ground := Ground.data }, { on := 0, ground := Ground.phase }, { on := 1, ground := Ground.phase }, { on := 2, ground := Ground.phase }, { on := 3, ground := Ground.phase }, { on := 4, ground := Ground.phase }, { on := 5, ground := Ground.phase }, { on := 6, ground := Ground.phase }, { on := 7, ground := Ground.phase }], guard := none }) (v := ?_) rfl (by kernel_rfl) (by kernel_rfl) (by kernel_rfl) (fun _ _ _ h => h) (Or.inl ⟨by kernel_rfl, ?_⟩) (by assumption) ?_
          rotate_left
          · intro w hSw; obtain ⟨x0, x1, x2, x3, x4, x5, x6⟩ := hSw; go_simp; first | done | (with_reducible rfl) | (rw [if_neg (by omega)])
          try simp only [Act.put, List.setIfInBounds_toArray, List.set_cons_zero, List.set_cons_succ]
          refine wpAnyH_ready (rs := [9]) (by kernel_rfl) (by simp) ?_
          refine AllReadyH.cons (o := { dst := none, op := Op.store 50 (Operand.tmp 149) (Operand.tmp 148), type := 0, pos := _, after := #[{ on := 8, ground := Ground.data }, { on := 7, ground := Ground.data }, { on := 0, ground := Ground.phase }, { on := 1, ground := Ground.phase }, { on := 2, ground := Ground.phase }, { on := 3, ground := Ground.phase }, { on := 4, ground := Ground.phase }, { on := 5, ground := Ground.phase }, { on := 6, ground := Ground.phase }, { on := 7, ground := Ground.phase }], guard := none }) rfl (fun K hK => ?_) AllReadyH.nil
          rw [if_pos (by kernel_rfl)]
          go_simp
          rw [← HX.out]
          refine hK.out _ _ HS8.out (fun _ => ?_)
          clear hK K
          try simp only [Act.put, List.setIfInBounds_toArray, List.set_cons_zero, List.set_cons_succ]
          refine wpAnyH_done (by kernel_rfl) ?_ _
          clear y1 y2 y3 y4 y5 z1 z2 z3 z4 z5 j1 c0 c1 c2 c3 c4 o7
          have r0 := hb8.1.cell 0 rfl
          have r1 := hb8.1.free 0
          have oo := hb8.2.1.cell 0 rfl
          go_wp2
          exact bodyPost_ret (results_cell_row rfl _ _ w.heap.size 29 #[.slice (some ⟨b, 0, none⟩) l.length cb] (0, 0) _ rfl (hb9.1.set_ 0 (.slice (some ⟨b, 0, none⟩) l.length cb)) Try.underlying29 rfl (by kernel_rfl)) rfl (hb9.post hgl (by omega) (by rw [List.length_set]; omega) (by rw [List.length_set]; omega))
    · have hfp : ¬ (0 : Int) < (fs.length : Int) := by omega
      have r0 := hb3.1.cell 0 rfl
      have r1 := hb3.1.free 0
      have oo := hb3.2.1.cell 0 rfl
      go_wp2
      exact bodyPost_ret (results_cell_row rfl _ _ w.heap.size 29 #[.slice (some ⟨b, 0, none⟩) l.length cb] (0, 0) _ rfl (hb3.1.set_ 0 (.slice (some ⟨b, 0, none⟩) l.length cb)) Try.underlying29 rfl (by kernel_rfl)) rfl (hb3.post hgl (by omega) (by omega) (by omega))
end Go.Proofs.Ytcoghgpgfaifaaa
