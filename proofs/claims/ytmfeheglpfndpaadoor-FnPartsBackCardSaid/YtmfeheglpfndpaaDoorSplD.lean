/- Contracts of the law's helpers over rows of strings. Conditions: the rows can be read. -/
import Derived.Test.YtmfeheglpfndpaaDoorSplC
import Derived.Test.YtmfeheglpfndpaaDoorDraw
namespace Go.Proofs.YtmfeheglpfndpaaDoor
open Go.RowKit
set_option linter.unusedVariables false
set_option linter.unusedSimpArgs false
theorem bdrewN (w : World) (n : Nat) : Below w.heap.size w (w.drewN n) := ⟨rfl, rfl, rfl, Nat.le_refl _, fun _ _ => rfl⟩
set_option maxHeartbeats 1000000 in
theorem cL_eqStringS (g1 g2 n c1 c2 : Nat) (l : List ByteArray) (w : World) (hn : l.length = n) (hle : n ≤ 9223372036854775807) (h1 : SAt w g1 l) (h2 : SAt w g2 l) :
    Calls Tryd.prog 9 #[.slice (some ⟨g1, 0, none⟩) n c1, .slice (some ⟨g2, 0, none⟩) n c2] w fun e w' => e = .returned (.bool true) ∧ Below w.heap.size w w' := by
  go_enter Tryd.func9, Tryd.ntmps9
  go_wp2_with fail
  go_loopw [5] (fun i wr => ∃ (k : Nat), k ≤ n ∧ i = .int .i64 k ∧ Below w.heap.size w wr) (fun i _ => n - (intOf i).toNat)
  case atStart => exact ⟨0, Nat.zero_le _, rfl, Below.refl _ _⟩
  case round =>
    obtain ⟨k, hk, rfl, hbel⟩ := hrel
    by_cases hlt : k < n
    · have hx : l[k]? = some l[k] := List.getElem?_eq_getElem (by omega)
      generalize l[k] = x at hx
      have q1 := bkeep (hbel.block g1 h1.1) (h1.2 k x hx)
      have q2 := bkeep (hbel.block g2 h2.1) (h2.2 k x hx)
      have hk0 : (k : Int) < (n : Int) := by omega
      have hk1 : (0 : Int) ≤ (k : Int) := by omega
      clear hx
      go_wp2_with fail
      go_quiet (fail)
      go_wp2
      go_roundw
      case rel => exact ⟨k + 1, by omega, by go_num, hbel.trans ((bdrewN _ _).mono hbel.size)⟩
      case measure => simp [intOf]; omega
    · obtain rfl : n = k := by omega
      go_wp2
      go_ret
      exact ⟨rfl, hbel⟩
/-- the marks from k on stand in the first j cells -/
def Marks (arr : Array Value) (n j k : Nat) : Prop := arr.size = n ∧ ∀ i, i < j → arr[i]? = some (.string (mtx (k + i)))
theorem Marks.next {arr : Array Value} {n j k : Nat} (h : Marks arr n j k) (hj : j < n) : Marks (arr.setIfInBounds j (.string (mtx (k + j)))) n (j + 1) k := by
  refine ⟨by rw [Array.size_setIfInBounds]; exact h.1, fun i hi => ?_⟩
  by_cases e : j = i
  · subst e
    exact Array.getElem?_setIfInBounds_self_of_lt (by rw [h.1]; exact hj)
  · rw [Array.getElem?_setIfInBounds_ne e]
    exact h.2 i (by omega)
/-- a row of marks -/
def MarkPost (g n k : Nat) (w : World) (e : Ending) (w' : World) : Prop := ∃ arr, e = .returned (.int .i64 ((k + n : Nat) : Int)) ∧ Box w' g 9 arr ∧ Marks arr n n k ∧ w.grownBy w' (some g)
set_option maxHeartbeats 1000000 in
theorem cL_markStringS (g n : Nat) (arr0 : Array Value) (k : Nat) (w : World) (hk0 : 0 < k) (hk : k + n ≤ 9223372036854775807) (hsz : arr0.size = n) (hb : Box w g 9 arr0) :
    Calls Tryd.prog 10 #[.slice (some ⟨g, 0, none⟩) n n, .int .i64 k] w (MarkPost g n k w) := by
  go_enter Tryd.func10, Tryd.ntmps10
  go_wp2_with fail
  go_loopw [1, 5] (fun kk i wr => ∃ (j : Nat) (arr : Array Value), j ≤ n ∧ kk = .int .i64 ((k + j : Nat) : Int) ∧ i = .int .i64 j ∧ Box wr g 9 arr ∧ Marks arr n j k ∧ w.grownBy wr (some g)) (fun _ i _ => n - (intOf i).toNat)
  case atStart => exact ⟨0, arr0, Nat.zero_le _, rfl, rfl, hb, ⟨hsz, fun i hi => absurd hi (Nat.not_lt_zero _)⟩, grown_refl _ _⟩
  case round =>
    obtain ⟨j, arr, hj, rfl, rfl, hbox, hm, hgr⟩ := hrel
    by_cases hlt : j < n
    · have hs := hm.1
      obtain ⟨u0, e0⟩ : ∃ u, arr[j]? = some u := ⟨_, Array.getElem?_eq_getElem (by omega)⟩
      have E0 := Lib.hid e0
      have HM := Lib.hid (hm.next hlt)
      have hgl := hbox.lt
      have hj0 : (j : Int) < (n : Int) := by omega
      have hc := fun w => cL_markText (k + j) (by omega) (by omega) w
      clear e0 hs hm
      go_wp2_with (go_at_call 16; refine (hc _).mono ?_; rintro e w2 ⟨rfl, hb2⟩; have hb3 := hbox.all hb2; have d0 := hb3.cell _ E0.out; have f0 := hb3.free j)
      go_roundw
      case rel => exact ⟨j + 1, _, by omega, by congr 1, by go_num, hb3.set_ j _, HM.out, grown_set (hgr.trans (grown_of_below hb2 _)) (.inl rfl) _⟩
      case measure => simp [intOf]; omega
    · obtain rfl : n = j := by omega
      have HM := Lib.hid hm
      clear hm
      go_wp2
      go_ret
      exact ⟨arr, rfl, hbox, HM.out, hgr⟩
set_option maxHeartbeats 1000000 in
theorem cL_heldStringS (g n : Nat) (arr : Array Value) (k : Nat) (w : World) (hk0 : 0 < k) (hk : k + n ≤ 9223372036854775807) (hb : Box w g 9 arr) (hm : Marks arr n n k) :
    Calls Tryd.prog 11 #[.slice (some ⟨g, 0, none⟩) n n, .int .i64 k] w fun e w' => e = .returned (.int .i64 ((k + n : Nat) : Int)) ∧ Below w.heap.size w w' := by
  have HM := Lib.hid hm
  clear hm
  go_enter Tryd.func11, Tryd.ntmps11
  go_wp2_with fail
  go_loopw [1, 5] (fun kk i wr => ∃ (j : Nat), j ≤ n ∧ kk = .int .i64 ((k + j : Nat) : Int) ∧ i = .int .i64 j ∧ Below w.heap.size w wr) (fun _ i _ => n - (intOf i).toNat)
  case atStart => exact ⟨0, Nat.zero_le _, rfl, rfl, Below.refl _ _⟩
  case round =>
    obtain ⟨j, hj, rfl, rfl, hbel⟩ := hrel
    have hbox := hb.all hbel
    have hgl := hbox.lt
    by_cases hlt : j < n
    · have q0 := hbox.cell j (HM.out.2 j hlt)
      have hj0 : (j : Int) < (n : Int) := by omega
      have hj1 : (0 : Int) ≤ (j : Int) := by omega
      have hc := fun w => cL_markText (k + j) (by omega) (by omega) w
      generalize mtx (k + j) = t at q0 hc
      go_wp2_with fail
      refine wp_region_held_drew (S := fun w' => w'.cell? ⟨g, j, none⟩ = some (.string t) ∧ Below w.heap.size w w') (by kernel_rfl) (⟨q0, hbel.drew⟩) (fun hHeld => ?_)
      refine wpAnyH_take (i := 0) (oi := { dst := some 12, op := Op.move (Operand.tmp 0), type := 26, pos := _, after := #[], guard := none }) (v := ?_) rfl (by kernel_rfl) (by kernel_rfl) (by kernel_rfl) (fun _ _ _ h => h) (Or.inl ⟨by kernel_rfl, ?_⟩) (by assumption) ?_
      rotate_left
      · intro w hSw; obtain ⟨z0, _⟩ := hSw; go_simp; first | done | (with_reducible rfl) | (rw [if_neg (by omega)])
      try simp only [Act.put, List.setIfInBounds_toArray, List.set_cons_zero, List.set_cons_succ]
      refine wpAnyH_take (i := 1) (oi := { dst := some 13, op := Op.move (Operand.tmp 5), type := 3, pos := _, after := #[], guard := none }) (v := ?_) rfl (by kernel_rfl) (by kernel_rfl) (by kernel_rfl) (fun _ _ _ h => h) (Or.inl ⟨by kernel_rfl, ?_⟩) (by assumption) ?_
      rotate_left
      · intro w hSw; obtain ⟨z0, _⟩ := hSw; go_simp; first | done | (with_reducible rfl) | (rw [if_neg (by omega)])
      try simp only [Act.put, List.setIfInBounds_toArray, List.set_cons_zero, List.set_cons_succ]
      refine wpAnyH_take (i := 2) (oi := { dst := some 14, op := Op.indexAddr 26 (Operand.tmp 12) (Operand.tmp 13), type := 0, pos := _, after := #[{ on := 0, ground := Ground.data }, { on := 1, ground := Ground.data }], guard := none }) (v := ?_) rfl (by kernel_rfl) (by kernel_rfl) (by kernel_rfl) (fun _ _ _ h => h) (Or.inl ⟨by kernel_rfl, ?_⟩) (by assumption) ?_
      rotate_left
      · intro w hSw; obtain ⟨z0, _⟩ := hSw; go_simp; first | done | (with_reducible rfl) | (rw [if_neg (by omega)])
      try simp only [Act.put, List.setIfInBounds_toArray, List.set_cons_zero, List.set_cons_succ]
      refine wpAnyH_take (i := 3) (oi := { dst := some 15, op := Op.load 9 (Operand.tmp 14), type := 9, pos := _, after := #[{ on := 2, ground := Ground.data }], guard := none }) (v := ?_) rfl (by kernel_rfl) (by kernel_rfl) (by kernel_rfl) (fun _ _ _ h => h) (Or.inl ⟨by kernel_rfl, ?_⟩) (by assumption) ?_
      rotate_left
      · intro w hSw; obtain ⟨z0, _⟩ := hSw; go_simp; first | done | (with_reducible rfl) | (rw [if_neg (by omega)])
      try simp only [Act.put, List.setIfInBounds_toArray, List.set_cons_zero, List.set_cons_succ]
      refine wpAnyH_take (i := 4) (oi := { dst := some 16, op := Op.move (Operand.tmp 1), type := 3, pos := _, after := #[], guard := none }) (v := ?_) rfl (by kernel_rfl) (by kernel_rfl) (by kernel_rfl) (fun _ _ _ h => h) (Or.inl ⟨by kernel_rfl, ?_⟩) (by assumption) ?_
      rotate_left
      · intro w hSw; obtain ⟨z0, _⟩ := hSw; go_simp; first | done | (with_reducible rfl) | (rw [if_neg (by omega)])
      try simp only [Act.put, List.setIfInBounds_toArray, List.set_cons_zero, List.set_cons_succ]
      refine wpAnyH_ready (rs := [5]) (by kernel_rfl) (by simp) ?_
      refine AllReadyH.cons (o := { dst := some 17, op := Op.call { callee := Callee.value (Operand.func 16), args := #[Operand.tmp 16], argTypes := #[3] }, type := 9, pos := _, after := #[{ on := 4, ground := Ground.data }], guard := none }) rfl (fun K hK => ?_) AllReadyH.nil
      rw [if_pos (by kernel_rfl)]
      go_simp
      go_at_call 16
      refine (hc _).mono ?_
      rintro e w2 ⟨rfl, hb2⟩
      have B2 := hbel.drew.trans (hb2.mono hbel.drew.size)
      go_wp2_with fail
      refine hK.out _ _ ⟨bkeep (hb2.block g hgl) q0, B2⟩ (fun hHeld2 => ?_)
      clear hK K
      try simp only [Act.put, List.setIfInBounds_toArray, List.set_cons_zero, List.set_cons_succ]
      refine wpAnyH_take (i := 6) (oi := { dst := some 18, op := Op.binOp BinOp.neq 9 (Operand.tmp 15) (Operand.tmp 17) 9, type := 4, pos := _, after := #[{ on := 3, ground := Ground.data }, { on := 5, ground := Ground.data }], guard := none }) (v := ?_) rfl (by kernel_rfl) (by kernel_rfl) (by kernel_rfl) (fun _ _ _ h => h) (Or.inl ⟨by kernel_rfl, ?_⟩) (by assumption) ?_
      rotate_left
      · intro w hSw; obtain ⟨z0, _⟩ := hSw; go_simp; first | done | (with_reducible rfl) | (rw [if_neg (by omega)])
      try simp only [Act.put, List.setIfInBounds_toArray, List.set_cons_zero, List.set_cons_succ]
      refine wpAnyH_done (by kernel_rfl) ?_ _
      go_wp2
      go_roundw
      case rel => exact ⟨j + 1, by omega, by congr 1, by go_num, B2⟩
      case measure => simp [intOf]; omega
    · obtain rfl : n = j := by omega
      go_wp2
      go_ret
      exact ⟨rfl, hbel⟩
end Go.Proofs.YtmfeheglpfndpaaDoor
