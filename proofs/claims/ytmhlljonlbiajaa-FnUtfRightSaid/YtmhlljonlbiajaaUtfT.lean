/- Contracts of UtfText, UtfGood, UtfState. Conditions: a bound on the string. -/
import Derived.Test.YtmhlljonlbiajaaUtfE
import Derived.StillTailTactics
import Derived.Deep.RegionHeld3
import Derived.Deep.RegionWith
import Derived.Deep.RegionLaw
import Derived.Deep.DeepCutAuto
import Derived.Deep.LoopGhost
namespace Go.Proofs.Ytmhlljonlbiajaa
open Go.RowKit Plain
set_option linter.unusedVariables false
set_option linter.unusedSimpArgs false
/-- two structs of three cells, of the call's own, kept while a region draws its order -/
def SInv (w0 : World) (g0 g1 : Nat) (t : TypeId) (cs ds : Array Value) (w : World) : Prop := Box w g0 t cs ∧ Box w g1 t ds ∧ Below w0.heap.size w0 w
section
variable {w0 w w1 : World} {g0 g1 : Nat} {t : TypeId} {x y z : Value} {ds : Array Value}
theorem S_of (h : SInv w0 g0 g1 t #[x, y, z] ds w) : (w).cell? ⟨g0, 0, none⟩ = some x ∧ (w).cell? ⟨g0, 1, none⟩ = some y ∧ (w).cell? ⟨g0, 2, none⟩ = some z ∧ SInv w0 g0 g1 t #[x, y, z] ds (w) := ⟨h.1.cell 0 rfl, h.1.cell 1 rfl, h.1.cell 2 rfl, h⟩
theorem S_alloc (h : (w).cell? ⟨g0, 0, none⟩ = some x ∧ (w).cell? ⟨g0, 1, none⟩ = some y ∧ (w).cell? ⟨g0, 2, none⟩ = some z ∧ SInv w0 g0 g1 t #[x, y, z] ds (w)) (o : Obj) : (w.alloc o).cell? ⟨g0, 0, none⟩ = some x ∧ (w.alloc o).cell? ⟨g0, 1, none⟩ = some y ∧ (w.alloc o).cell? ⟨g0, 2, none⟩ = some z ∧ SInv w0 g0 g1 t #[x, y, z] ds (w.alloc o) := S_of ⟨h.2.2.2.1.alloc o, h.2.2.2.2.1.alloc o, h.2.2.2.2.2.alloc h.2.2.2.2.2.size o⟩
theorem S_drew (h : (w).cell? ⟨g0, 0, none⟩ = some x ∧ (w).cell? ⟨g0, 1, none⟩ = some y ∧ (w).cell? ⟨g0, 2, none⟩ = some z ∧ SInv w0 g0 g1 t #[x, y, z] ds (w)) : (w.drew).cell? ⟨g0, 0, none⟩ = some x ∧ (w.drew).cell? ⟨g0, 1, none⟩ = some y ∧ (w.drew).cell? ⟨g0, 2, none⟩ = some z ∧ SInv w0 g0 g1 t #[x, y, z] ds (w.drew) := S_of ⟨h.2.2.2.1, h.2.2.2.2.1, h.2.2.2.2.2.drew⟩
theorem S_call (h : (w).cell? ⟨g0, 0, none⟩ = some x ∧ (w).cell? ⟨g0, 1, none⟩ = some y ∧ (w).cell? ⟨g0, 2, none⟩ = some z ∧ SInv w0 g0 g1 t #[x, y, z] ds (w)) (hb : Below w.heap.size w w1) : (w1).cell? ⟨g0, 0, none⟩ = some x ∧ (w1).cell? ⟨g0, 1, none⟩ = some y ∧ (w1).cell? ⟨g0, 2, none⟩ = some z ∧ SInv w0 g0 g1 t #[x, y, z] ds (w1) := S_of ⟨h.2.2.2.1.all hb, h.2.2.2.2.1.all hb, h.2.2.2.2.2.trans (hb.mono h.2.2.2.2.2.size)⟩
theorem S_set3 (h : (w).cell? ⟨g0, 0, none⟩ = some x ∧ (w).cell? ⟨g0, 1, none⟩ = some y ∧ (w).cell? ⟨g0, 2, none⟩ = some z ∧ SInv w0 g0 g1 t #[x, y, z] ds (w)) {b o1 o2 o3 : Nat} (h0 : g0 < b) (h1 : g1 < b) (h2 : w0.heap.size ≤ b) (u v q : Value) : (((w.setCell ⟨b, o1, none⟩ u).setCell ⟨b, o2, none⟩ v).setCell ⟨b, o3, none⟩ q).cell? ⟨g0, 0, none⟩ = some x ∧ (((w.setCell ⟨b, o1, none⟩ u).setCell ⟨b, o2, none⟩ v).setCell ⟨b, o3, none⟩ q).cell? ⟨g0, 1, none⟩ = some y ∧ (((w.setCell ⟨b, o1, none⟩ u).setCell ⟨b, o2, none⟩ v).setCell ⟨b, o3, none⟩ q).cell? ⟨g0, 2, none⟩ = some z ∧ SInv w0 g0 g1 t #[x, y, z] ds (((w.setCell ⟨b, o1, none⟩ u).setCell ⟨b, o2, none⟩ v).setCell ⟨b, o3, none⟩ q) :=
  S_of ⟨((h.2.2.2.1.far (by show g0 ≠ b; omega) u).far (by show g0 ≠ b; omega) v).far (by show g0 ≠ b; omega) q, ((h.2.2.2.2.1.far (by show g1 ≠ b; omega) u).far (by show g1 ≠ b; omega) v).far (by show g1 ≠ b; omega) q, ((h.2.2.2.2.2.setCell h2 u).setCell h2 v).setCell h2 q⟩
end
theorem drop_cons {l : List Nat} {k : Nat} (h : k < l.length) : l.drop k = l.getD k 0 :: l.drop (k + 1) := by
  rw [List.drop_eq_getElem_cons h]; simp [List.getD, List.getElem?_eq_getElem h]
/-- k bytes are taken, the state is u -/
def URel (l : List Nat) (u0 : (Int × Int × Int)) (k : Nat) (u : (Int × Int × Int)) : Prop := k ≤ l.length ∧ utfText u0 l = runU u (l.drop k) k
theorem URel.start (l : List Nat) (u : (Int × Int × Int)) : URel l u 0 u := ⟨Nat.zero_le _, rfl⟩
theorem URel.end_ {l : List Nat} {u0 u : (Int × Int × Int)} {k : Nat} (r : URel l u0 k u) (he : l.length ≤ k) : utfText u0 l = (u, -1) := by
  rw [r.2, List.drop_of_length_le he]; rfl
theorem URel.next {l : List Nat} {u0 u v : (Int × Int × Int)} {k : Nat} (r : URel l u0 k u) (hk : k < l.length) (hs : stepU u (l.getD k 0 : Nat) = some v) : URel l u0 (k + 1) v := by
  refine ⟨hk, ?_⟩
  rw [r.2, drop_cons hk, runU_some hs]
theorem URel.stop {l : List Nat} {u0 u : (Int × Int × Int)} {k : Nat} (r : URel l u0 k u) (hk : k < l.length) (hs : stepU u (l.getD k 0 : Nat) = none) : utfText u0 l = (u, (k : Int)) := by
  rw [r.2, drop_cons hk, runU_none hs]
/-- what UtfText answers -/
def textV (q : (Int × Int × Int) × Int) : Value := .tuple #[.agg #[.int .i64 q.1.1, .int .i64 q.1.2.1, .int .i64 q.1.2.2], .int .i64 q.2]
set_option maxRecDepth 20000 in
set_option maxHeartbeats 2000000 in
theorem cI_UtfText (W L H : Int) (s : ByteArray) (w : World) (hs : s.size ≤ 1048576) : Calls Try.prog 27 #[.agg #[.int .i64 W, .int .i64 L, .int .i64 H], .string s] w fun e w' => e = .returned (textV (utfText (W, L, H) (bl s))) ∧ Below w.heap.size w w' := by
  go_enter Try.func27, Try.ntmps27
  have X0 := (Box.new w 27 #[.int .i64 W, .int .i64 L, .int .i64 H]).alloc (.cells #[.int .i64 0, .int .i64 0, .int .i64 0] 27)
  have Y0 := Box.new (w.alloc (.cells #[.int .i64 W, .int .i64 L, .int .i64 H] 27)) 27 #[.int .i64 0, .int .i64 0, .int .i64 0]
  have HL := Lib.hid (bl_length s)
  go_wp2_with fail
  go_loopg [11] s.size (fun gk c wr => ∃ (k : Nat) (W' L' H' : Int), gk = s.size - k ∧ URel (bl s) (W, L, H) k (W', L', H') ∧ k ≤ s.size ∧ c = .int .i64 k ∧ Box wr w.heap.size 27 #[.int .i64 W', .int .i64 L', .int .i64 H'] ∧ Box wr (w.heap.size + 1) 27 #[.int .i64 0, .int .i64 0, .int .i64 0] ∧ Below w.heap.size w wr)
  case atStart => exact ⟨0, W, L, H, rfl, URel.start _ _, Nat.zero_le _, rfl, X0, by simpa using Y0, ((Below.refl _ _).alloc (Nat.le_refl _) _).alloc (by simp) _⟩
  case round =>
    obtain ⟨k, W', L', H', hgk, hr, hk, rfl, X, Y, hbel⟩ := hrel
    have xc0 : wr.cell? ⟨w.heap.size, 0, none⟩ = some (.int .i64 W') := X.cell 0 rfl
    have xc1 : wr.cell? ⟨w.heap.size, 1, none⟩ = some (.int .i64 L') := X.cell 1 rfl
    have xc2 : wr.cell? ⟨w.heap.size, 2, none⟩ = some (.int .i64 H') := X.cell 2 rfl
    have xf0 := X.free 0; have xf1 := X.free 1; have xf2 := X.free 2
    have yc0 : wr.cell? ⟨w.heap.size + 1, 0, none⟩ = some (.int .i64 0) := Y.cell 0 rfl
    have yc1 : wr.cell? ⟨w.heap.size + 1, 1, none⟩ = some (.int .i64 0) := Y.cell 1 rfl
    have yc2 : wr.cell? ⟨w.heap.size + 1, 2, none⟩ = some (.int .i64 0) := Y.cell 2 rfl
    have yf0 := Y.free 0; have yf1 := Y.free 1; have yf2 := Y.free 2
    have yl := Y.lt
    by_cases hlt : k < s.size
    · have hk0 : (0 : Int) ≤ (k : Int) := by omega
      have hk1 : (k : Int) < (s.size : Int) := by omega
      have hx : (s[k]).toNat < 256 := (s[k]).toNat_lt
      have HGK := Lib.hid hgk
      clear hgk
      have wz : IntKind.i64.wrap ((s[k]).toNat : Int) = (((bl s).getD k 0 : Nat) : Int) := by rw [bl_get s k hlt]; exact IntWalk.i64_in _ (by omega)
      have hU := fun wx => cI_UtfByte W' L' H' (IntKind.i64.wrap ((s[k]).toNat : Int)) wx
      rcases hst : stepU (W', L', H') (IntKind.i64.wrap ((s[k]).toNat : Int)) with _ | ⟨vW, vL, vH⟩
      · rw [hst] at hU
        have HS := Lib.hid (hr.stop (by rw [HL.out]; exact hlt) (by rw [← wz]; exact hst))
        clear hr hst wz
        unfold outU stV at hU
        go_upto_region 4 with (fail)
        go_cut [7, 8] (fun p c wx => ∃ g2 : Nat, p = .pointer (some ⟨g2, 0, none⟩) ∧ c = .bool false ∧ Box wx g2 27 #[.int .i64 W', .int .i64 L', .int .i64 H'] ∧ w.heap.size + 1 < g2 ∧ SInv w w.heap.size (w.heap.size + 1) 27 #[.int .i64 W', .int .i64 L', .int .i64 H'] #[.int .i64 0, .int .i64 0, .int .i64 0] wx)
        case first =>
          refine wp_region_held_drew (S := fun w' => w'.cell? ⟨w.heap.size, 0, none⟩ = some (.int .i64 W') ∧ w'.cell? ⟨w.heap.size, 1, none⟩ = some (.int .i64 L') ∧ w'.cell? ⟨w.heap.size, 2, none⟩ = some (.int .i64 H') ∧ SInv w w.heap.size (w.heap.size + 1) 27 #[.int .i64 W', .int .i64 L', .int .i64 H'] #[.int .i64 0, .int .i64 0, .int .i64 0] w') (by kernel_rfl) (S_of ⟨X.drew, Y.drew, hbel.drew⟩) (fun hHeld => ?_)
          refine wpAnyH_take (i := 0) (oi := { dst := some 15, op := Op.load 27 (Operand.tmp 2), type := 27, pos := _, after := #[], guard := none }) (v := ?_) rfl (by kernel_rfl) (by kernel_rfl) (by kernel_rfl) (fun _ _ _ h => h) (Or.inl ⟨by kernel_rfl, ?_⟩) (by assumption) ?_
          rotate_left
          · intro w hSw; obtain ⟨z0, z1, z2, _⟩ := hSw; go_simp; first | done | (with_reducible rfl)
          try simp only [Act.put, List.setIfInBounds_toArray, List.set_cons_zero, List.set_cons_succ]
          refine wpAnyH_take (i := 1) (oi := { dst := some 16, op := Op.move (Operand.tmp 1), type := 9, pos := _, after := #[], guard := none }) (v := ?_) rfl (by kernel_rfl) (by kernel_rfl) (by kernel_rfl) (fun _ _ _ h => h) (Or.inl ⟨by kernel_rfl, ?_⟩) (by assumption) ?_
          rotate_left
          · intro w hSw; obtain ⟨z0, z1, z2, _⟩ := hSw; go_simp; first | done | (with_reducible rfl)
          try simp only [Act.put, List.setIfInBounds_toArray, List.set_cons_zero, List.set_cons_succ]
          refine wpAnyH_take (i := 2) (oi := { dst := some 17, op := Op.move (Operand.tmp 6), type := 3, pos := _, after := #[], guard := none }) (v := ?_) rfl (by kernel_rfl) (by kernel_rfl) (by kernel_rfl) (fun _ _ _ h => h) (Or.inl ⟨by kernel_rfl, ?_⟩) (by assumption) ?_
          rotate_left
          · intro w hSw; obtain ⟨z0, z1, z2, _⟩ := hSw; go_simp; first | done | (with_reducible rfl)
          try simp only [Act.put, List.setIfInBounds_toArray, List.set_cons_zero, List.set_cons_succ]
          refine wpAnyH_take (i := 3) (oi := { dst := some 18, op := Op.index 9 (Operand.tmp 16) (Operand.tmp 17), type := 5, pos := _, after := #[{ on := 1, ground := Ground.data }, { on := 2, ground := Ground.data }], guard := none }) (v := ?_) rfl (by kernel_rfl) (by kernel_rfl) (by kernel_rfl) (fun _ _ _ h => h) (Or.inl ⟨by kernel_rfl, ?_⟩) (by assumption) ?_
          rotate_left
          · intro w hSw; obtain ⟨z0, z1, z2, _⟩ := hSw; go_simp; first | done | (with_reducible rfl)
          try simp only [Act.put, List.setIfInBounds_toArray, List.set_cons_zero, List.set_cons_succ]
          refine wpAnyH_take (i := 4) (oi := { dst := some 19, op := Op.convert 5 3 (Operand.tmp 18), type := 3, pos := _, after := #[{ on := 3, ground := Ground.data }], guard := none }) (v := ?_) rfl (by kernel_rfl) (by kernel_rfl) (by kernel_rfl) (fun _ _ _ h => h) (Or.inl ⟨by kernel_rfl, ?_⟩) (by assumption) ?_
          rotate_left
          · intro w hSw; obtain ⟨z0, z1, z2, _⟩ := hSw; go_simp; first | done | (with_reducible rfl)
          try simp only [Act.put, List.setIfInBounds_toArray, List.set_cons_zero, List.set_cons_succ]
          refine wpAnyH_ready (rs := [5, 9]) (by kernel_rfl) (by simp) ?_
          refine (AllReadyH.cons (o := { dst := some 20, op := Op.call { callee := Callee.value (Operand.func 19), args := #[Operand.tmp 15, Operand.tmp 19], argTypes := #[27, 3] }, type := 30, pos := _, after := #[{ on := 0, ground := Ground.data }, { on := 4, ground := Ground.data }], guard := none }) rfl (fun K hK => ?_) (AllReadyH.cons (o := { dst := some 7, op := Op.alloc 27, type := 0, pos := _, after := #[], guard := none }) rfl (fun K hK => ?_) AllReadyH.nil))
          · rw [if_pos (by kernel_rfl)]
            go_simp
            go_at_call 19
            refine (hU _).mono ?_
            rintro e w1 ⟨rfl, hbc⟩
            go_wp2_with fail
            have H1 := S_call hHeld hbc
            refine hK.out _ _ H1 (fun _ => ?_)
            clear hK K
            try simp only [Act.put, List.setIfInBounds_toArray, List.set_cons_zero, List.set_cons_succ]
            refine wpAnyH_take (i := 6) (oi := { dst := some 14, op := Op.move (Operand.tmp 20), type := 30, pos := _, after := #[{ on := 5, ground := Ground.data }], guard := none }) (v := ?_) rfl (by kernel_rfl) (by kernel_rfl) (by kernel_rfl) (fun _ _ _ h => h) (Or.inl ⟨by kernel_rfl, ?_⟩) (by assumption) ?_
            rotate_left
            · intro w hSw; obtain ⟨z0, z1, z2, _⟩ := hSw; go_simp; first | done | (with_reducible rfl)
            try simp only [Act.put, List.setIfInBounds_toArray, List.set_cons_zero, List.set_cons_succ]
            refine wpAnyH_take (i := 7) (oi := { dst := some 21, op := Op.extract (Operand.tmp 14) 0, type := 27, pos := _, after := #[{ on := 6, ground := Ground.data }], guard := none }) (v := ?_) rfl (by kernel_rfl) (by kernel_rfl) (by kernel_rfl) (fun _ _ _ h => h) (Or.inl ⟨by kernel_rfl, ?_⟩) (by assumption) ?_
            rotate_left
            · intro w hSw; obtain ⟨z0, z1, z2, _⟩ := hSw; go_simp; first | done | (with_reducible rfl)
            try simp only [Act.put, List.setIfInBounds_toArray, List.set_cons_zero, List.set_cons_succ]
            refine wpAnyH_take (i := 8) (oi := { dst := some 22, op := Op.extract (Operand.tmp 14) 1, type := 4, pos := _, after := #[{ on := 6, ground := Ground.data }, { on := 10, ground := Ground.gcOnly Departure.lateStores }], guard := none }) (v := ?_) rfl (by kernel_rfl) (by kernel_rfl) (by kernel_rfl) (fun _ _ _ h => h) (Or.inl ⟨by kernel_rfl, ?_⟩) (by assumption) ?_
            rotate_left
            · intro w hSw; obtain ⟨z0, z1, z2, _⟩ := hSw; go_simp; first | done | (with_reducible rfl)
            try simp only [Act.put, List.setIfInBounds_toArray, List.set_cons_zero, List.set_cons_succ]
            refine wpAnyH_ready (rs := [9]) (by kernel_rfl) (by simp) ?_
            refine AllReadyH.cons (o := { dst := some 7, op := Op.alloc 27, type := 0, pos := _, after := #[], guard := none }) rfl (fun K hK => ?_) AllReadyH.nil
            rw [if_pos (by kernel_rfl)]
            go_simp
            have H2 := S_alloc (S_drew H1) (.cells #[.int .i64 0, .int .i64 0, .int .i64 0] 27)
            refine hK.out _ _ (by first | exact H2 | exact S_drew (S_alloc H1 _) | exact S_alloc H1 _) (fun hHeld2 => ?_)
            clear hK K
            try simp only [Act.put, List.setIfInBounds_toArray, List.set_cons_zero, List.set_cons_succ]
            refine wpAnyH_ready (rs := [10]) (by kernel_rfl) (by simp) ?_
            refine AllReadyH.cons (o := { dst := none, op := Op.store 27 (Operand.tmp 7) (Operand.tmp 21), type := 0, pos := _, after := #[{ on := 9, ground := Ground.data }, { on := 7, ground := Ground.data }, { on := 5, ground := Ground.chain }, { on := 0, ground := Ground.phase }, { on := 1, ground := Ground.phase }, { on := 2, ground := Ground.phase }, { on := 3, ground := Ground.phase }, { on := 4, ground := Ground.phase }, { on := 5, ground := Ground.phase }, { on := 6, ground := Ground.phase }, { on := 7, ground := Ground.phase }, { on := 8, ground := Ground.textOnly Departure.lateStores }, { on := 9, ground := Ground.phase }], guard := none }) rfl (fun K hK => ?_) AllReadyH.nil
            rw [if_pos (by kernel_rfl)]
            go_simp
            refine hK.out _ _ (by first | exact S_drew (S_alloc H1 _) | exact S_alloc H1 _) (fun hHeld3 => ?_)
            clear hK K
            try simp only [Act.put, List.setIfInBounds_toArray, List.set_cons_zero, List.set_cons_succ]
            refine wpAnyH_take (i := 11) (oi := { dst := some 8, op := Op.assign (Operand.tmp 22), type := 4, pos := _, after := #[{ on := 8, ground := Ground.data }, { on := 10, ground := Ground.chain }, { on := 0, ground := Ground.phase }, { on := 1, ground := Ground.phase }, { on := 2, ground := Ground.phase }, { on := 3, ground := Ground.phase }, { on := 4, ground := Ground.phase }, { on := 5, ground := Ground.phase }, { on := 6, ground := Ground.phase }, { on := 7, ground := Ground.phase }, { on := 8, ground := Ground.phase }, { on := 9, ground := Ground.phase }, { on := 10, ground := Ground.phase }], guard := none }) (v := ?_) rfl (by kernel_rfl) (by kernel_rfl) (by kernel_rfl) (fun _ _ _ h => h) (Or.inl ⟨by kernel_rfl, ?_⟩) (by assumption) ?_
            rotate_left
            · intro w hSw; obtain ⟨z0, z1, z2, _⟩ := hSw; go_simp; first | done | (with_reducible rfl)
            try simp only [Act.put, List.setIfInBounds_toArray, List.set_cons_zero, List.set_cons_succ]
            refine wpAnyH_done (by kernel_rfl) ?_ _
            go_wp2_with fail
            go_meet
            exact ⟨_, rfl, rfl, Box.new _ _ _, by first | omega | (have := hbc.size; simp at this; omega), hHeld3.2.2.2⟩
          · rw [if_pos (by kernel_rfl)]
            go_simp
            refine hK.out _ _ (by first | exact S_drew (S_alloc (S_of ⟨X, Y, hbel⟩) _) | exact S_alloc hHeld _) (fun hHeld4 => ?_)
            clear hK K
            try simp only [Act.put, List.setIfInBounds_toArray, List.set_cons_zero, List.set_cons_succ]
            refine wpAnyH_ready (rs := [5]) (by kernel_rfl) (by simp) ?_
            refine AllReadyH.cons (o := { dst := some 20, op := Op.call { callee := Callee.value (Operand.func 19), args := #[Operand.tmp 15, Operand.tmp 19], argTypes := #[27, 3] }, type := 30, pos := _, after := #[{ on := 0, ground := Ground.data }, { on := 4, ground := Ground.data }], guard := none }) rfl (fun K hK => ?_) AllReadyH.nil
            rw [if_pos (by kernel_rfl)]
            go_simp
            go_at_call 19
            refine (hU _).mono ?_
            rintro e w1 ⟨rfl, hbc⟩
            go_wp2_with fail
            have H5 := S_call hHeld4 hbc
            have Z := ((Box.new wr 27 #[.int .i64 0, .int .i64 0, .int .i64 0]).drew).all hbc
            have q0 := Z.cell 0 rfl; have q1 := Z.cell 1 rfl; have q2 := Z.cell 2 rfl
            have f0 := Z.free 0; have f1 := Z.free 1; have f2 := Z.free 2
            refine hK.out _ _ H5 (fun _ => ?_)
            clear hK K
            try simp only [Act.put, List.setIfInBounds_toArray, List.set_cons_zero, List.set_cons_succ]
            refine wpAnyH_take (i := 6) (oi := { dst := some 14, op := Op.move (Operand.tmp 20), type := 30, pos := _, after := #[{ on := 5, ground := Ground.data }], guard := none }) (v := ?_) rfl (by kernel_rfl) (by kernel_rfl) (by kernel_rfl) (fun _ _ _ h => h) (Or.inl ⟨by kernel_rfl, ?_⟩) (by assumption) ?_
            rotate_left
            · intro w hSw; obtain ⟨z0, z1, z2, _⟩ := hSw; go_simp; first | done | (with_reducible rfl)
            try simp only [Act.put, List.setIfInBounds_toArray, List.set_cons_zero, List.set_cons_succ]
            refine wpAnyH_take (i := 7) (oi := { dst := some 21, op := Op.extract (Operand.tmp 14) 0, type := 27, pos := _, after := #[{ on := 6, ground := Ground.data }], guard := none }) (v := ?_) rfl (by kernel_rfl) (by kernel_rfl) (by kernel_rfl) (fun _ _ _ h => h) (Or.inl ⟨by kernel_rfl, ?_⟩) (by assumption) ?_
            rotate_left
            · intro w hSw; obtain ⟨z0, z1, z2, _⟩ := hSw; go_simp; first | done | (with_reducible rfl)
            try simp only [Act.put, List.setIfInBounds_toArray, List.set_cons_zero, List.set_cons_succ]
            refine wpAnyH_take (i := 8) (oi := { dst := some 22, op := Op.extract (Operand.tmp 14) 1, type := 4, pos := _, after := #[{ on := 6, ground := Ground.data }, { on := 10, ground := Ground.gcOnly Departure.lateStores }], guard := none }) (v := ?_) rfl (by kernel_rfl) (by kernel_rfl) (by kernel_rfl) (fun _ _ _ h => h) (Or.inl ⟨by kernel_rfl, ?_⟩) (by assumption) ?_
            rotate_left
            · intro w hSw; obtain ⟨z0, z1, z2, _⟩ := hSw; go_simp; first | done | (with_reducible rfl)
            try simp only [Act.put, List.setIfInBounds_toArray, List.set_cons_zero, List.set_cons_succ]
            refine wpAnyH_ready (rs := [10]) (by kernel_rfl) (by simp) ?_
            refine AllReadyH.cons (o := { dst := none, op := Op.store 27 (Operand.tmp 7) (Operand.tmp 21), type := 0, pos := _, after := #[{ on := 9, ground := Ground.data }, { on := 7, ground := Ground.data }, { on := 5, ground := Ground.chain }, { on := 0, ground := Ground.phase }, { on := 1, ground := Ground.phase }, { on := 2, ground := Ground.phase }, { on := 3, ground := Ground.phase }, { on := 4, ground := Ground.phase }, { on := 5, ground := Ground.phase }, { on := 6, ground := Ground.phase }, { on := 7, ground := Ground.phase }, { on := 8, ground := Ground.textOnly Departure.lateStores }, { on := 9, ground := Ground.phase }], guard := none }) rfl (fun K hK => ?_) AllReadyH.nil
            rw [if_pos (by kernel_rfl)]
            go_simp
            refine hK.out _ _ (S_set3 H5 (by omega) (by omega) (by have := hbel.size; omega) _ _ _) (fun hHeld6 => ?_)
            clear hK K
            try simp only [Act.put, List.setIfInBounds_toArray, List.set_cons_zero, List.set_cons_succ]
            refine wpAnyH_take (i := 11) (oi := { dst := some 8, op := Op.assign (Operand.tmp 22), type := 4, pos := _, after := #[{ on := 8, ground := Ground.data }, { on := 10, ground := Ground.chain }, { on := 0, ground := Ground.phase }, { on := 1, ground := Ground.phase }, { on := 2, ground := Ground.phase }, { on := 3, ground := Ground.phase }, { on := 4, ground := Ground.phase }, { on := 5, ground := Ground.phase }, { on := 6, ground := Ground.phase }, { on := 7, ground := Ground.phase }, { on := 8, ground := Ground.phase }, { on := 9, ground := Ground.phase }, { on := 10, ground := Ground.phase }], guard := none }) (v := ?_) rfl (by kernel_rfl) (by kernel_rfl) (by kernel_rfl) (fun _ _ _ h => h) (Or.inl ⟨by kernel_rfl, ?_⟩) (by assumption) ?_
            rotate_left
            · intro w hSw; obtain ⟨z0, z1, z2, _⟩ := hSw; go_simp; first | done | (with_reducible rfl)
            try simp only [Act.put, List.setIfInBounds_toArray, List.set_cons_zero, List.set_cons_succ]
            refine wpAnyH_done (by kernel_rfl) ?_ _
            go_wp2_with fail
            go_meet
            exact ⟨_, rfl, rfl, ((Z.set_ 0 _).set_ 1 _).set_ 2 _, by omega, hHeld6.2.2.2⟩
        case rest =>
          obtain ⟨g2, rfl, rfl, Z, hg2, X', Y', hbel'⟩ := hcut
          clear hU hx xc0 xc1 xc2 xf0 xf1 xf2 yc0 yc1 yc2 yf0 yf1 yf2 X Y hbel
          have xc0 : wc.cell? ⟨w.heap.size, 0, none⟩ = some (.int .i64 W') := X'.cell 0 rfl
          have xc1 : wc.cell? ⟨w.heap.size, 1, none⟩ = some (.int .i64 L') := X'.cell 1 rfl
          have xc2 : wc.cell? ⟨w.heap.size, 2, none⟩ = some (.int .i64 H') := X'.cell 2 rfl
          have xf0 := X'.free 0; have xf1 := X'.free 1; have xf2 := X'.free 2
          have yc0 : wc.cell? ⟨w.heap.size + 1, 0, none⟩ = some (.int .i64 0) := Y'.cell 0 rfl
          have yc1 : wc.cell? ⟨w.heap.size + 1, 1, none⟩ = some (.int .i64 0) := Y'.cell 1 rfl
          have yc2 : wc.cell? ⟨w.heap.size + 1, 2, none⟩ = some (.int .i64 0) := Y'.cell 2 rfl
          have yf0 := Y'.free 0; have yf1 := Y'.free 1; have yf2 := Y'.free 2
          have zc0 : wc.cell? ⟨g2, 0, none⟩ = some (.int .i64 W') := Z.cell 0 rfl
          have zc1 : wc.cell? ⟨g2, 1, none⟩ = some (.int .i64 L') := Z.cell 1 rfl
          have zc2 : wc.cell? ⟨g2, 2, none⟩ = some (.int .i64 H') := Z.cell 2 rfl
          have zf0 := Z.free 0; have zf1 := Z.free 1; have zf2 := Z.free 2
          go_wp2
          exact bodyPost_ret (v := .tuple #[.agg #[.int .i64 W', .int .i64 L', .int .i64 H'], .int .i64 k]) (by simp [results, Try.results27, go_sem, xc0, xc1, xc2, yc0, yc1, yc2]) rfl ⟨by rw [HS.out]; rfl, by repeat (first | exact hbel' | refine Below.setCell ?_ (by simp) _)⟩
      · rw [hst] at hU
        have HS := Lib.hid (hr.next (by rw [HL.out]; exact hlt) (by rw [← wz]; exact hst))
        clear hr hst wz
        unfold outU stV at hU
        go_upto_region 4 with (fail)
        go_cut [7, 8] (fun p c wx => ∃ g2 : Nat, p = .pointer (some ⟨g2, 0, none⟩) ∧ c = .bool true ∧ Box wx g2 27 #[.int .i64 vW, .int .i64 vL, .int .i64 vH] ∧ w.heap.size + 1 < g2 ∧ SInv w w.heap.size (w.heap.size + 1) 27 #[.int .i64 W', .int .i64 L', .int .i64 H'] #[.int .i64 0, .int .i64 0, .int .i64 0] wx)
        case first =>
          refine wp_region_held_drew (S := fun w' => w'.cell? ⟨w.heap.size, 0, none⟩ = some (.int .i64 W') ∧ w'.cell? ⟨w.heap.size, 1, none⟩ = some (.int .i64 L') ∧ w'.cell? ⟨w.heap.size, 2, none⟩ = some (.int .i64 H') ∧ SInv w w.heap.size (w.heap.size + 1) 27 #[.int .i64 W', .int .i64 L', .int .i64 H'] #[.int .i64 0, .int .i64 0, .int .i64 0] w') (by kernel_rfl) (S_of ⟨X.drew, Y.drew, hbel.drew⟩) (fun hHeld => ?_)
          refine wpAnyH_take (i := 0) (oi := { dst := some 15, op := Op.load 27 (Operand.tmp 2), type := 27, pos := _, after := #[], guard := none }) (v := ?_) rfl (by kernel_rfl) (by kernel_rfl) (by kernel_rfl) (fun _ _ _ h => h) (Or.inl ⟨by kernel_rfl, ?_⟩) (by assumption) ?_
          rotate_left
          · intro w hSw; obtain ⟨z0, z1, z2, _⟩ := hSw; go_simp; first | done | (with_reducible rfl)
          try simp only [Act.put, List.setIfInBounds_toArray, List.set_cons_zero, List.set_cons_succ]
          refine wpAnyH_take (i := 1) (oi := { dst := some 16, op := Op.move (Operand.tmp 1), type := 9, pos := _, after := #[], guard := none }) (v := ?_) rfl (by kernel_rfl) (by kernel_rfl) (by kernel_rfl) (fun _ _ _ h => h) (Or.inl ⟨by kernel_rfl, ?_⟩) (by assumption) ?_
          rotate_left
          · intro w hSw; obtain ⟨z0, z1, z2, _⟩ := hSw; go_simp; first | done | (with_reducible rfl)
          try simp only [Act.put, List.setIfInBounds_toArray, List.set_cons_zero, List.set_cons_succ]
          refine wpAnyH_take (i := 2) (oi := { dst := some 17, op := Op.move (Operand.tmp 6), type := 3, pos := _, after := #[], guard := none }) (v := ?_) rfl (by kernel_rfl) (by kernel_rfl) (by kernel_rfl) (fun _ _ _ h => h) (Or.inl ⟨by kernel_rfl, ?_⟩) (by assumption) ?_
          rotate_left
          · intro w hSw; obtain ⟨z0, z1, z2, _⟩ := hSw; go_simp; first | done | (with_reducible rfl)
          try simp only [Act.put, List.setIfInBounds_toArray, List.set_cons_zero, List.set_cons_succ]
          refine wpAnyH_take (i := 3) (oi := { dst := some 18, op := Op.index 9 (Operand.tmp 16) (Operand.tmp 17), type := 5, pos := _, after := #[{ on := 1, ground := Ground.data }, { on := 2, ground := Ground.data }], guard := none }) (v := ?_) rfl (by kernel_rfl) (by kernel_rfl) (by kernel_rfl) (fun _ _ _ h => h) (Or.inl ⟨by kernel_rfl, ?_⟩) (by assumption) ?_
          rotate_left
          · intro w hSw; obtain ⟨z0, z1, z2, _⟩ := hSw; go_simp; first | done | (with_reducible rfl)
          try simp only [Act.put, List.setIfInBounds_toArray, List.set_cons_zero, List.set_cons_succ]
          refine wpAnyH_take (i := 4) (oi := { dst := some 19, op := Op.convert 5 3 (Operand.tmp 18), type := 3, pos := _, after := #[{ on := 3, ground := Ground.data }], guard := none }) (v := ?_) rfl (by kernel_rfl) (by kernel_rfl) (by kernel_rfl) (fun _ _ _ h => h) (Or.inl ⟨by kernel_rfl, ?_⟩) (by assumption) ?_
          rotate_left
          · intro w hSw; obtain ⟨z0, z1, z2, _⟩ := hSw; go_simp; first | done | (with_reducible rfl)
          try simp only [Act.put, List.setIfInBounds_toArray, List.set_cons_zero, List.set_cons_succ]
          refine wpAnyH_ready (rs := [5, 9]) (by kernel_rfl) (by simp) ?_
          refine (AllReadyH.cons (o := { dst := some 20, op := Op.call { callee := Callee.value (Operand.func 19), args := #[Operand.tmp 15, Operand.tmp 19], argTypes := #[27, 3] }, type := 30, pos := _, after := #[{ on := 0, ground := Ground.data }, { on := 4, ground := Ground.data }], guard := none }) rfl (fun K hK => ?_) (AllReadyH.cons (o := { dst := some 7, op := Op.alloc 27, type := 0, pos := _, after := #[], guard := none }) rfl (fun K hK => ?_) AllReadyH.nil))
          · rw [if_pos (by kernel_rfl)]
            go_simp
            go_at_call 19
            refine (hU _).mono ?_
            rintro e w1 ⟨rfl, hbc⟩
            go_wp2_with fail
            have H1 := S_call hHeld hbc
            refine hK.out _ _ H1 (fun _ => ?_)
            clear hK K
            try simp only [Act.put, List.setIfInBounds_toArray, List.set_cons_zero, List.set_cons_succ]
            refine wpAnyH_take (i := 6) (oi := { dst := some 14, op := Op.move (Operand.tmp 20), type := 30, pos := _, after := #[{ on := 5, ground := Ground.data }], guard := none }) (v := ?_) rfl (by kernel_rfl) (by kernel_rfl) (by kernel_rfl) (fun _ _ _ h => h) (Or.inl ⟨by kernel_rfl, ?_⟩) (by assumption) ?_
            rotate_left
            · intro w hSw; obtain ⟨z0, z1, z2, _⟩ := hSw; go_simp; first | done | (with_reducible rfl)
            try simp only [Act.put, List.setIfInBounds_toArray, List.set_cons_zero, List.set_cons_succ]
            refine wpAnyH_take (i := 7) (oi := { dst := some 21, op := Op.extract (Operand.tmp 14) 0, type := 27, pos := _, after := #[{ on := 6, ground := Ground.data }], guard := none }) (v := ?_) rfl (by kernel_rfl) (by kernel_rfl) (by kernel_rfl) (fun _ _ _ h => h) (Or.inl ⟨by kernel_rfl, ?_⟩) (by assumption) ?_
            rotate_left
            · intro w hSw; obtain ⟨z0, z1, z2, _⟩ := hSw; go_simp; first | done | (with_reducible rfl)
            try simp only [Act.put, List.setIfInBounds_toArray, List.set_cons_zero, List.set_cons_succ]
            refine wpAnyH_take (i := 8) (oi := { dst := some 22, op := Op.extract (Operand.tmp 14) 1, type := 4, pos := _, after := #[{ on := 6, ground := Ground.data }, { on := 10, ground := Ground.gcOnly Departure.lateStores }], guard := none }) (v := ?_) rfl (by kernel_rfl) (by kernel_rfl) (by kernel_rfl) (fun _ _ _ h => h) (Or.inl ⟨by kernel_rfl, ?_⟩) (by assumption) ?_
            rotate_left
            · intro w hSw; obtain ⟨z0, z1, z2, _⟩ := hSw; go_simp; first | done | (with_reducible rfl)
            try simp only [Act.put, List.setIfInBounds_toArray, List.set_cons_zero, List.set_cons_succ]
            refine wpAnyH_ready (rs := [9]) (by kernel_rfl) (by simp) ?_
            refine AllReadyH.cons (o := { dst := some 7, op := Op.alloc 27, type := 0, pos := _, after := #[], guard := none }) rfl (fun K hK => ?_) AllReadyH.nil
            rw [if_pos (by kernel_rfl)]
            go_simp
            have H2 := S_alloc (S_drew H1) (.cells #[.int .i64 0, .int .i64 0, .int .i64 0] 27)
            refine hK.out _ _ (by first | exact H2 | exact S_drew (S_alloc H1 _) | exact S_alloc H1 _) (fun hHeld2 => ?_)
            clear hK K
            try simp only [Act.put, List.setIfInBounds_toArray, List.set_cons_zero, List.set_cons_succ]
            refine wpAnyH_ready (rs := [10]) (by kernel_rfl) (by simp) ?_
            refine AllReadyH.cons (o := { dst := none, op := Op.store 27 (Operand.tmp 7) (Operand.tmp 21), type := 0, pos := _, after := #[{ on := 9, ground := Ground.data }, { on := 7, ground := Ground.data }, { on := 5, ground := Ground.chain }, { on := 0, ground := Ground.phase }, { on := 1, ground := Ground.phase }, { on := 2, ground := Ground.phase }, { on := 3, ground := Ground.phase }, { on := 4, ground := Ground.phase }, { on := 5, ground := Ground.phase }, { on := 6, ground := Ground.phase }, { on := 7, ground := Ground.phase }, { on := 8, ground := Ground.textOnly Departure.lateStores }, { on := 9, ground := Ground.phase }], guard := none }) rfl (fun K hK => ?_) AllReadyH.nil
            rw [if_pos (by kernel_rfl)]
            go_simp
            refine hK.out _ _ (by first | exact S_drew (S_alloc H1 _) | exact S_alloc H1 _) (fun hHeld3 => ?_)
            clear hK K
            try simp only [Act.put, List.setIfInBounds_toArray, List.set_cons_zero, List.set_cons_succ]
            refine wpAnyH_take (i := 11) (oi := { dst := some 8, op := Op.assign (Operand.tmp 22), type := 4, pos := _, after := #[{ on := 8, ground := Ground.data }, { on := 10, ground := Ground.chain }, { on := 0, ground := Ground.phase }, { on := 1, ground := Ground.phase }, { on := 2, ground := Ground.phase }, { on := 3, ground := Ground.phase }, { on := 4, ground := Ground.phase }, { on := 5, ground := Ground.phase }, { on := 6, ground := Ground.phase }, { on := 7, ground := Ground.phase }, { on := 8, ground := Ground.phase }, { on := 9, ground := Ground.phase }, { on := 10, ground := Ground.phase }], guard := none }) (v := ?_) rfl (by kernel_rfl) (by kernel_rfl) (by kernel_rfl) (fun _ _ _ h => h) (Or.inl ⟨by kernel_rfl, ?_⟩) (by assumption) ?_
            rotate_left
            · intro w hSw; obtain ⟨z0, z1, z2, _⟩ := hSw; go_simp; first | done | (with_reducible rfl)
            try simp only [Act.put, List.setIfInBounds_toArray, List.set_cons_zero, List.set_cons_succ]
            refine wpAnyH_done (by kernel_rfl) ?_ _
            go_wp2_with fail
            go_meet
            exact ⟨_, rfl, rfl, Box.new _ _ _, by first | omega | (have := hbc.size; simp at this; omega), hHeld3.2.2.2⟩
          · rw [if_pos (by kernel_rfl)]
            go_simp
            refine hK.out _ _ (by first | exact S_drew (S_alloc (S_of ⟨X, Y, hbel⟩) _) | exact S_alloc hHeld _) (fun hHeld4 => ?_)
            clear hK K
            try simp only [Act.put, List.setIfInBounds_toArray, List.set_cons_zero, List.set_cons_succ]
            refine wpAnyH_ready (rs := [5]) (by kernel_rfl) (by simp) ?_
            refine AllReadyH.cons (o := { dst := some 20, op := Op.call { callee := Callee.value (Operand.func 19), args := #[Operand.tmp 15, Operand.tmp 19], argTypes := #[27, 3] }, type := 30, pos := _, after := #[{ on := 0, ground := Ground.data }, { on := 4, ground := Ground.data }], guard := none }) rfl (fun K hK => ?_) AllReadyH.nil
            rw [if_pos (by kernel_rfl)]
            go_simp
            go_at_call 19
            refine (hU _).mono ?_
            rintro e w1 ⟨rfl, hbc⟩
            go_wp2_with fail
            have H5 := S_call hHeld4 hbc
            have Z := ((Box.new wr 27 #[.int .i64 0, .int .i64 0, .int .i64 0]).drew).all hbc
            have q0 := Z.cell 0 rfl; have q1 := Z.cell 1 rfl; have q2 := Z.cell 2 rfl
            have f0 := Z.free 0; have f1 := Z.free 1; have f2 := Z.free 2
            refine hK.out _ _ H5 (fun _ => ?_)
            clear hK K
            try simp only [Act.put, List.setIfInBounds_toArray, List.set_cons_zero, List.set_cons_succ]
            refine wpAnyH_take (i := 6) (oi := { dst := some 14, op := Op.move (Operand.tmp 20), type := 30, pos := _, after := #[{ on := 5, ground := Ground.data }], guard := none }) (v := ?_) rfl (by kernel_rfl) (by kernel_rfl) (by kernel_rfl) (fun _ _ _ h => h) (Or.inl ⟨by kernel_rfl, ?_⟩) (by assumption) ?_
            rotate_left
            · intro w hSw; obtain ⟨z0, z1, z2, _⟩ := hSw; go_simp; first | done | (with_reducible rfl)
            try simp only [Act.put, List.setIfInBounds_toArray, List.set_cons_zero, List.set_cons_succ]
            refine wpAnyH_take (i := 7) (oi := { dst := some 21, op := Op.extract (Operand.tmp 14) 0, type := 27, pos := _, after := #[{ on := 6, ground := Ground.data }], guard := none }) (v := ?_) rfl (by kernel_rfl) (by kernel_rfl) (by kernel_rfl) (fun _ _ _ h => h) (Or.inl ⟨by kernel_rfl, ?_⟩) (by assumption) ?_
            rotate_left
            · intro w hSw; obtain ⟨z0, z1, z2, _⟩ := hSw; go_simp; first | done | (with_reducible rfl)
            try simp only [Act.put, List.setIfInBounds_toArray, List.set_cons_zero, List.set_cons_succ]
            refine wpAnyH_take (i := 8) (oi := { dst := some 22, op := Op.extract (Operand.tmp 14) 1, type := 4, pos := _, after := #[{ on := 6, ground := Ground.data }, { on := 10, ground := Ground.gcOnly Departure.lateStores }], guard := none }) (v := ?_) rfl (by kernel_rfl) (by kernel_rfl) (by kernel_rfl) (fun _ _ _ h => h) (Or.inl ⟨by kernel_rfl, ?_⟩) (by assumption) ?_
            rotate_left
            · intro w hSw; obtain ⟨z0, z1, z2, _⟩ := hSw; go_simp; first | done | (with_reducible rfl)
            try simp only [Act.put, List.setIfInBounds_toArray, List.set_cons_zero, List.set_cons_succ]
            refine wpAnyH_ready (rs := [10]) (by kernel_rfl) (by simp) ?_
            refine AllReadyH.cons (o := { dst := none, op := Op.store 27 (Operand.tmp 7) (Operand.tmp 21), type := 0, pos := _, after := #[{ on := 9, ground := Ground.data }, { on := 7, ground := Ground.data }, { on := 5, ground := Ground.chain }, { on := 0, ground := Ground.phase }, { on := 1, ground := Ground.phase }, { on := 2, ground := Ground.phase }, { on := 3, ground := Ground.phase }, { on := 4, ground := Ground.phase }, { on := 5, ground := Ground.phase }, { on := 6, ground := Ground.phase }, { on := 7, ground := Ground.phase }, { on := 8, ground := Ground.textOnly Departure.lateStores }, { on := 9, ground := Ground.phase }], guard := none }) rfl (fun K hK => ?_) AllReadyH.nil
            rw [if_pos (by kernel_rfl)]
            go_simp
            refine hK.out _ _ (S_set3 H5 (by omega) (by omega) (by have := hbel.size; omega) _ _ _) (fun hHeld6 => ?_)
            clear hK K
            try simp only [Act.put, List.setIfInBounds_toArray, List.set_cons_zero, List.set_cons_succ]
            refine wpAnyH_take (i := 11) (oi := { dst := some 8, op := Op.assign (Operand.tmp 22), type := 4, pos := _, after := #[{ on := 8, ground := Ground.data }, { on := 10, ground := Ground.chain }, { on := 0, ground := Ground.phase }, { on := 1, ground := Ground.phase }, { on := 2, ground := Ground.phase }, { on := 3, ground := Ground.phase }, { on := 4, ground := Ground.phase }, { on := 5, ground := Ground.phase }, { on := 6, ground := Ground.phase }, { on := 7, ground := Ground.phase }, { on := 8, ground := Ground.phase }, { on := 9, ground := Ground.phase }, { on := 10, ground := Ground.phase }], guard := none }) (v := ?_) rfl (by kernel_rfl) (by kernel_rfl) (by kernel_rfl) (fun _ _ _ h => h) (Or.inl ⟨by kernel_rfl, ?_⟩) (by assumption) ?_
            rotate_left
            · intro w hSw; obtain ⟨z0, z1, z2, _⟩ := hSw; go_simp; first | done | (with_reducible rfl)
            try simp only [Act.put, List.setIfInBounds_toArray, List.set_cons_zero, List.set_cons_succ]
            refine wpAnyH_done (by kernel_rfl) ?_ _
            go_wp2_with fail
            go_meet
            exact ⟨_, rfl, rfl, ((Z.set_ 0 _).set_ 1 _).set_ 2 _, by omega, hHeld6.2.2.2⟩
        case rest =>
          obtain ⟨g2, rfl, rfl, Z, hg2, X', Y', hbel'⟩ := hcut
          clear hU hx xc0 xc1 xc2 xf0 xf1 xf2 yc0 yc1 yc2 yf0 yf1 yf2 X Y hbel
          have xc0 : wc.cell? ⟨w.heap.size, 0, none⟩ = some (.int .i64 W') := X'.cell 0 rfl
          have xc1 : wc.cell? ⟨w.heap.size, 1, none⟩ = some (.int .i64 L') := X'.cell 1 rfl
          have xc2 : wc.cell? ⟨w.heap.size, 2, none⟩ = some (.int .i64 H') := X'.cell 2 rfl
          have xf0 := X'.free 0; have xf1 := X'.free 1; have xf2 := X'.free 2
          have yc0 : wc.cell? ⟨w.heap.size + 1, 0, none⟩ = some (.int .i64 0) := Y'.cell 0 rfl
          have yc1 : wc.cell? ⟨w.heap.size + 1, 1, none⟩ = some (.int .i64 0) := Y'.cell 1 rfl
          have yc2 : wc.cell? ⟨w.heap.size + 1, 2, none⟩ = some (.int .i64 0) := Y'.cell 2 rfl
          have yf0 := Y'.free 0; have yf1 := Y'.free 1; have yf2 := Y'.free 2
          have zc0 : wc.cell? ⟨g2, 0, none⟩ = some (.int .i64 vW) := Z.cell 0 rfl
          have zc1 : wc.cell? ⟨g2, 1, none⟩ = some (.int .i64 vL) := Z.cell 1 rfl
          have zc2 : wc.cell? ⟨g2, 2, none⟩ = some (.int .i64 vH) := Z.cell 2 rfl
          have zf0 := Z.free 0; have zf1 := Z.free 1; have zf2 := Z.free 2
          go_wp2
          go_roundg (s.size - (k + 1))
          case measure => have := HGK.out; omega
          case rel => exact ⟨k + 1, _, _, _, rfl, HS.out, by omega, by go_num, ((X'.set_ 0 _).set_ 1 _).set_ 2 _, ((Y'.far (by simp) _).far (by simp) _).far (by simp) _, ((hbel'.setCell (Nat.le_refl _) _).setCell (Nat.le_refl _) _).setCell (Nat.le_refl _) _⟩
    · have he : (bl s).length ≤ k := by rw [HL.out]; omega
      have HS := Lib.hid (hr.end_ he)
      have hkk : s.size ≤ k := by omega
      clear he hr hgk
      go_wp2
      exact bodyPost_ret (v := .tuple #[.agg #[.int .i64 W', .int .i64 L', .int .i64 H'], .int .i64 (-1)]) (by simp [results, Try.results27, go_sem, xc0, xc1, xc2, yc0, yc1, yc2]) rfl ⟨by rw [HS.out]; rfl, by repeat (first | exact hbel | refine Below.setCell ?_ (by simp) _)⟩
end Go.Proofs.Ytmhlljonlbiajaa
