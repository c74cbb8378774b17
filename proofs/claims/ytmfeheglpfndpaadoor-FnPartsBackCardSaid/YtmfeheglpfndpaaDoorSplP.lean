/- The walk of FnPartsBack. Conditions: the code's bytes can be read; the library's variable MaxLen holds some number. -/
import Derived.Test.YtmfeheglpfndpaaDoorSplD
import Derived.Test.YtmfeheglpfndpaaDoorLawX1
namespace Go.Proofs.YtmfeheglpfndpaaDoor
open Go.RowKit
set_option linter.unusedVariables false
set_option linter.unusedSimpArgs false
theorem joinC_snoc (c : UInt8) (x : ByteArray) : ∀ (l : List ByteArray), l ≠ [] → joinC c (l ++ [x]) = joinC c l ++ ⟨#[c]⟩ ++ x
  | [], h => absurd rfl h
  | [y], _ => rfl
  | y :: z :: r, _ => by
    have h := joinC_snoc c x (z :: r) (by simp)
    show y ++ ⟨#[c]⟩ ++ joinC c ((z :: r) ++ [x]) = y ++ ⟨#[c]⟩ ++ joinC c (z :: r) ++ ⟨#[c]⟩ ++ x
    rw [h]
    apply ba_ext
    simp only [ba_append, List.append_assoc]
theorem join_take (c : UInt8) (L : List ByteArray) (k : Nat) (hk : 1 ≤ k) (x : ByteArray) (h : L[k]? = some x) : joinC c (L.take (k + 1)) = joinC c (L.take k) ++ ⟨#[c]⟩ ++ x := by
  have hl := (List.getElem?_eq_some_iff.1 h).1
  rw [List.take_add_one, h]
  refine joinC_snoc c x _ (fun e => ?_)
  have := congrArg List.length e
  rw [List.length_take, List.length_nil] at this
  omega
theorem ba_sz (a b : ByteArray) : (a ++ b).size = a.size + b.size := by simp
theorem join_size (c : UInt8) (L : List ByteArray) : ∀ (d k : Nat), 1 ≤ k → k + d = L.length → (joinC c (L.take k)).size ≤ (joinC c L).size := by
  intro d
  induction d with
  | zero => intro k _ h; rw [List.take_of_length_le (by omega)]; exact Nat.le_refl _
  | succ d ih =>
    intro k h1 h
    have e := join_take c L k h1 _ (List.getElem?_eq_getElem (by omega))
    have i := ih (k + 1) (by omega) (by omega)
    rw [e, ba_sz, ba_sz] at i
    omega
theorem join_one (c : UInt8) : ∀ (L : List ByteArray) (h : 0 < L.length), L[0] = joinC c (L.take 1)
  | [], h => absurd h (Nat.lt_irrefl _)
  | y :: r, _ => rfl
/-- a string and a byte that are drawn -/
def DParts (w : World) (e : Ending) (w' : World) : Prop := ∃ (s : ByteArray) (b : Nat), s.size ≤ 8 ∧ b < 256 ∧ e = .returned (.tuple #[.string s, .int .u8 b]) ∧ Below w.heap.size w w'
set_option maxHeartbeats 1000000 in
theorem d_DrawParts {a : Option Addr} {len cap : Nat} {z : List Int} (w : World) (hl : len ≤ 1048576) (hc : CodeAt w w.heap.size a len z) :
    Calls Tryd.prog 6 #[.slice a len cap] w (DParts w) := by
  go_enter Tryd.func6, Tryd.ntmps6
  go_wp2_with fail
  refine (d_New w w.heap.size (Nat.le_refl _) hl hc).mono ?_
  rintro e w1 ⟨rfl, hc1, hb1⟩
  go_wp2_with fail
  refine (d_Pick _ (hc1.alloc _) w1.heap.size 6 hc1.lt (by simp) (by omega) (by omega) 8 (fun j hj => by
    obtain ⟨v, ⟨x, h1, rfl⟩, h3⟩ := pick_cells (P := fun v => ∃ x : ByteArray, x.size ≤ 8 ∧ v = .string x) (w := w1) (t := 9) (cs := #[.string ⟨#[]⟩, .string ⟨#[97]⟩, .string ⟨#[97, 44, 98]⟩, .string ⟨#[44]⟩, .string ⟨#[97, 44, 44, 98, 44]⟩, .string ⟨#[97, 10, 98, 10]⟩]) (n := 6) (fun j hj => by
      rcases (show j = 0 ∨ j = 1 ∨ j = 2 ∨ j = 3 ∨ j = 4 ∨ j = 5 by omega) with rfl | rfl | rfl | rfl | rfl | rfl
      all_goals exact ⟨_, ⟨_, by decide, rfl⟩, rfl⟩) j hj
    exact ⟨x, h1, h3⟩)).mono ?_
  rintro e w2 ⟨s, hs, rfl, hc2, hg2⟩
  go_wp2_with fail
  refine (d_PickInt _ (hc2.alloc _) w2.heap.size 2 hc2.lt (by simp) (by omega) (by omega) 10 44 (fun j hj => by
    obtain ⟨v, ⟨x, h1, h2, rfl⟩, h3⟩ := pick_cells (P := fun v => ∃ x : Int, 10 ≤ x ∧ x ≤ 44 ∧ v = .int .i64 x) (w := w2) (t := 3) (cs := #[.int .i64 44, .int .i64 10]) (n := 2) (fun j hj => by
      rcases (show j = 0 ∨ j = 1 by omega) with rfl | rfl
      all_goals exact ⟨_, ⟨_, by omega, by omega, rfl⟩, rfl⟩) j hj
    exact ⟨x, h1, h2, h3⟩)).mono ?_
  rintro e w3 ⟨x, hx0, hx1, rfl, hc3, hg3⟩
  obtain ⟨b, rfl⟩ := Int.eq_ofNat_of_zero_le (show (0 : Int) ≤ x by omega)
  have hb : b < 256 := by omega
  go_wp2
  go_ret2
  exact ⟨s, b, hs, hb, rfl, hb1.trans (below_of_grown ((grown_alloc (grown_refl _ _) _).trans (hg2.trans ((grown_alloc (grown_refl _ _) _).trans hg3))) (Nat.le_refl _) hb1.size)⟩
set_option maxRecDepth 20000 in
set_option maxHeartbeats 1000000 in
theorem walkFnPartsBack (a : Option Addr) (len cap : Nat) (z : List Int) (w : World) (hr : IsRow .u8 w a len cap z) (hm : ML w) : Calls Tryd.prog 3 #[.slice a len cap] w fun e w' => e = .returned (.bool true) ∧ Below w.heap.size w w' := by
  have hcode := Lib.hid (code_of_row hr)
  clear hr
  rcases hbig : decide (1048576 < len) with _ | _
  · have hl : len ≤ 1048576 := by simp at hbig; omega
    go_enter Tryd.func3, Tryd.ntmps3
    go_wp2_with (go_at_call 5; refine (c_big _ _ _ _).mono ?_; rintro e w' ⟨rfl, rfl⟩; rw [hbig])
    refine (d_DrawParts _ hl hcode.out).mono ?_
    rintro e w1 ⟨s, b, hs, hb, rfl, hb1⟩
    have cP := fun w => cP_Parts s b hb (by omega) w
    have cI := cI_Parts s b hb (by omega) w1 (hm.below hb1)
    have hln := sp_length (UInt8.ofNat b) s
    have hc := count_le (UInt8.ofNat b) s
    have hjo := join_sp (UInt8.ofNat b) _ s rfl
    generalize sp (UInt8.ofNat b) s = L at cP cI hln hjo
    obtain ⟨n, hn⟩ : ∃ n, L.length = n := ⟨_, rfl⟩
    have hn1 : 1 ≤ n := by omega
    have hn2 : n ≤ 9 := by omega
    unfold PartsPost at cP
    unfold PartsPostI at cI
    rw [hn] at cP cI
    have HN := Lib.hid hn
    have HJ := Lib.hid hjo
    clear hln hc hn hjo hl hm hcode
    go_wp2_with fail
    refine cI.mono ?_
    rintro e w2 ⟨g, rfl, hB2, hg2, hb2⟩
    have B2 := hb1.trans (hb2.mono hb1.size)
    have hS2 := SBox.at_ hB2
    have hn0 : ((n : Int) == 0) = false := by simp; omega
    have hn00 : (0 : Int) < (n : Int) := by omega
    have hL0 : 0 < L.length := by have := HN.out; omega
    have c0 := hS2.2 0 _ (List.getElem?_eq_getElem hL0)
    have hx0 := join_one (UInt8.ofNat b) L hL0
    generalize L[0] = x0 at c0 hx0
    have HX0 := Lib.hid hx0
    clear hx0 hL0
    go_wp2_with fail
    go_loopw [6, 7] (fun bk i wr => ∃ (k : Nat) (t : ByteArray), 1 ≤ k ∧ k ≤ n ∧ bk = .string t ∧ t = joinC (UInt8.ofNat b) (L.take k) ∧ i = .int .i64 k ∧ Below w2.heap.size w2 wr) (fun _ i _ => n - (intOf i).toNat)
    case atStart =>
      exact ⟨1, x0, Nat.le_refl _, hn1, rfl, HX0.out, rfl, Below.refl _ _⟩
    case round =>
      obtain ⟨k, t, hk1, hk, rfl, ht, rfl, hbel⟩ := hrel
      by_cases hlt : k < n
      · obtain ⟨x, hx⟩ : ∃ x, L[k]? = some x := ⟨_, List.getElem?_eq_getElem (by have := HN.out; omega)⟩
        have q0 := bkeep (hbel.block g hS2.1) (hS2.2 k x hx)
        have hjt := join_take (UInt8.ofNat b) L k hk1 x hx
        have hjs := join_size (UInt8.ofNat b) L (n - (k + 1)) (k + 1) (by omega) (by have := HN.out; omega)
        rw [HJ.out, hjt, ← ht, ba_sz, ba_sz, ← tx1] at hjs
        rw [← ht, ← tx1] at hjt
        have hz1 : (tx [UInt8.ofNat b]).size = 1 := rfl
        have hk0 : (k : Int) < (n : Int) := by omega
        have hk2 : (0 : Int) ≤ (k : Int) := by omega
        have hcv := conv_one wr.drew (b : Int) b rfl
        rw [show wr.drew.alloc (.cells #[.int .u8 (b : Int)] 5) = (wr.alloc (.cells #[.int .u8 (b : Int)] 5)).drew from rfl, show wr.drew.heap.size = wr.heap.size from rfl] at hcv
        have hba := hbel.alloc hbel.size (.cells #[.int .u8 (b : Int)] 5)
        have q1 := bkeep (hba.block g hS2.1) (hS2.2 k x hx)
        generalize tx [UInt8.ofNat b] = u at hjt hjs hz1 hcv
        have HT := Lib.hid hjt
        clear hjt ht hx
        go_wp2_with fail
        refine wp_region_held_drew (S := fun w' => w'.cell? ⟨g, k, none⟩ = some (.string x) ∧ Below w2.heap.size w2 w') (by kernel_rfl) (⟨q0, hbel.drew⟩) (fun hHeld => ?_)
        refine wpAnyH_take (i := 0) (oi := { dst := some 30, op := Op.move (Operand.tmp 6), type := 9, pos := _, after := #[], guard := none }) (v := ?_) rfl (by kernel_rfl) (by kernel_rfl) (by kernel_rfl) (fun _ _ _ h => h) (Or.inl ⟨by kernel_rfl, ?_⟩) (by assumption) ?_
        rotate_left
        · intro w hSw; obtain ⟨z0, _⟩ := hSw; go_simp; first | done | (with_reducible rfl) | (rw [if_neg (by omega)])
        try simp only [Act.put, List.setIfInBounds_toArray, List.set_cons_zero, List.set_cons_succ]
        refine wpAnyH_take (i := 1) (oi := { dst := some 31, op := Op.move (Operand.tmp 4), type := 5, pos := _, after := #[], guard := none }) (v := ?_) rfl (by kernel_rfl) (by kernel_rfl) (by kernel_rfl) (fun _ _ _ h => h) (Or.inl ⟨by kernel_rfl, ?_⟩) (by assumption) ?_
        rotate_left
        · intro w hSw; obtain ⟨z0, _⟩ := hSw; go_simp; first | done | (with_reducible rfl) | (rw [if_neg (by omega)])
        try simp only [Act.put, List.setIfInBounds_toArray, List.set_cons_zero, List.set_cons_succ]
        refine wpAnyH_take (i := 5) (oi := { dst := some 35, op := Op.move (Operand.tmp 5), type := 26, pos := _, after := #[], guard := none }) (v := ?_) rfl (by kernel_rfl) (by kernel_rfl) (by kernel_rfl) (fun _ _ _ h => h) (Or.inl ⟨by kernel_rfl, ?_⟩) (by assumption) ?_
        rotate_left
        · intro w hSw; obtain ⟨z0, _⟩ := hSw; go_simp; first | done | (with_reducible rfl) | (rw [if_neg (by omega)])
        try simp only [Act.put, List.setIfInBounds_toArray, List.set_cons_zero, List.set_cons_succ]
        refine wpAnyH_take (i := 6) (oi := { dst := some 36, op := Op.move (Operand.tmp 7), type := 3, pos := _, after := #[], guard := none }) (v := ?_) rfl (by kernel_rfl) (by kernel_rfl) (by kernel_rfl) (fun _ _ _ h => h) (Or.inl ⟨by kernel_rfl, ?_⟩) (by assumption) ?_
        rotate_left
        · intro w hSw; obtain ⟨z0, _⟩ := hSw; go_simp; first | done | (with_reducible rfl) | (rw [if_neg (by omega)])
        try simp only [Act.put, List.setIfInBounds_toArray, List.set_cons_zero, List.set_cons_succ]
        refine wpAnyH_take (i := 7) (oi := { dst := some 37, op := Op.indexAddr 26 (Operand.tmp 35) (Operand.tmp 36), type := 0, pos := _, after := #[{ on := 5, ground := Ground.data }, { on := 6, ground := Ground.data }], guard := none }) (v := ?_) rfl (by kernel_rfl) (by kernel_rfl) (by kernel_rfl) (fun _ _ _ h => h) (Or.inl ⟨by kernel_rfl, ?_⟩) (by assumption) ?_
        rotate_left
        · intro w hSw; obtain ⟨z0, _⟩ := hSw; go_simp; first | done | (with_reducible rfl) | (rw [if_neg (by omega)])
        try simp only [Act.put, List.setIfInBounds_toArray, List.set_cons_zero, List.set_cons_succ]
        refine wpAnyH_take (i := 8) (oi := { dst := some 38, op := Op.load 9 (Operand.tmp 37), type := 9, pos := _, after := #[{ on := 7, ground := Ground.data }], guard := none }) (v := ?_) rfl (by kernel_rfl) (by kernel_rfl) (by kernel_rfl) (fun _ _ _ h => h) (Or.inl ⟨by kernel_rfl, ?_⟩) (by assumption) ?_
        rotate_left
        · intro w hSw; obtain ⟨z0, _⟩ := hSw; go_simp; first | done | (with_reducible rfl) | (rw [if_neg (by omega)])
        try simp only [Act.put, List.setIfInBounds_toArray, List.set_cons_zero, List.set_cons_succ]
        refine wpAnyH_ready (rs := [2]) (by kernel_rfl) (by simp) ?_
        refine AllReadyH.cons (o := { dst := some 32, op := Op.buildSlice 22 1 #[(0, Operand.tmp 31)], type := 22, pos := _, after := #[{ on := 1, ground := Ground.data }], guard := none }) rfl (fun K hK => ?_) AllReadyH.nil
        rw [if_pos (by kernel_rfl)]
        go_simp
        refine hK.out _ _ ⟨q1, hba.drew⟩ (fun hHeld2 => ?_)
        clear hK K
        try simp only [Act.put, List.setIfInBounds_toArray, List.set_cons_zero, List.set_cons_succ]
        refine wpAnyH_ready (rs := [3]) (by kernel_rfl) (by simp) ?_
        refine AllReadyH.cons (o := { dst := some 33, op := Op.convert 22 9 (Operand.tmp 32), type := 9, pos := _, after := #[{ on := 2, ground := Ground.data }], guard := none }) rfl (fun K hK => ?_) AllReadyH.nil
        rw [if_pos (by kernel_rfl)]
        go_simp
        refine hK.out _ _ ⟨q1, hba.drew⟩ (fun hHeld2 => ?_)
        clear hK K
        try simp only [Act.put, List.setIfInBounds_toArray, List.set_cons_zero, List.set_cons_succ]
        refine wpAnyH_take (i := 4) (oi := { dst := some 34, op := Op.binOp BinOp.add 9 (Operand.tmp 30) (Operand.tmp 33) 9, type := 9, pos := _, after := #[{ on := 0, ground := Ground.data }, { on := 3, ground := Ground.data }], guard := none }) (v := ?_) rfl (by kernel_rfl) (by kernel_rfl) (by kernel_rfl) (fun _ _ _ h => h) (Or.inl ⟨by kernel_rfl, ?_⟩) (by assumption) ?_
        rotate_left
        · intro w hSw; obtain ⟨z0, _⟩ := hSw; go_simp; first | done | (with_reducible rfl) | (rw [if_neg (by omega)])
        try simp only [Act.put, List.setIfInBounds_toArray, List.set_cons_zero, List.set_cons_succ]
        refine wpAnyH_take (i := 9) (oi := { dst := some 39, op := Op.binOp BinOp.add 9 (Operand.tmp 34) (Operand.tmp 38) 9, type := 9, pos := _, after := #[{ on := 4, ground := Ground.data }, { on := 8, ground := Ground.data }], guard := none }) (v := ?_) rfl (by kernel_rfl) (by kernel_rfl) (by kernel_rfl) (fun _ _ _ h => h) (Or.inl ⟨by kernel_rfl, ?_⟩) (by assumption) ?_
        rotate_left
        · intro w hSw; obtain ⟨z0, _⟩ := hSw; go_simp; first | done | (with_reducible rfl) | (rw [if_neg (by omega)])
        try simp only [Act.put, List.setIfInBounds_toArray, List.set_cons_zero, List.set_cons_succ]
        refine wpAnyH_take (i := 10) (oi := { dst := some 6, op := Op.assign (Operand.tmp 39), type := 9, pos := _, after := #[{ on := 9, ground := Ground.data }, { on := 0, ground := Ground.phase }, { on := 1, ground := Ground.phase }, { on := 2, ground := Ground.phase }, { on := 3, ground := Ground.phase }, { on := 4, ground := Ground.phase }, { on := 5, ground := Ground.phase }, { on := 6, ground := Ground.phase }, { on := 7, ground := Ground.phase }, { on := 8, ground := Ground.phase }, { on := 9, ground := Ground.phase }], guard := none }) (v := ?_) rfl (by kernel_rfl) (by kernel_rfl) (by kernel_rfl) (fun _ _ _ h => h) (Or.inl ⟨by kernel_rfl, ?_⟩) (by assumption) ?_
        rotate_left
        · intro w hSw; obtain ⟨z0, _⟩ := hSw; go_simp; first | done | (with_reducible rfl) | (rw [if_neg (by omega)])
        try simp only [Act.put, List.setIfInBounds_toArray, List.set_cons_zero, List.set_cons_succ]
        refine wpAnyH_done (by kernel_rfl) ?_ _
        go_wp2
        go_roundw
        case rel => exact ⟨k + 1, _, by omega, by omega, rfl, by rw [HT.out], by go_num, hba.drew⟩
        case measure => simp [intOf]; omega
      · obtain rfl : n = k := by omega
        have hts : t = s := by rw [ht, List.take_of_length_le (by rw [HN.out]; exact Nat.le_refl _), HJ.out]
        clear ht
        subst hts
        go_wp2_with fail
        refine (cP _).mono ?_
        rintro e w4 ⟨g4, cap4, rfl, hS4, hg4, hb4⟩
        go_wp2
        go_ret
        exact ⟨ret_bool (by first | rfl | simp), (B2.trans (hbel.mono B2.size)).trans (hb4.mono (B2.trans (hbel.mono B2.size)).size)⟩
  · go_enter Tryd.func3, Tryd.ntmps3
    go_wp2_with (go_at_call 5; refine (c_big _ _ _ _).mono ?_; rintro e w' ⟨rfl, rfl⟩; rw [hbig])
    go_ret
    exact ⟨rfl, Below.refl _ _⟩
end Go.Proofs.YtmfeheglpfndpaaDoor
