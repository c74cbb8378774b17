/- The walk of FnVText. Conditions: the code's bytes can be read; the library's table stands in memory. -/
import Derived.Test.YtecmeomcgnjapaaDoorLawN1
import Derived.Test.YtecmeomcgnjapaaDoorViol
import Derived.Laws.StructEq
namespace Go.Proofs.YtecmeomcgnjapaaDoor
open Go.RowKit
set_option linter.unusedVariables false
set_option linter.unusedSimpArgs false
/-- a drawn violation -/
def DViol (w : World) (e : Ending) (w' : World) : Prop := ∃ c m f : Int, (-1 ≤ c ∧ c ≤ 10) ∧ (0 ≤ m ∧ m ≤ 3) ∧ (-1 ≤ f ∧ f ≤ 2) ∧ e = .returned (.agg #[.int .i64 c, .int .i64 m, .int .i64 f]) ∧ Below w.heap.size w w'
theorem d_DrawViolationText {a : Option Addr} {len cap : Nat} {z : List Int} (w : World) (hl : len ≤ 1048576) (hc : CodeAt w w.heap.size a len z) :
    Calls Tryd.prog 24 #[.slice a len cap] w (DViol w) := by
  have R0 := Box.new w 39 #[.int .i64 0, .int .i64 0, .int .i64 0]
  go_enter Tryd.func24, Tryd.ntmps24
  go_wp2_with fail
  refine (d_New _ w.heap.size (by simp) hl (hc.keep (fun k hk => Below.heap_alloc w _ k hk))).mono ?_
  rintro e w1 ⟨rfl, hc1, hb1⟩
  have hsz : (w.alloc (.cells #[.int .i64 0, .int .i64 0, .int .i64 0] 39)).heap.size = w.heap.size + 1 := by simp
  rw [hsz] at hc1
  have R1 := R0.all hb1
  have B1 := ((Below.refl w.heap.size w).alloc (Nat.le_refl _) (.cells #[.int .i64 0, .int .i64 0, .int .i64 0] 39)).trans (hb1.mono (by simp))
  have rl := R1.lt
  go_wp2_with fail
  refine (d_Below _ hc1 12 (by omega) (by omega)).mono ?_
  rintro e w2 ⟨x, hx0, hx1, rfl, hc2, hg2⟩
  rw [hiB_pos (by omega)] at hx1
  have R2 := R1.grown hg2 (by simp)
  have hgl2 := hc2.lt
  go_wp2_with fail
  refine (d_Below _ hc2 4 (by omega) (by omega)).mono ?_
  rintro e w3 ⟨m, hm0, hm1, rfl, hc3, hg3⟩
  rw [hiB_pos (by omega)] at hm1
  have R3 := R2.grown hg3 (by simp)
  go_wp2_with fail
  refine (d_Below _ hc3 4 (by omega) (by omega)).mono ?_
  rintro e w4 ⟨f, hf0, hf1, rfl, hc4, hg4⟩
  rw [hiB_pos (by omega)] at hf1
  have R4 := R3.grown hg4 (by simp)
  have rl4 := R4.lt
  have c0 := R4.cell 0 rfl; have c1 := R4.cell 1 rfl; have c2 := R4.cell 2 rfl
  have f0 := R4.free 0; have f1 := R4.free 1; have f2 := R4.free 2
  have hG := (hg2.trans hg3).trans hg4
  have B4 := B1.trans (below_of_grown hG (by simp) (by have := B1.size; omega))
  go_wp2
  have Z := ((R4.set_ 0 (.int .i64 (x - 1))).set_ 1 (.int .i64 m)).set_ 2 (.int .i64 (f - 1))
  have z0 : World.cell? _ ⟨w.heap.size, 0, none⟩ = some (.int .i64 (x - 1)) := Z.cell 0 rfl
  have z1 : World.cell? _ ⟨w.heap.size, 1, none⟩ = some (.int .i64 m) := Z.cell 1 rfl
  have z2 : World.cell? _ ⟨w.heap.size, 2, none⟩ = some (.int .i64 (f - 1)) := Z.cell 2 rfl
  exact bodyPost_ret (v := .agg #[.int .i64 (x - 1), .int .i64 m, .int .i64 (f - 1)]) (by simp [results, Tryd.results24, go_sem, c0, c1, c2, z0, z1, z2]) rfl ⟨_, _, _, ⟨by omega, by omega⟩, ⟨hm0, by omega⟩, ⟨by omega, by omega⟩, rfl, ((B4.setCell (Nat.le_refl _) _).setCell (Nat.le_refl _) _).setCell (Nat.le_refl _) _⟩
/-- bytes that can be read -/
def TailPost (B : Nat) (w : World) (e : Ending) (w' : World) : Prop := ∃ a' len' cap' z', w = w' ∧ e = .returned (.slice a' len' cap') ∧ CodeAt w B a' len' z' ∧ len' ≤ 1048576
theorem c_tail (a : Option Addr) (len cap : Nat) (z : List Int) (w : World) (B : Nat) (hlc : len ≤ cap) (hl : len ≤ 1048576) (hc : CodeAt w B a len z) :
    Calls Tryd.prog 25 #[.slice a len cap] w (TailPost B w) := by
  by_cases h0 : len = 0
  · subst h0
    go_enter Tryd.func25, Tryd.ntmps25
    go_wp2
    go_ret
    exact ⟨_, _, _, z, rfl, rfl, hc, hl⟩
  · obtain ⟨b, off, rfl, hb, hcell⟩ := hc (by omega)
    have h1 : ((len : Int) == 0) = false := by simp; omega
    have h2 : (1 : Int) ≤ (len : Int) := by omega
    have h3 : (len : Int) ≤ (cap : Int) := by omega
    have HC := Lib.hid hcell
    clear hcell hc
    by_cases hc1 : cap = 1
    · subst hc1
      go_enter Tryd.func25, Tryd.ntmps25
      go_wp2
      go_ret
      exact ⟨_, _, _, [], rfl, rfl, fun h => by omega, by omega⟩
    · have hc2 : ((cap : Int) == 1) = false := by simp; omega
      go_enter Tryd.func25, Tryd.ntmps25
      go_wp2
      go_ret
      refine ⟨_, _, _, z.drop 1, rfl, rfl, ?_, by omega⟩
      intro hl'
      refine ⟨b, off + 1, by first | rfl | (simp; omega) | (rw [if_neg (by omega)]), hb, fun i hi => ?_⟩
      rw [show off + 1 + i = off + (1 + i) by omega, HC.out (1 + i) (by omega)]
      simp [List.getD, List.getElem?_drop, Nat.add_comm]
theorem eqViol (c m f c' m' f' : Int) (w : World) : (binOp .eql 39 (.agg #[.int .i64 c, .int .i64 m, .int .i64 f]) (.agg #[.int .i64 c', .int .i64 m', .int .i64 f'])).run Tryd.prog w = .ok (.bool (c == c' && (m == m' && f == f'))) w := by
  have u3 := Tryd.underlying3
  have a3 := Tryd.isAgg3
  have z3 := Tryd.sizeOf3
  have hS : Tryd.prog.underlying 39 = some (.struct (Tryd.prog.fieldsOf 39)) := by kernel_rfl
  have hp : Tryd.prog.stoodInHeld 39 = false := by kernel_rfl
  rw [run_eql_struct, show (10000 : Nat) = 9999 + 1 from rfl, run_equalIn_agg w 9999 39 _ _ hS hp]
  simp only [Program.fieldsOf, Tryd.underlying39]
  go_simp
  by_cases h1 : c = c' <;> by_cases h2 : m = m' <;> by_cases h3 : f = f' <;> simp [h1, h2, h3]
theorem grdViol (x y : Operand) (xs ys : Array Value) (w : World) : (eqGuard .eql 39 x y (.agg xs) (.agg ys)).run Tryd.prog w = .ok () w := run_eqGuard_agg _ _ _ _ _ _ _ (by kernel_rfl)
def dgl (m : Nat) : List UInt8 := [UInt8.ofNat (48 + m)]
def dgf (f : Nat) : List UInt8 := if f = 0 then [45, 49] else [UInt8.ofNat (47 + f)]
def encV (c m f : Nat) : List UInt8 := (vword ((c + 1 : Nat) : Int)).data.toList ++ 32 :: (dgl m ++ 32 :: dgf f)
theorem encV_inj : ∀ c1 c2 : Fin 9, ∀ m1 m2 f1 f2 : Fin 4, encV c1.val m1.val f1.val = encV c2.val m2.val f2.val → c1.val = c2.val ∧ m1.val = m2.val ∧ f1.val = f2.val := by decide +kernel
theorem itoa_dgl (m : Nat) (h : m < 10) : Lib.itoa (m : Int) = dgl m := by rw [Lib.itoa_nonneg, Lib.decDigits_one h]; rfl
theorem itoa_dgf (f : Nat) (h : f < 4) : Lib.itoa ((f : Int) - 1) = dgf f := by
  by_cases h0 : f = 0
  · subst h0
    have := Lib.itoa_neg 1 (by omega)
    rw [Lib.decDigits_one (by omega)] at this
    exact this
  · have e : (f : Int) - 1 = ((f - 1 : Nat) : Int) := by omega
    rw [e, itoa_dgl _ (by omega)]
    unfold dgl dgf
    rw [if_neg h0, show 48 + (f - 1) = 47 + f by omega]
theorem vtx_data (c m f : Nat) (hc : c < 9) (hm : m < 4) (hf : f < 4) : (vtx ((c + 1 : Nat) : Int) m ((f : Int) - 1)).data.toList = encV c m f := by
  unfold vtx encV
  rw [if_neg (by omega), itoa_dgl m (by omega), itoa_dgf f hf]
  simp [tx, sp, ByteArray.data_append]
theorem vtx_beq {c1 m1 f1 c2 m2 f2 : Int} (a1 : 1 ≤ c1) (a2 : c1 ≤ 9) (b1 : 0 ≤ m1) (b2 : m1 ≤ 3) (d1 : -1 ≤ f1) (d2 : f1 ≤ 2) (a3 : 1 ≤ c2) (a4 : c2 ≤ 9) (b3 : 0 ≤ m2) (b4 : m2 ≤ 3) (d3 : -1 ≤ f2) (d4 : f2 ≤ 2) :
    ((vtx c1 m1 f1).toList == (vtx c2 m2 f2).toList) = (c1 == c2 && (m1 == m2 && f1 == f2)) := by
  obtain ⟨C1, rfl⟩ : ∃ C : Nat, c1 = ((C + 1 : Nat) : Int) := ⟨(c1 - 1).toNat, by omega⟩
  obtain ⟨C2, rfl⟩ : ∃ C : Nat, c2 = ((C + 1 : Nat) : Int) := ⟨(c2 - 1).toNat, by omega⟩
  obtain ⟨M1, rfl⟩ : ∃ C : Nat, m1 = (C : Int) := ⟨m1.toNat, by omega⟩
  obtain ⟨M2, rfl⟩ : ∃ C : Nat, m2 = (C : Int) := ⟨m2.toNat, by omega⟩
  obtain ⟨F1, rfl⟩ : ∃ C : Nat, f1 = (C : Int) - 1 := ⟨(f1 + 1).toNat, by omega⟩
  obtain ⟨F2, rfl⟩ : ∃ C : Nat, f2 = (C : Int) - 1 := ⟨(f2 + 1).toNat, by omega⟩
  rw [ByteArray.toList_eq, ByteArray.toList_eq, vtx_data C1 M1 F1 (by omega) (by omega) (by omega), vtx_data C2 M2 F2 (by omega) (by omega) (by omega)]
  by_cases h : C1 = C2 ∧ M1 = M2 ∧ F1 = F2
  · obtain ⟨rfl, rfl, rfl⟩ := h
    simp
  · have hne : encV C1 M1 F1 ≠ encV C2 M2 F2 := fun e => h (encV_inj ⟨C1, by omega⟩ ⟨C2, by omega⟩ ⟨M1, by omega⟩ ⟨M2, by omega⟩ ⟨F1, by omega⟩ ⟨F2, by omega⟩ e)
    have e1 : (encV C1 M1 F1 == encV C2 M2 F2) = false := by simpa using hne
    rw [e1]
    symm
    rw [Bool.eq_false_iff]
    intro hh
    simp only [Bool.and_eq_true, beq_iff_eq] at hh
    exact h (by omega)
set_option maxHeartbeats 1000000 in
theorem walkFnVText (a : Option Addr) (len cap : Nat) (z : List Int) (w : World) (hr : IsRow .u8 w a len cap z) (hp : Pow w) : Calls Tryd.prog 9 #[.slice a len cap] w fun e w' => e = .returned (.bool true) ∧ Below w.heap.size w w' := by
  have hlc : len ≤ cap := by rcases hr with ⟨_, h1, h2, _⟩ | ⟨_, _, h, _⟩ <;> omega
  have hcode := Lib.hid (code_of_row hr)
  clear hr
  rcases hbig : decide (1048576 < len) with _ | _
  · have hl : len ≤ 1048576 := by simp at hbig; omega
    go_enter Tryd.func9, Tryd.ntmps9
    go_wp2_with (go_at_call 18; refine (c_big _ _ _ _).mono ?_; rintro e w' ⟨rfl, rfl⟩; rw [hbig])
    refine (d_DrawViolationText _ hl hcode.out).mono ?_
    rintro e w1 ⟨c, m, f, hc, hm, hf, rfl, hb1⟩
    have hcode1 : Hid (CodeAt w1 w1.heap.size a len z) := Lib.hid (hcode.out.later hb1)
    have cI := fun w hp => cI_ViolationText c m f w (by omega) (by omega) (by omega) (by omega) hp
    have cP := fun w => cP_ViolationText c m f w (by omega) (by omega) (by omega) (by omega)
    have R0 := Box.new w1 39 #[.int .i64 c, .int .i64 m, .int .i64 f]
    have b0 := (Below.refl w1.heap.size w1).alloc (Nat.le_refl _) (.cells #[.int .i64 c, .int .i64 m, .int .i64 f] 39)
    have hcode2 : Hid (CodeAt (w1.alloc (.cells #[.int .i64 c, .int .i64 m, .int .i64 f] 39)) (w1.alloc (.cells #[.int .i64 c, .int .i64 m, .int .i64 f] 39)).heap.size a len z) := Lib.hid (hcode1.out.later b0)
    go_wp2_with fail
    refine (c_tail _ _ _ _ _ _ hlc hl hcode2.out).mono ?_
    rintro e w' ⟨a', len', cap', z', rfl, rfl, hcode3, hl'⟩
    have HC3 := Lib.hid hcode3
    clear hcode3
    go_wp2_with fail
    refine (d_DrawViolationText _ hl' HC3.out).mono ?_
    rintro e w2 ⟨c', m', f', hc', hm', hf', rfl, hb2⟩
    have R2 := R0.all hb2
    have B2 := hb1.trans ((b0.trans (hb2.mono (by simp))).mono hb1.size)
    have S2 := Box.new w2 39 #[.int .i64 c', .int .i64 m', .int .i64 f']
    have b3 := (Below.refl w2.heap.size w2).alloc (Nat.le_refl _) (.cells #[.int .i64 c', .int .i64 m', .int .i64 f'] 39)
    have B3 := B2.trans (b3.mono B2.size)
    have R3 := R2.all b3
    have q0 := R3.cell 0 rfl; have q1 := R3.cell 1 rfl; have q2 := R3.cell 2 rfl
    have rl := R2.lt
    have cJ := fun w hp => cI_ViolationText c' m' f' w (by omega) (by omega) (by omega) (by omega) hp
    go_wp2_with fail
    refine (cI _ (hp.below B3)).mono ?_
    rintro e w4 ⟨rfl, hb4⟩
    have B4 := B3.trans (hb4.mono B3.size)
    have R4 := R3.all hb4
    have S4 := S2.all hb4
    have p0 := R4.cell 0 rfl; have p1 := R4.cell 1 rfl; have p2 := R4.cell 2 rfl
    clear q0 q1 q2
    go_wp2_with fail
    refine (cP _).mono ?_
    rintro e w5 ⟨rfl, hb5⟩
    have B5 := B4.trans (hb5.mono B4.size)
    have R5 := R4.all hb5
    have S5 := S4.all hb5
    have q0 := R5.cell 0 rfl; have q1 := R5.cell 1 rfl; have q2 := R5.cell 2 rfl
    have s0 := S5.cell 0 rfl; have s1 := S5.cell 1 rfl; have s2 := S5.cell 2 rfl
    clear p0 p1 p2
    rcases (show c < 1 ∨ 9 < c ∨ (1 ≤ c ∧ c ≤ 9) by omega) with h | h | ⟨h, h'⟩
    · go_wp2_with fail
      go_ret
      exact ⟨rfl, B5⟩
    · have h0 : 1 ≤ c := by omega
      go_wp2_with fail
      go_ret
      exact ⟨rfl, B5⟩
    · rcases (show c' < 1 ∨ 9 < c' ∨ (1 ≤ c' ∧ c' ≤ 9) by omega) with g | g | ⟨g, g'⟩
      · go_wp2_with fail
        go_ret
        exact ⟨rfl, B5⟩
      · have h0 : 1 ≤ c' := by omega
        go_wp2_with fail
        go_ret
        exact ⟨rfl, B5⟩
      · have hq := vtx_beq h h' hm.1 hm.2 hf.1 hf.2 g g' hm'.1 hm'.2 hf'.1 hf'.2
        generalize vtx c m f = X at hq
        generalize vtx c' m' f' = Y at hq cJ
        go_wp2_with fail
        refine wp_region_held_drew (S := fun w' => w'.cell? ⟨w1.heap.size, 0, none⟩ = some (.int .i64 c) ∧ w'.cell? ⟨w1.heap.size, 1, none⟩ = some (.int .i64 m) ∧ w'.cell? ⟨w1.heap.size, 2, none⟩ = some (.int .i64 f) ∧ w'.cell? ⟨w2.heap.size, 0, none⟩ = some (.int .i64 c') ∧ w'.cell? ⟨w2.heap.size, 1, none⟩ = some (.int .i64 m') ∧ w'.cell? ⟨w2.heap.size, 2, none⟩ = some (.int .i64 f') ∧ Below w.heap.size w w') (by kernel_rfl) (⟨q0, q1, q2, s0, s1, s2, B5.drew⟩) (fun hHeld => ?_)
        refine wpAnyH_take (i := 0) (oi := { dst := some 37, op := Op.move (Operand.tmp 5), type := 9, pos := _, after := #[], guard := none }) (v := ?_) rfl (by kernel_rfl) (by kernel_rfl) (by kernel_rfl) (fun _ _ _ h => h) (Or.inl ⟨by kernel_rfl, ?_⟩) (by assumption) ?_
        rotate_left
        · intro w hSw; obtain ⟨z0, z1, z2, z3, z4, z5, _⟩ := hSw; go_simp; first | done | (with_reducible rfl) | (rw [if_neg (by omega)])
        try simp only [Act.put, List.setIfInBounds_toArray, List.set_cons_zero, List.set_cons_succ]
        refine wpAnyH_take (i := 1) (oi := { dst := some 38, op := Op.load 39 (Operand.tmp 4), type := 39, pos := _, after := #[], guard := none }) (v := ?_) rfl (by kernel_rfl) (by kernel_rfl) (by kernel_rfl) (fun _ _ _ h => h) (Or.inl ⟨by kernel_rfl, ?_⟩) (by assumption) ?_
        rotate_left
        · intro w hSw; obtain ⟨z0, z1, z2, z3, z4, z5, _⟩ := hSw; go_simp; first | done | (with_reducible rfl) | (rw [if_neg (by omega)])
        try simp only [Act.put, List.setIfInBounds_toArray, List.set_cons_zero, List.set_cons_succ]
        refine wpAnyH_take (i := 4) (oi := { dst := some 41, op := Op.load 39 (Operand.tmp 3), type := 39, pos := _, after := #[], guard := none }) (v := ?_) rfl (by kernel_rfl) (by kernel_rfl) (by kernel_rfl) (fun _ _ _ h => h) (Or.inl ⟨by kernel_rfl, ?_⟩) (by assumption) ?_
        rotate_left
        · intro w hSw; obtain ⟨z0, z1, z2, z3, z4, z5, _⟩ := hSw; go_simp; first | done | (with_reducible rfl) | (rw [if_neg (by omega)])
        try simp only [Act.put, List.setIfInBounds_toArray, List.set_cons_zero, List.set_cons_succ]
        refine wpAnyH_take (i := 5) (oi := { dst := some 42, op := Op.load 39 (Operand.tmp 4), type := 39, pos := _, after := #[], guard := none }) (v := ?_) rfl (by kernel_rfl) (by kernel_rfl) (by kernel_rfl) (fun _ _ _ h => h) (Or.inl ⟨by kernel_rfl, ?_⟩) (by assumption) ?_
        rotate_left
        · intro w hSw; obtain ⟨z0, z1, z2, z3, z4, z5, _⟩ := hSw; go_simp; first | done | (with_reducible rfl) | (rw [if_neg (by omega)])
        try simp only [Act.put, List.setIfInBounds_toArray, List.set_cons_zero, List.set_cons_succ]
        refine wpAnyH_take (i := 6) (oi := { dst := some 43, op := Op.binOp BinOp.eql 39 (Operand.tmp 41) (Operand.tmp 42) 39, type := 4, pos := _, after := #[{ on := 4, ground := Ground.data }, { on := 5, ground := Ground.data }], guard := none }) (v := .bool (c == c' && (m == m' && f == f'))) rfl (by kernel_rfl) (by kernel_rfl) (by kernel_rfl) (fun _ _ _ h => h) (Or.inl ⟨by kernel_rfl, ?_⟩) (by assumption) ?_
        · intro w hSw; have hb := eqViol c m f c' m' f' w; have hg := fun x y => grdViol x y #[.int .i64 c, .int .i64 m, .int .i64 f] #[.int .i64 c', .int .i64 m', .int .i64 f'] w; go_simp; by_cases h1 : c = c' <;> by_cases h2 : m = m' <;> by_cases h3 : f = f' <;> simp [h1, h2, h3]
        try simp only [Act.put, List.setIfInBounds_toArray, List.set_cons_zero, List.set_cons_succ]
        refine wpAnyH_ready (rs := [2]) (by kernel_rfl) (by simp) ?_
        refine AllReadyH.cons (o := { dst := some 39, op := Op.call { callee := Callee.value (Operand.func 23), args := #[Operand.tmp 38], argTypes := #[39] }, type := 9, pos := _, after := #[{ on := 1, ground := Ground.data }], guard := none }) rfl (fun K hK => ?_) AllReadyH.nil
        rw [if_pos (by kernel_rfl)]
        go_simp
        go_at_call 23
        refine (cJ _ (hp.below B5.drew)).mono ?_
        rintro e w6 ⟨rfl, hb6⟩
        have B6 := B5.drew.trans (hb6.mono B5.drew.size)
        have R6 := R5.drew.all hb6
        have S6 := S5.drew.all hb6
        go_wp2_with fail
        refine hK.out _ _ ⟨R6.cell 0 rfl, R6.cell 1 rfl, R6.cell 2 rfl, S6.cell 0 rfl, S6.cell 1 rfl, S6.cell 2 rfl, B6⟩ (fun hHeld2 => ?_)
        clear hK K
        try simp only [Act.put, List.setIfInBounds_toArray, List.set_cons_zero, List.set_cons_succ]
        refine wpAnyH_take (i := 3) (oi := { dst := some 40, op := Op.binOp BinOp.eql 9 (Operand.tmp 37) (Operand.tmp 39) 9, type := 4, pos := _, after := #[{ on := 0, ground := Ground.data }, { on := 2, ground := Ground.data }], guard := none }) (v := ?_) rfl (by kernel_rfl) (by kernel_rfl) (by kernel_rfl) (fun _ _ _ h => h) (Or.inl ⟨by kernel_rfl, ?_⟩) (by assumption) ?_
        rotate_left
        · intro w hSw; obtain ⟨z0, z1, z2, z3, z4, z5, _⟩ := hSw; go_simp; first | done | (with_reducible rfl) | (rw [if_neg (by omega)])
        try simp only [Act.put, List.setIfInBounds_toArray, List.set_cons_zero, List.set_cons_succ]
        refine wpAnyH_take (i := 7) (oi := { dst := some 44, op := Op.binOp BinOp.eql 4 (Operand.tmp 40) (Operand.tmp 43) 4, type := 4, pos := _, after := #[{ on := 3, ground := Ground.data }, { on := 6, ground := Ground.data }], guard := none }) (v := ?_) rfl (by kernel_rfl) (by kernel_rfl) (by kernel_rfl) (fun _ _ _ h => h) (Or.inl ⟨by kernel_rfl, ?_⟩) (by assumption) ?_
        rotate_left
        · intro w hSw; obtain ⟨z0, z1, z2, z3, z4, z5, _⟩ := hSw; go_simp; first | done | (with_reducible rfl) | (rw [if_neg (by omega)])
        try simp only [Act.put, List.setIfInBounds_toArray, List.set_cons_zero, List.set_cons_succ]
        refine wpAnyH_take (i := 8) (oi := { dst := some 2, op := Op.assign (Operand.tmp 44), type := 4, pos := _, after := #[{ on := 7, ground := Ground.data }, { on := 2, ground := Ground.chain }, { on := 0, ground := Ground.phase }, { on := 1, ground := Ground.phase }, { on := 2, ground := Ground.phase }, { on := 3, ground := Ground.phase }, { on := 4, ground := Ground.phase }, { on := 5, ground := Ground.phase }, { on := 6, ground := Ground.phase }, { on := 7, ground := Ground.phase }], guard := none }) (v := ?_) rfl (by kernel_rfl) (by kernel_rfl) (by kernel_rfl) (fun _ _ _ h => h) (Or.inl ⟨by kernel_rfl, ?_⟩) (by assumption) ?_
        rotate_left
        · intro w hSw; obtain ⟨z0, z1, z2, z3, z4, z5, _⟩ := hSw; go_simp; first | done | (with_reducible rfl) | (rw [if_neg (by omega)])
        try simp only [Act.put, List.setIfInBounds_toArray, List.set_cons_zero, List.set_cons_succ]
        refine wpAnyH_done (by kernel_rfl) ?_ _
        go_wp2
        go_ret
        exact ⟨ret_bool (by first | rfl | simp | simp [hq]), B6⟩
  · go_enter Tryd.func9, Tryd.ntmps9
    go_wp2_with (go_at_call 18; refine (c_big _ _ _ _).mono ?_; rintro e w' ⟨rfl, rfl⟩; rw [hbig])
    go_ret
    exact ⟨rfl, Below.refl _ _⟩
end Go.Proofs.YtecmeomcgnjapaaDoor
