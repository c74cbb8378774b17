/- Contracts of both SameRaw. Conditions: the descriptions can be read. -/
import Derived.Test.YtcoghgpgfaifaaaRawE
import Derived.Laws.StructEq
namespace Go.Proofs.Ytcoghgpgfaifaaa
open Go.RowKit
set_option linter.unusedVariables false
set_option linter.unusedSimpArgs false
def fEq (x y : Fld) : Bool := x.n == y.n && (x.k == y.k && (x.r == y.r && (x.p == y.p && x.f == y.f)))
theorem fEq_self (x : Fld) : fEq x x = true := by simp [fEq]
theorem fEq_ne {x y : Fld} (h : x ≠ y) : fEq x y = false := by
  rw [Bool.eq_false_iff]
  intro hh
  simp only [fEq, Bool.and_eq_true, beq_iff_eq] at hh
  obtain ⟨h1, h2, h3, h4, h5⟩ := hh
  cases x; cases y
  simp only at h1 h2 h3 h4 h5
  subst h1 h2 h3 h4 h5
  exact h rfl
theorem neqF (x y : Fld) (w : World) : (binOp .neq 50 (.agg #[.int .i64 x.n, .int .i64 x.k, .bool x.r, .bool x.p, .int .i64 x.f]) (.agg #[.int .i64 y.n, .int .i64 y.k, .bool y.r, .bool y.p, .int .i64 y.f])).run Try.prog w = .ok (.bool (!fEq x y)) w := by
  have u3 := Try.underlying3
  have a3 := Try.isAgg3
  have z3 := Try.sizeOf3
  have u4 := Try.underlying4
  have a4 := Try.isAgg4
  have z4 := Try.sizeOf4
  have hS : Try.prog.underlying 50 = some (.struct (Try.prog.fieldsOf 50)) := by kernel_rfl
  have hp : Try.prog.stoodInHeld 50 = false := by kernel_rfl
  rw [run_neq_struct, show (10000 : Nat) = 9999 + 1 from rfl, run_equalIn_agg w 9999 50 _ _ hS hp]
  simp only [Program.fieldsOf, Try.underlying50]
  go_simp
  unfold fEq
  by_cases h1 : x.n = y.n <;> by_cases h2 : x.k = y.k <;> by_cases h3 : x.r = y.r <;> by_cases h4 : x.p = y.p <;> by_cases h5 : x.f = y.f <;> simp [h1, h2, h3, h4, h5]
theorem grdF (a b : Operand) (xs ys : Array Value) (w : World) : (eqGuard .neq 50 a b (.agg xs) (.agg ys)).run Try.prog w = .ok () w := run_eqGuard_agg _ _ _ _ _ _ _ (by kernel_rfl)
theorem list_eq {α : Type} {l m : List α} {n : Nat} (h1 : l.length = n) (h2 : m.length = n) (h : ∀ j, j < n → l[j]? = m[j]?) : l = m := by
  apply List.ext_getElem?
  intro j
  rcases Nat.lt_or_ge j n with hj | hj
  · exact h j hj
  · rw [List.getElem?_eq_none (by omega), List.getElem?_eq_none (by omega)]
theorem list_ne {α : Type} {l m : List α} {k : Nat} {x y : α} (h1 : l[k]? = some x) (h2 : m[k]? = some y) (h : x ≠ y) : l ≠ m := by
  intro e
  rw [e, h2] at h1
  exact h (Option.some.inj h1).symm
theorem bdrewN (w : World) (n : Nat) : Below w.heap.size w (w.drewN n) := ⟨rfl, rfl, rfl, Nat.le_refl _, fun _ _ => rfl⟩
set_option maxHeartbeats 1000000 in
theorem c_EqualF (a1 a2 : Option Addr) (n1 n2 c1 c2 : Nat) (fs gs : List Fld) (w : World) (hn1 : fs.length = n1) (hn2 : gs.length = n2) (hle : n1 ≤ 1048576) (h1 : FAt w 0 a1 fs) (h2 : FAt w 0 a2 gs) :
    Calls Try.prog 29 #[.slice a1 n1 c1, .slice a2 n2 c2] w fun e w' => e = .returned (.bool (decide (fs = gs))) ∧ Below w.heap.size w w' := by
  by_cases hlen : n1 = n2
  · subst hlen
    go_enter Try.func29, Try.ntmps29
    go_wp2_with fail
    go_loopw [13] (fun i wr => ∃ (k : Nat), k ≤ n1 ∧ i = .int .i64 k ∧ (∀ j, j < k → fs[j]? = gs[j]?) ∧ Below w.heap.size w wr) (fun i _ => n1 - (intOf i).toNat)
    case atStart => exact ⟨0, Nat.zero_le _, rfl, fun j hj => absurd hj (Nat.not_lt_zero _), Below.refl _ _⟩
    case round =>
      obtain ⟨k, hk, rfl, hall, hbel⟩ := hrel
      have HA := Lib.hid hall
      clear hall
      by_cases hlt : k < n1
      · obtain ⟨b1, o1, rfl, _, hb1, hc1⟩ := h1 (by omega)
        obtain ⟨b2, o2, rfl, _, hb2, hc2⟩ := h2 (by omega)
        have hx : fs[k]? = some fs[k] := List.getElem?_eq_getElem (by omega)
        have hy : gs[k]? = some gs[k] := List.getElem?_eq_getElem (by omega)
        generalize fs[k] = x at hx
        generalize gs[k] = y at hy
        obtain ⟨q0, q1, q2, q3, q4⟩ := (F5.of hc1 hx).below hbel hb1
        obtain ⟨p0, p1, p2, p3, p4⟩ := (F5.of hc2 hy).below hbel hb2
        have hk0 : (k : Int) < (n1 : Int) := by omega
        have hk1 : (0 : Int) ≤ (k : Int) := by omega
        have hg := fun a b w => grdF a b #[.int .i64 x.n, .int .i64 x.k, .bool x.r, .bool x.p, .int .i64 x.f] #[.int .i64 y.n, .int .i64 y.k, .bool y.r, .bool y.p, .int .i64 y.f] w
        have hq := fun w => neqF x y w
        have HX := Lib.hid hx
        have HY := Lib.hid hy
        clear hc1 hc2 h1 h2 hx hy
        by_cases he : x = y
        · subst he
          rw [fEq_self] at hq
          go_wp2_with fail
          go_quiet (fail)
          go_wp2
          go_roundw
          case rel => exact ⟨k + 1, by omega, by go_num, fun j hj => by
            rcases Nat.lt_or_ge j k with h' | h'
            · exact HA.out j h'
            · obtain rfl : j = k := by omega
              rw [HX.out, HY.out], hbel.trans ((bdrewN _ _).mono hbel.size)⟩
          case measure => simp [intOf]; omega
        · rw [fEq_ne he] at hq
          have HN : Hid (decide (fs = gs) = false) := Lib.hid (by simpa using list_ne HX.out HY.out he)
          go_wp2_with fail
          go_quiet (fail)
          go_wp2
          go_ret
          exact ⟨by rw [HN.out]; rfl, hbel.trans ((bdrewN _ _).mono hbel.size)⟩
      · obtain rfl : n1 = k := by omega
        have HN : Hid (decide (fs = gs) = true) := Lib.hid (by simpa using list_eq hn1 hn2 HA.out)
        go_wp2
        go_ret
        exact ⟨by rw [HN.out]; rfl, hbel⟩
  · have hi : ((n1 : Int) == (n2 : Int)) = false := by simp; omega
    have hi2 : ¬ (n1 : Int) = (n2 : Int) := by omega
    have HN : Hid (decide (fs = gs) = false) := Lib.hid (by simp only [decide_eq_false_iff_not]; intro e; rw [e] at hn1; omega)
    go_enter Try.func29, Try.ntmps29
    go_wp2
    go_ret
    exact ⟨by rw [HN.out]; rfl, Below.refl _ _⟩
set_option maxHeartbeats 1000000 in
theorem c_Same1 (m m' : Msg) (a1 a2 : Option Addr) (c1 c2 : Nat) (w : World) (hle : m.fs.length ≤ 1048576) (h1 : FAt w 0 a1 m.fs) (h2 : FAt w 0 a2 m'.fs) :
    Calls Try.prog 28 #[.agg #[.int .i64 m.id, .slice a1 m.fs.length c1], .agg #[.int .i64 m'.id, .slice a2 m'.fs.length c2]] w fun e w' => e = .returned (.bool (decide (m = m'))) ∧ Below w.heap.size w w' := by
  have hb0 := below2 w (.cells #[.int .i64 m.id, .slice a1 m.fs.length c1] 45) (.cells #[.int .i64 m'.id, .slice a2 m'.fs.length c2] 45)
  have R0 := (Box.new w 45 #[.int .i64 m.id, .slice a1 m.fs.length c1]).alloc (.cells #[.int .i64 m'.id, .slice a2 m'.fs.length c2] 45)
  have S0 := Box.at1 w (.cells #[.int .i64 m.id, .slice a1 m.fs.length c1] 45) 45 #[.int .i64 m'.id, .slice a2 m'.fs.length c2]
  have q0 := R0.cell 0 rfl; have q1 := R0.cell 1 rfl; have p0 := S0.cell 0 rfl; have p1 := S0.cell 1 rfl
  by_cases hid : m.id = m'.id
  · have hid' : (m.id == m'.id) = true := by simpa using hid
    have HE : Hid (decide (m = m') = decide (m.fs = m'.fs)) := Lib.hid (by
      cases m; cases m'
      simp only at hid
      subst hid
      simp)
    clear hid
    go_enter Try.func28, Try.ntmps28
    go_wp2_with (go_at_call 29; refine (c_EqualF a1 a2 _ _ c1 c2 m.fs m'.fs _ rfl rfl hle (h1.below hb0) (h2.below hb0)).mono ?_; rintro e w2 ⟨rfl, hb2⟩)
    go_ret
    exact ⟨by rw [HE.out]; rfl, hb0.trans (hb2.mono hb0.size)⟩
  · have hid' : (m.id == m'.id) = false := by simpa using hid
    have HE : Hid (decide (m = m') = false) := Lib.hid (by simp only [decide_eq_false_iff_not]; intro e; exact hid (by rw [e]))
    go_enter Try.func28, Try.ntmps28
    go_wp2
    go_ret
    exact ⟨by rw [HE.out]; rfl, hb0⟩
set_option maxHeartbeats 1000000 in
theorem c_EqualM (a1 a2 : Option Addr) (n1 n2 c1 c2 : Nat) (ms ns : List Msg) (w : World) (hn1 : ms.length = n1) (hn2 : ns.length = n2) (hle : n1 ≤ 1048576) (hms : ∀ (j : Nat) (m : Msg), ms[j]? = some m → m.fs.length ≤ 1048576) (h1 : MAt w 0 a1 ms) (h2 : MAt w 0 a2 ns) :
    Calls Try.prog 27 #[.slice a1 n1 c1, .slice a2 n2 c2, .func (.func 28) #[] #[]] w fun e w' => e = .returned (.bool (decide (ms = ns))) ∧ Below w.heap.size w w' := by
  by_cases hlen : n1 = n2
  · subst hlen
    have HMS := Lib.hid hms
    clear hms
    go_enter Try.func27, Try.ntmps27
    go_wp2_with fail
    go_loopw [17] (fun i wr => ∃ (k : Nat), k ≤ n1 ∧ i = .int .i64 k ∧ (∀ j, j < k → ms[j]? = ns[j]?) ∧ Below w.heap.size w wr) (fun i _ => n1 - (intOf i).toNat)
    case atStart => exact ⟨0, Nat.zero_le _, rfl, fun j hj => absurd hj (Nat.not_lt_zero _), Below.refl _ _⟩
    case round =>
      obtain ⟨k, hk, rfl, hall, hbel⟩ := hrel
      have HA := Lib.hid hall
      clear hall
      by_cases hlt : k < n1
      · obtain ⟨b1, o1, rfl, _, hb1, hc1⟩ := h1 (by omega)
        obtain ⟨b2, o2, rfl, _, hb2, hc2⟩ := h2 (by omega)
        have hx : ms[k]? = some ms[k] := List.getElem?_eq_getElem (by omega)
        have hy : ns[k]? = some ns[k] := List.getElem?_eq_getElem (by omega)
        generalize ms[k] = x at hx
        generalize ns[k] = y at hy
        obtain ⟨g1, fa, fc, g2, _, g4⟩ := hc1 k x hx
        obtain ⟨k1, ga, gc, k2, _, k4⟩ := hc2 k y hy
        have q0 := bkeep (hbel.block b1 hb1) g1
        have q1 := bkeep (hbel.block b1 hb1) g2
        have p0 := bkeep (hbel.block b2 hb2) k1
        have p1 := bkeep (hbel.block b2 hb2) k2
        have l1 : b1 < wr.heap.size := Nat.lt_of_lt_of_le hb1 hbel.size
        have l2 : b2 < wr.heap.size := Nat.lt_of_lt_of_le hb2 hbel.size
        have hm := HMS.out k x hx
        have hk0 : (k : Int) < (n1 : Int) := by omega
        have hk1 : (0 : Int) ≤ (k : Int) := by omega
        have HX := Lib.hid hx
        have HY := Lib.hid hy
        have hx2 := hbel.trans ((below2 wr (.cells #[.int .i64 x.id, .slice fa x.fs.length fc] 45) (.cells #[.int .i64 y.id, .slice ga y.fs.length gc] 45)).mono hbel.size)
        have hS := c_Same1 x y fa ga fc gc _ hm (g4.keep (fun b _ hb => hx2.block b hb) hx2.size) (k4.keep (fun b _ hb => hx2.block b hb) hx2.size)
        clear hc1 hc2 h1 h2 hx hy g1 g2 g4 k1 k2 k4
        by_cases he : x = y
        · have hd : decide (x = y) = true := by simpa using he
          rw [hd] at hS
          have HXY := Lib.hid he
          clear he hd
          go_wp2_with (go_at_call 28; refine hS.mono ?_; rintro e w2 ⟨rfl, hb2⟩)
          go_roundw
          case rel => exact ⟨k + 1, by omega, by go_num, fun j hj => by
            rcases Nat.lt_or_ge j k with h' | h'
            · exact HA.out j h'
            · obtain rfl : j = k := by omega
              rw [HX.out, HY.out, HXY.out], hx2.trans (hb2.mono hx2.size)⟩
          case measure => simp [intOf]; omega
        · have hd : decide (x = y) = false := by simpa using he
          rw [hd] at hS
          have HN : Hid (decide (ms = ns) = false) := Lib.hid (by simpa using list_ne HX.out HY.out he)
          clear he hd
          go_wp2_with (go_at_call 28; refine hS.mono ?_; rintro e w2 ⟨rfl, hb2⟩)
          go_ret
          exact ⟨by rw [HN.out]; rfl, hx2.trans (hb2.mono hx2.size)⟩
      · obtain rfl : n1 = k := by omega
        have HN : Hid (decide (ms = ns) = true) := Lib.hid (by simpa using list_eq hn1 hn2 HA.out)
        go_wp2
        go_ret
        exact ⟨by rw [HN.out]; rfl, hbel⟩
  · have hi : ((n1 : Int) == (n2 : Int)) = false := by simp; omega
    have hi2 : ¬ (n1 : Int) = (n2 : Int) := by omega
    have HN : Hid (decide (ms = ns) = false) := Lib.hid (by simp only [decide_eq_false_iff_not]; intro e; rw [e] at hn1; omega)
    go_enter Try.func27, Try.ntmps27
    go_wp2
    go_ret
    exact ⟨by rw [HN.out]; rfl, Below.refl _ _⟩
set_option maxHeartbeats 1000000 in
theorem cI_SameRaw (a1 a2 : Option Addr) (n1 n2 c1 c2 : Nat) (ms ns : List Msg) (w : World) (hn1 : ms.length = n1) (hn2 : ns.length = n2) (hle : n1 ≤ 1048576) (hms : ∀ (j : Nat) (m : Msg), ms[j]? = some m → m.fs.length ≤ 1048576) (h1 : MAt w 0 a1 ms) (h2 : MAt w 0 a2 ns) :
    Calls Try.prog 12 #[.agg #[.slice a1 n1 c1], .agg #[.slice a2 n2 c2]] w fun e w' => e = .returned (.bool (decide (ms = ns))) ∧ Below w.heap.size w w' := by
  have hb0 := below2 w (.cells #[.slice a1 n1 c1] 29) (.cells #[.slice a2 n2 c2] 29)
  have R0 := (Box.new w 29 #[.slice a1 n1 c1]).alloc (.cells #[.slice a2 n2 c2] 29)
  have S0 := Box.at1 w (.cells #[.slice a1 n1 c1] 29) 29 #[.slice a2 n2 c2]
  have q0 := R0.cell 0 rfl; have p0 := S0.cell 0 rfl
  have hS := c_EqualM a1 a2 n1 n2 c1 c2 ms ns _ hn1 hn2 hle hms (h1.below hb0) (h2.below hb0)
  generalize decide (ms = ns) = b at hS ⊢
  clear hms
  go_enter Try.func12, Try.ntmps12
  go_wp2_with (go_at_call 27; refine hS.mono ?_; rintro e w2 ⟨rfl, hb2⟩)
  go_ret
  exact ⟨rfl, hb0.trans (hb2.mono hb0.size)⟩
end Go.Proofs.Ytcoghgpgfaifaaa
