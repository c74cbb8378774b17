/- The drawing functions of the reference: what they answer lies in a range, they keep the cursor whole and touch no other memory that was there. Conditions: none on the bytes drawn from. -/
import Derived.Test.YtcoghgpgfaifaaaRow
import Derived.Test.YtcoghgpgfaifaaaBits
import Derived.Deep.QuietTactic
import Derived.BigQuiet
namespace Go.Proofs.Ytcoghgpgfaifaaa
open Go.RowKit
set_option linter.unusedVariables false
set_option linter.unusedSimpArgs false

/-- the bytes that are drawn from can be read, below block B -/
def CodeAt (w : World) (B : Nat) (a : Option Addr) (len : Nat) (z : List Int) : Prop :=
  0 < len → ∃ b off, a = some ⟨b, off, none⟩ ∧ b < B ∧ ∀ i, i < len → w.cell? ⟨b, off + i, none⟩ = some (.int .u8 (z.getD i 0))
theorem CodeAt.keep {w w' : World} {B : Nat} {a : Option Addr} {len : Nat} {z : List Int} (h : CodeAt w B a len z) (hb : ∀ k, k < B → w'.heap[k]? = w.heap[k]?) : CodeAt w' B a len z := by
  intro hl
  obtain ⟨b, off, e, hB, hc⟩ := h hl
  exact ⟨b, off, e, hB, fun i hi => (World.cell?_of_block (a := ⟨b, off + i, none⟩) (hb b hB)).trans (hc i hi)⟩
/-- block g holds a cursor -/
def Cur (w : World) (B g : Nat) (a : Option Addr) (len cap : Nat) (z : List Int) : Prop :=
  B ≤ g ∧ len ≤ 1048576 ∧ CodeAt w B a len z ∧ ∃ i h : Int, 0 ≤ i ∧ i ≤ len ∧ Box w g 81 #[.slice a len cap, .int .i64 i, .int .i64 h]
section
variable {w w' w'' : World} {B g : Nat} {a : Option Addr} {len cap : Nat} {z : List Int}
theorem Cur.lt (h : Cur w B g a len cap z) : g < w.heap.size := by obtain ⟨_, _, _, _, _, _, _, hb⟩ := h; exact hb.lt
theorem Cur.keep (h : Cur w B g a len cap z) (hg : w'.heap[g]? = w.heap[g]?) (hb : ∀ k, k < B → w'.heap[k]? = w.heap[k]?) : Cur w' B g a len cap z := by
  obtain ⟨h1, h2, h3, i, x, h4, h5, h6⟩ := h
  exact ⟨h1, h2, h3.keep hb, i, x, h4, h5, h6.keep hg⟩
theorem Cur.alloc (h : Cur w B g a len cap z) (o : Obj) : Cur (w.alloc o) B g a len cap z :=
  h.keep (Below.heap_alloc w o g h.lt) (fun k hk => Below.heap_alloc w o k (by have := h.lt; have := h.1; omega))
theorem Cur.drew (h : Cur w B g a len cap z) : Cur w.drew B g a len cap z := h
theorem Cur.drewN (h : Cur w B g a len cap z) (n : Nat) : Cur (w.drewN n) B g a len cap z := h
theorem Cur.far (h : Cur w B g a len cap z) {p : Addr} (hp : g < p.block) (u : Value) : Cur (w.setCell p u) B g a len cap z :=
  h.keep (Below.heap_setCell w p u g (by omega)) (fun k hk => Below.heap_setCell w p u k (by have := h.1; omega))
theorem Cur.grown (h : Cur w B g a len cap z) {g' : Nat} (hg : w.grownBy w' (some g')) (hne : g < g') : Cur w' B g a len cap z :=
  h.keep (hg.block g h.lt (by simp; omega)) (fun k hk => hg.block k (by have := h.lt; have := h.1; omega) (by simp; have := h.1; omega))
theorem Cur.below (h : Cur w B g a len cap z) (hb : Below w.heap.size w w') : Cur w' B g a len cap z :=
  h.keep (hb.block g h.lt) (fun k hk => hb.block k (by have := h.lt; have := h.1; omega))
end
/-- only block g has turned, and what is new -/
theorem grown_refl (w : World) (r : Option Nat) : w.grownBy w r := ⟨rfl, rfl, rfl, Nat.le_refl _, fun _ _ _ => rfl⟩
theorem grown_drewN {w w' : World} {r : Option Nat} (h : w.grownBy w' r) (n : Nat) : w.grownBy (w'.drewN n) r := ⟨h.os, h.tape, h.output, h.size, h.block⟩
theorem grown_drew {w w' : World} {r : Option Nat} (h : w.grownBy w' r) : w.grownBy w'.drew r := ⟨h.os, h.tape, h.output, h.size, h.block⟩
theorem grown_alloc {w w' : World} {r : Option Nat} (h : w.grownBy w' r) (o : Obj) : w.grownBy (w'.alloc o) r := h.trans (World.grownBy_alloc w' o r)
theorem grown_set {w w' : World} {g : Nat} (h : w.grownBy w' (some g)) {p : Addr} (hp : p.block = g ∨ w.heap.size ≤ p.block) (u : Value) : w.grownBy (w'.setCell p u) (some g) :=
  ⟨h.os, h.tape, h.output, by simpa [World.setCell] using h.size, fun k hk hne => (Below.heap_setCell w' p u k (by rcases hp with hp | hp <;> intro e <;> first | exact hne (by rw [e, hp]) | omega)).trans (h.block k hk hne)⟩
theorem grown_of_below {w w' : World} (h : Below w.heap.size w w') (r : Option Nat) : w.grownBy w' r := ⟨h.os, h.tape, h.output, h.size, fun k hk _ => h.block k hk⟩
theorem below_of_grown {w w' : World} {B g : Nat} (h : w.grownBy w' (some g)) (hB : B ≤ g) (hs : B ≤ w.heap.size) : Below B w w' := ⟨h.os, h.tape, h.output, h.size, fun k hk => h.block k (by omega) (by simp; omega)⟩

theorem Cur.of_grown {w w' : World} {B g : Nat} {a : Option Addr} {len cap : Nat} {z : List Int} (hg : w.grownBy w' (some g)) (h1 : B ≤ g) (h2 : len ≤ 1048576) (h3 : CodeAt w B a len z) (hl : g < w.heap.size) {i h : Int} (h4 : 0 ≤ i) (h5 : i ≤ len)
    (h6 : Box w' g 81 #[.slice a len cap, .int .i64 i, .int .i64 h]) : Cur w' B g a len cap z :=
  ⟨h1, h2, h3.keep (fun k hk => hg.block k (by omega) (by simp; omega)), i, h, h4, h5, h6⟩
/-- a whole number in a range, the cursor whole, nothing else turned -/
def IntPost (B g : Nat) (a : Option Addr) (len cap : Nat) (z : List Int) (k : IntKind) (lo hi : Int) (w : World) (e : Ending) (w' : World) : Prop :=
  ∃ x : Int, lo ≤ x ∧ x ≤ hi ∧ e = .returned (.int k x) ∧ Cur w' B g a len cap z ∧ w.grownBy w' (some g)

set_option maxRecDepth 20000 in
set_option maxHeartbeats 1000000 in
theorem d_Byte {B g : Nat} {a : Option Addr} {len cap : Nat} {z : List Int} (w : World) (hc : Cur w B g a len cap z) :
    Calls Try.prog 62 #[.pointer (some ⟨g, 0, none⟩)] w (IntPost B g a len cap z .i64 0 255 w) := by
  obtain ⟨h1, h2, h3, i, x, h4, h5, h6⟩ := hc
  have c0 : w.cell? ⟨g, 0, none⟩ = some (.slice a len cap) := h6.cell 0 rfl
  have c1 : w.cell? ⟨g, 1, none⟩ = some (.int .i64 i) := h6.cell 1 rfl
  have c2 : w.cell? ⟨g, 2, none⟩ = some (.int .i64 x) := h6.cell 2 rfl
  have f0 := h6.free 0; have f1 := h6.free 1; have f2 := h6.free 2
  obtain ⟨n, rfl⟩ := Int.eq_ofNat_of_zero_le h4
  by_cases hlt : n < len
  · obtain ⟨b, off, rfl, hb, hcell⟩ := h3 (by omega)
    have c3 := hcell n hlt
    have hbg : b < g := by omega
    have hn0 : (0 : Int) ≤ (n : Int) := by omega
    have hn1 : (n : Int) < (len : Int) := by omega
    obtain ⟨y, hy⟩ : ∃ y, y = z.getD n 0 := ⟨_, rfl⟩
    rw [← hy] at c3
    have H3 := Lib.hid h3
    clear hy hcell h3
    go_enter Try.func62, Try.ntmps62
    go_wp2
    go_quiet (fail)
    go_wp2
    go_quiet (fail)
    go_wp2
    go_quiet (fail)
    go_wp2
    go_ret
    have hG := fun m => grown_set (grown_drewN (grown_set (grown_refl w (some g)) (p := ⟨g, 2, none⟩) (.inl rfl) (.int .i64 (wrap64 (wrap64 (x * 6364136223846793005) + 1442695040888963407)))) m) (p := ⟨g, 1, none⟩) (.inl rfl) (.int .i64 ((n : Int) + 1))
    exact ⟨_, (and255 _).1, (and255 _).2, rfl, Cur.of_grown (hG _) h1 h2 H3.out h6.lt (by omega) (by omega) (((h6.set_ 2 _).drewN _).set_ 1 _), hG _⟩
  · have hn1 : ¬ (n : Int) < (len : Int) := by omega
    go_enter Try.func62, Try.ntmps62
    go_wp2
    go_quiet (fail)
    go_wp2
    go_quiet (fail)
    go_wp2
    go_ret
    have hG := fun m => grown_drewN (grown_set (grown_refl w (some g)) (p := ⟨g, 2, none⟩) (.inl rfl) (.int .i64 (wrap64 (wrap64 (x * 6364136223846793005) + 1442695040888963407)))) m
    exact ⟨_, (and255 _).1, (and255 _).2, rfl, Cur.of_grown (grown_drewN (hG _) _) h1 h2 h3 h6.lt (by omega) h5 (((h6.set_ 2 _).drewN _).drewN _), grown_drewN (hG _) _⟩

def hiB (n : Int) : Int := if n ≤ 0 then 0 else n - 1
theorem hiB_pos {n : Int} (h : 1 ≤ n) : hiB n = n - 1 := by unfold hiB; rw [if_neg (by omega)]
theorem tmod_bd {x n : Int} (h : 0 ≤ x) (hn : 1 ≤ n) : 0 ≤ x % n ∧ x % n ≤ n - 1 := ⟨Int.emod_nonneg _ (by omega), by have := Int.emod_lt_of_pos x (show 0 < n by omega); omega⟩
set_option maxRecDepth 20000 in
set_option maxHeartbeats 1000000 in
theorem d_Below {B g : Nat} {a : Option Addr} {len cap : Nat} {z : List Int} (w : World) (hc : Cur w B g a len cap z) (n : Int) (hn : n ≤ 2147483648) (hn0 : -9223372036854775808 ≤ n) :
    Calls Try.prog 55 #[.pointer (some ⟨g, 0, none⟩), .int .i64 n] w (IntPost B g a len cap z .i64 0 (hiB n) w) := by
  by_cases h0 : n ≤ 0
  · have HB : Hid (hiB n = 0) := Lib.hid (by unfold hiB; rw [if_pos h0])
    go_enter Try.func55, Try.ntmps55
    go_wp2
    go_ret
    exact ⟨0, Int.le_refl _, by rw [HB.out]; exact Int.le_refl _, rfl, hc, grown_refl _ _⟩
  · have HB : Hid (hiB n = n - 1) := Lib.hid (hiB_pos (by omega))
    by_cases h256 : n ≤ 256
    · go_enter Try.func55, Try.ntmps55
      go_wp2_with fail
      refine (d_Byte _ hc).mono ?_
      rintro e w1 ⟨x, hx0, hx1, rfl, hc1, hg1⟩
      go_wp2
      go_ret
      have := tmod_bd hx0 (show 1 ≤ n by omega)
      exact ⟨_, this.1, by rw [HB.out]; exact this.2, rfl, hc1, hg1⟩
    · go_enter Try.func55, Try.ntmps55
      go_wp2_with fail
      refine (d_Byte _ hc).mono ?_
      rintro e w1 ⟨x, hx0, hx1, rfl, hc1, hg1⟩
      go_wp2_with fail
      refine (d_Byte _ hc1).mono ?_
      rintro e w2 ⟨y, hy0, hy1, rfl, hc2, hg2⟩
      go_wp2_with fail
      refine (d_Byte _ hc2).mono ?_
      rintro e w3 ⟨p, hp0, hp1, rfl, hc3, hg3⟩
      go_wp2_with fail
      refine (d_Byte _ hc3).mono ?_
      rintro e w4 ⟨q, hq0, hq1, rfl, hc4, hg4⟩
      go_wp2
      go_ret
      have := tmod_bd (x := x * 16777216 + y * 65536 + p * 256 + q) (by omega) (show 1 ≤ n by omega)
      exact ⟨_, this.1, by rw [HB.out]; exact this.2, rfl, hc4, ((hg1.trans hg2).trans hg3).trans hg4⟩
/-- yes or no -/
def BoolPost (B g : Nat) (a : Option Addr) (len cap : Nat) (z : List Int) (w : World) (e : Ending) (w' : World) : Prop :=
  ∃ x : Bool, e = .returned (.bool x) ∧ Cur w' B g a len cap z ∧ w.grownBy w' (some g)
theorem d_Once {B g : Nat} {a : Option Addr} {len cap : Nat} {z : List Int} (w : World) (hc : Cur w B g a len cap z) (n : Int) (hn : n ≤ 2147483648) (hn0 : -9223372036854775808 ≤ n) :
    Calls Try.prog 56 #[.pointer (some ⟨g, 0, none⟩), .int .i64 n] w (BoolPost B g a len cap z w) := by
  go_enter Try.func56, Try.ntmps56
  go_wp2_with fail
  refine (d_Below _ hc n hn hn0).mono ?_
  rintro e w1 ⟨x, hx0, hx1, rfl, hc1, hg1⟩
  go_wp2
  go_ret
  exact ⟨_, rfl, hc1, hg1⟩
set_option maxRecDepth 20000 in
set_option maxHeartbeats 1000000 in
theorem d_New {a : Option Addr} {len cap : Nat} {z : List Int} (w : World) (B : Nat) (hB : B ≤ w.heap.size) (hl : len ≤ 1048576) (hc : CodeAt w B a len z) :
    Calls Try.prog 47 #[.slice a len cap] w fun e w' => e = .returned (.pointer (some ⟨w.heap.size, 0, none⟩)) ∧ Cur w' B w.heap.size a len cap z ∧ Below w.heap.size w w' := by
  go_enter Try.func47, Try.ntmps47
  go_wp2_with fail
  go_loop [3, 4] (fun h i => ∃ (x : Int) (n : Nat), n ≤ len ∧ h = .int .i64 x ∧ i = .int .i64 n) (fun _ i => len - (intOf i).toNat)
  case atStart => exact ⟨_, 0, Nat.zero_le _, rfl, rfl⟩
  case round =>
    obtain ⟨x, n, hn, rfl, rfl⟩ := hrel
    by_cases hlt : n < len
    · obtain ⟨b, off, rfl, hb, hcell⟩ := hc (by omega)
      have c3 := hcell n hlt
      have hn0 : (0 : Int) ≤ (n : Int) := by omega
      have hn1 : (n : Int) < (len : Int) := by omega
      obtain ⟨y, hy⟩ : ∃ y, y = z.getD n 0 := ⟨_, rfl⟩
      rw [← hy] at c3
      clear hy hcell
      have HC := Lib.hid hc
      clear hc
      by_cases h4 : n < 4000
      · go_wp2
        go_round
        case rel => exact ⟨_, n + 1, by omega, rfl, by go_num⟩
        case measure => simp [intOf]; omega
      · go_wp2
        go_ret
        have hX := Box.new w 81 #[.slice (some ⟨b, off, none⟩) len cap, .int .i64 0, .int .i64 x]
        exact ⟨rfl, ⟨hB, hl, HC.out.keep (fun k hk => Below.heap_alloc w _ k (by omega)), 0, x, by omega, by omega, hX⟩, (Below.refl _ _).alloc (Nat.le_refl _) _⟩
    · go_wp2
      go_ret
      have hX := Box.new w 81 #[.slice a len cap, .int .i64 0, .int .i64 x]
      exact ⟨rfl, ⟨hB, hl, hc.keep (fun k hk => Below.heap_alloc w _ k (by omega)), 0, x, by omega, by omega, hX⟩, (Below.refl _ _).alloc (Nat.le_refl _) _⟩
end Go.Proofs.Ytcoghgpgfaifaaa
