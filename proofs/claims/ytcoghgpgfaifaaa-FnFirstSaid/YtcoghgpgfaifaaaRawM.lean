/- Descriptions in memory: fields and messages read cell by cell, and rows of them that a call makes itself. Conditions: none. -/
import Derived.Test.YtcoghgpgfaifaaaBase
import Derived.Laws.MakeOwn
namespace Go.Proofs.Ytcoghgpgfaifaaa
open Go.RowKit
set_option linter.unusedVariables false
set_option linter.unusedSimpArgs false
structure Fld where
  n : Int
  k : Int
  r : Bool
  p : Bool
  f : Int
  deriving DecidableEq
structure Msg where
  id : Int
  fs : List Fld
  deriving DecidableEq
/-- a field's cells -/
def Fld.vs (x : Fld) : List Value := [.int .i64 x.n, .int .i64 x.k, .bool x.r, .bool x.p, .int .i64 x.f]
/-- a field's value -/
def Fld.ag (x : Fld) : Value := .agg #[.int .i64 x.n, .int .i64 x.k, .bool x.r, .bool x.p, .int .i64 x.f]
theorem bkeep {w w' : World} {b o : Nat} (hb : w'.heap[b]? = w.heap[b]?) {v : Option Value} (h : w.cell? ⟨b, o, none⟩ = v) : w'.cell? ⟨b, o, none⟩ = v := (World.cell?_of_block (a := ⟨b, o, none⟩) hb).trans h
/-- fields can be read, in a block from lo on -/
def FAt (w : World) (lo : Nat) (a : Option Addr) (fs : List Fld) : Prop :=
  0 < fs.length → ∃ b off, a = some ⟨b, off, none⟩ ∧ lo ≤ b ∧ b < w.heap.size ∧ ∀ j x, fs[j]? = some x → ∀ i v, x.vs[i]? = some v → w.cell? ⟨b, off + j * 5 + i, none⟩ = some v
theorem FAt.keep {w w' : World} {lo : Nat} {a : Option Addr} {fs : List Fld} (h : FAt w lo a fs) (hb : ∀ b, lo ≤ b → b < w.heap.size → w'.heap[b]? = w.heap[b]?) (hz : w.heap.size ≤ w'.heap.size) : FAt w' lo a fs := by
  intro hl
  obtain ⟨b, off, e, h0, hB, hc⟩ := h hl
  exact ⟨b, off, e, h0, Nat.lt_of_lt_of_le hB hz, fun j x hx i v hv => bkeep (hb b h0 hB) (hc j x hx i v hv)⟩
theorem FAt.below {w w' : World} {lo : Nat} {a : Option Addr} {fs : List Fld} (h : FAt w lo a fs) (hb : Below w.heap.size w w') : FAt w' lo a fs := h.keep (fun b _ hB => hb.block b hB) hb.size
theorem FAt.low {w : World} {lo lo' : Nat} {a : Option Addr} {fs : List Fld} (h : FAt w lo a fs) (hl : lo' ≤ lo) : FAt w lo' a fs := by
  intro h0
  obtain ⟨b, off, e, h1, h2⟩ := h h0
  exact ⟨b, off, e, Nat.le_trans hl h1, h2⟩
theorem FAt.set_ {w : World} {lo : Nat} {a : Option Addr} {fs : List Fld} (h : FAt w lo a fs) {p : Addr} (hp : p.block < lo) (u : Value) : FAt (w.setCell p u) lo a fs :=
  h.keep (fun b h0 _ => Below.heap_setCell w p u b (by omega)) (by simp [World.setCell])
/-- messages can be read, in blocks from lo on -/
def MAt (w : World) (lo : Nat) (a : Option Addr) (ms : List Msg) : Prop :=
  0 < ms.length → ∃ b off, a = some ⟨b, off, none⟩ ∧ lo ≤ b ∧ b < w.heap.size ∧ ∀ j m, ms[j]? = some m → w.cell? ⟨b, off + j * 2, none⟩ = some (.int .i64 m.id) ∧
    ∃ fa fc, w.cell? ⟨b, off + j * 2 + 1, none⟩ = some (.slice fa m.fs.length fc) ∧ m.fs.length ≤ fc ∧ FAt w lo fa m.fs
theorem MAt.keep {w w' : World} {lo : Nat} {a : Option Addr} {ms : List Msg} (h : MAt w lo a ms) (hb : ∀ b, lo ≤ b → b < w.heap.size → w'.heap[b]? = w.heap[b]?) (hz : w.heap.size ≤ w'.heap.size) : MAt w' lo a ms := by
  intro hl
  obtain ⟨b, off, e, h0, hB, hc⟩ := h hl
  refine ⟨b, off, e, h0, Nat.lt_of_lt_of_le hB hz, fun j m hm => ?_⟩
  obtain ⟨h1, fa, fc, h2, h3, h4⟩ := hc j m hm
  exact ⟨bkeep (hb b h0 hB) h1, fa, fc, bkeep (hb b h0 hB) h2, h3, h4.keep hb hz⟩
theorem MAt.below {w w' : World} {lo : Nat} {a : Option Addr} {ms : List Msg} (h : MAt w lo a ms) (hb : Below w.heap.size w w') : MAt w' lo a ms := h.keep (fun b _ hB => hb.block b hB) hb.size
theorem MAt.low {w : World} {lo lo' : Nat} {a : Option Addr} {ms : List Msg} (h : MAt w lo a ms) (hl : lo' ≤ lo) : MAt w lo' a ms := by
  intro h0
  obtain ⟨b, off, e, h1, hB, hc⟩ := h h0
  refine ⟨b, off, e, Nat.le_trans hl h1, hB, fun j m hm => ?_⟩
  obtain ⟨g1, fa, fc, g2, g3, g4⟩ := hc j m hm
  exact ⟨g1, fa, fc, g2, g3, g4.low hl⟩
/-- the first k messages stand in a row of n, their fields in blocks from lo on -/
def Fill2 (w : World) (lo : Nat) (arr : Array Value) (n k : Nat) (ms : List Msg) : Prop := arr.size = n * 2 ∧ ∀ j m, j < k → ms[j]? = some m → arr[j * 2]? = some (.int .i64 m.id) ∧
    ∃ fa fc, arr[j * 2 + 1]? = some (.slice fa m.fs.length fc) ∧ m.fs.length ≤ fc ∧ FAt w lo fa m.fs
theorem Fill2.keep {w w' : World} {lo : Nat} {arr : Array Value} {n k : Nat} {ms : List Msg} (h : Fill2 w lo arr n k ms) (hb : ∀ b, lo ≤ b → b < w.heap.size → w'.heap[b]? = w.heap[b]?) (hz : w.heap.size ≤ w'.heap.size) : Fill2 w' lo arr n k ms :=
  ⟨h.1, fun j m hj hm => by
    obtain ⟨h1, fa, fc, h2, h3, h4⟩ := h.2 j m hj hm
    exact ⟨h1, fa, fc, h2, h3, h4.keep hb hz⟩⟩
/-- the first k fields stand in a row of n -/
def Fill5 (arr : Array Value) (n k : Nat) (fs : List Fld) : Prop := arr.size = n * 5 ∧ ∀ j x i v, j < k → fs[j]? = some x → x.vs[i]? = some v → arr[j * 5 + i]? = some v
theorem vs_lt {x : Fld} {i : Nat} {v : Value} (h : x.vs[i]? = some v) : i < 5 := by
  have := (List.getElem?_eq_some_iff.1 h).1
  simpa [Fld.vs] using this
theorem set_ne (arr : Array Value) (i : Nat) (v : Value) (j : Nat) (h : i ≠ j) : (arr.setIfInBounds i v)[j]? = arr[j]? := Array.getElem?_setIfInBounds_ne h
theorem set_eq (arr : Array Value) (i : Nat) (v : Value) (j : Nat) (e : i = j) (h : i < arr.size) : (arr.setIfInBounds i v)[j]? = some v := by
  subst e; exact Array.getElem?_setIfInBounds_self_of_lt h
theorem sz_set (arr : Array Value) (i : Nat) (v : Value) {N : Nat} (h : arr.size = N) : (arr.setIfInBounds i v).size = N := by rw [Array.size_setIfInBounds]; exact h
theorem Fill5.next {arr : Array Value} {n k : Nat} {fs : List Fld} {x : Fld} (h : Fill5 arr n k fs) (hk : k < n) (hx : fs[k]? = some x) :
    Fill5 (((((arr.setIfInBounds (k * 5) (.int .i64 x.n)).setIfInBounds (k * 5 + 1) (.int .i64 x.k)).setIfInBounds (k * 5 + 2) (.bool x.r)).setIfInBounds (k * 5 + 3) (.bool x.p)).setIfInBounds (k * 5 + 4) (.int .i64 x.f)) n (k + 1) fs := by
  obtain ⟨hs, ha⟩ := h
  have s1 := sz_set arr (k * 5) (.int .i64 x.n) hs
  have s2 := sz_set _ (k * 5 + 1) (.int .i64 x.k) s1
  have s3 := sz_set _ (k * 5 + 2) (.bool x.r) s2
  have s4 := sz_set _ (k * 5 + 3) (.bool x.p) s3
  have s5 := sz_set _ (k * 5 + 4) (.int .i64 x.f) s4
  refine ⟨s5, fun j y i v hj hy hv => ?_⟩
  have hi := vs_lt hv
  rcases Nat.lt_or_ge j k with hjk | hjk
  · have h1 := ha j y i v hjk hy hv
    rw [set_ne _ _ _ _ (by omega), set_ne _ _ _ _ (by omega), set_ne _ _ _ _ (by omega), set_ne _ _ _ _ (by omega), set_ne _ _ _ _ (by omega)]
    exact h1
  · obtain rfl : j = k := by omega
    obtain rfl : x = y := Option.some.inj (hx.symm.trans hy)
    rcases (show i = 0 ∨ i = 1 ∨ i = 2 ∨ i = 3 ∨ i = 4 by omega) with rfl | rfl | rfl | rfl | rfl
    all_goals
      simp only [Fld.vs, List.getElem?_cons_zero, List.getElem?_cons_succ, Option.some.injEq] at hv
      subst hv
    · rw [set_ne _ _ _ _ (by omega), set_ne _ _ _ _ (by omega), set_ne _ _ _ _ (by omega), set_ne _ _ _ _ (by omega), set_eq _ _ _ _ (by omega) (by omega)]
    · rw [set_ne _ _ _ _ (by omega), set_ne _ _ _ _ (by omega), set_ne _ _ _ _ (by omega), set_eq _ _ _ _ (by omega) (by omega)]
    · rw [set_ne _ _ _ _ (by omega), set_ne _ _ _ _ (by omega), set_eq _ _ _ _ (by omega) (by omega)]
    · rw [set_ne _ _ _ _ (by omega), set_eq _ _ _ _ (by omega) (by omega)]
    · rw [set_eq _ _ _ _ (by omega) (by omega)]
theorem Fill5.fat {arr : Array Value} {n : Nat} {fs : List Fld} {w : World} {g : Nat} {T : TypeId} (h : Fill5 arr n n fs) (hn : n = fs.length) (hb : Box w g T arr) {lo : Nat} (hlo : lo ≤ g) : FAt w lo (some ⟨g, 0, none⟩) fs := by
  intro _
  refine ⟨g, 0, rfl, hlo, hb.lt, fun j x hx i v hv => ?_⟩
  have hj := (List.getElem?_eq_some_iff.1 hx).1
  rw [show 0 + j * 5 + i = j * 5 + i by omega]
  exact hb.cell _ (h.2 j x i v (by omega) hx hv)
theorem Fill2.set_ {w : World} {lo : Nat} {arr : Array Value} {n k : Nat} {ms : List Msg} (h : Fill2 w lo arr n k ms) {p : Addr} (hp : p.block < lo) (u : Value) : Fill2 (w.setCell p u) lo arr n k ms :=
  h.keep (fun b h0 _ => Below.heap_setCell w p u b (by omega)) (by simp [World.setCell])
theorem MAt.set_ {w : World} {lo : Nat} {a : Option Addr} {ms : List Msg} (h : MAt w lo a ms) {p : Addr} (hp : p.block < lo) (u : Value) : MAt (w.setCell p u) lo a ms :=
  h.keep (fun b h0 _ => Below.heap_setCell w p u b (by omega)) (by simp [World.setCell])
theorem Fill2.next {w : World} {lo : Nat} {arr : Array Value} {n k : Nat} {ms : List Msg} {m : Msg} {fa : Option Addr} {fc : Nat} (h : Fill2 w lo arr n k ms) (hk : k < n) (hm : ms[k]? = some m) (hfc : m.fs.length ≤ fc) (hf : FAt w lo fa m.fs) :
    Fill2 w lo ((arr.setIfInBounds (k * 2) (.int .i64 m.id)).setIfInBounds (k * 2 + 1) (.slice fa m.fs.length fc)) n (k + 1) ms := by
  obtain ⟨hs, ha⟩ := h
  have s1 := sz_set arr (k * 2) (.int .i64 m.id) hs
  have s2 := sz_set _ (k * 2 + 1) (.slice fa m.fs.length fc) s1
  refine ⟨s2, fun j y hj hy => ?_⟩
  rcases Nat.lt_or_ge j k with hjk | hjk
  · obtain ⟨h1, ga, gc, h2, h3⟩ := ha j y hjk hy
    exact ⟨by rw [set_ne _ _ _ _ (by omega), set_ne _ _ _ _ (by omega)]; exact h1, ga, gc, by rw [set_ne _ _ _ _ (by omega), set_ne _ _ _ _ (by omega)]; exact h2, h3⟩
  · obtain rfl : j = k := by omega
    obtain rfl : m = y := Option.some.inj (hm.symm.trans hy)
    exact ⟨by rw [set_ne _ _ _ _ (by omega), set_eq _ _ _ _ (by omega) (by omega)], fa, fc, by rw [set_eq _ _ _ _ (by omega) (by omega)], hfc, hf⟩
theorem Fill2.mat {w : World} {lo : Nat} {arr : Array Value} {n : Nat} {ms : List Msg} {g : Nat} {T : TypeId} (h : Fill2 w lo arr n n ms) (hn : n = ms.length) (hb : Box w g T arr) (hlo : lo ≤ g) : MAt w lo (some ⟨g, 0, none⟩) ms := by
  intro _
  refine ⟨g, 0, rfl, hlo, hb.lt, fun j m hm => ?_⟩
  have hj := (List.getElem?_eq_some_iff.1 hm).1
  obtain ⟨h1, fa, fc, h2, h3, h4⟩ := h.2 j m (by omega) hm
  rw [show 0 + j * 2 = j * 2 by omega]
  exact ⟨hb.cell _ h1, fa, fc, hb.cell _ h2, h3, h4⟩
theorem arr_has {cs : Array Value} (i : Nat) (hi : i < cs.size) : ∃ u, cs[i]? = some u := ⟨_, Array.getElem?_eq_getElem hi⟩
end Go.Proofs.Ytcoghgpgfaifaaa
