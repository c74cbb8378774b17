/- Descriptions that are being built: rows of messages and of fields that lie apart. Conditions: none. -/
import Derived.Test.YtcoghgpgfaifaaaRawM
namespace Go.Proofs.Ytcoghgpgfaifaaa
open Go.RowKit
set_option linter.unusedVariables false
set_option linter.unusedSimpArgs false
theorem own_keep {w w' : World} {base : Nat} {e : TypeId} {size : Nat} {v : Value} {n : Nat} {xs : List Value} (h : w.ownsRow base e size v n xs) (hb : ∀ k, v.ownBlock = some k → w'.heap[k]? = w.heap[k]?) : w'.ownsRow base e size v n xs := by
  refine ⟨h.1, ?_⟩
  rcases h.2 with hn | ⟨g, cap, cur, rfl, hg, hgg, rest⟩
  · exact .inl hn
  · exact .inr ⟨g, cap, cur, rfl, hg, (hb g rfl).trans hgg, rest⟩
/-- a row of fields of its own -/
def FRow (w : World) (B : Nat) (v : Value) (fs : List Fld) : Prop :=
  ∃ ys, w.ownsRow B 50 5 v fs.length ys ∧ ∀ q y, fs[q]? = some y → ∀ i u, y.vs[i]? = some u → ys[q * 5 + i]? = some u
/-- the row of messages of its own: the number and the slice of each -/
def MRow (w : World) (B : Nat) (v : Value) (l : List (Int × Value × List Fld)) : Prop :=
  ∃ xs, w.ownsRow B 45 2 v l.length xs ∧ ∀ (j : Nat) (x : (Int × Value × List Fld)), l[j]? = some x → xs[j * 2]? = some (.int .i64 x.1) ∧ xs[j * 2 + 1]? = some x.2.1
/-- no two rows share a block -/
def Apart (U : Nat) (v : Value) (l : List (Int × Value × List Fld)) : Prop :=
  (∀ k, v.ownBlock = some k → k < U) ∧ ∀ (j : Nat) (x : (Int × Value × List Fld)), l[j]? = some x → ∀ k, x.2.1.ownBlock = some k → k < U ∧ v.ownBlock ≠ some k ∧ ∀ (j' : Nat) (x' : (Int × Value × List Fld)), l[j']? = some x' → x'.2.1.ownBlock = some k → j' = j
def Raws (w : World) (B U : Nat) (v : Value) (l : List (Int × Value × List Fld)) : Prop :=
  U ≤ w.heap.size ∧ MRow w B v l ∧ Apart U v l ∧ ∀ (j : Nat) (x : (Int × Value × List Fld)), l[j]? = some x → FRow w B x.2.1 x.2.2
def Bnd (T : Nat) (l : List (Int × Value × List Fld)) : Prop := ∀ (j : Nat) (x : (Int × Value × List Fld)), l[j]? = some x → x.2.2.length ≤ T
theorem Raws.nil (w : World) (B : Nat) : Raws w B w.heap.size (.slice none 0 0) [] :=
  ⟨Nat.le_refl _, ⟨[], World.ownsRow_nil _ _ _ _, fun j x h => by simp at h⟩, ⟨fun k h => by simp [Value.ownBlock] at h, fun j x h => by simp at h⟩, fun j x h => by simp at h⟩
theorem Raws.keep {w w' : World} {B U : Nat} {v : Value} {l : List (Int × Value × List Fld)} (h : Raws w B U v l) (hz : w.heap.size ≤ w'.heap.size) (hb : ∀ k, B ≤ k → k < U → w'.heap[k]? = w.heap[k]?) : Raws w' B U v l := by
  obtain ⟨h1, ⟨xs, h2, h3⟩, h4, h5⟩ := h
  refine ⟨Nat.le_trans h1 hz, ⟨xs, own_keep h2 (fun k hk => hb k (h2.lt k hk).1 (h4.1 k hk)), h3⟩, h4, fun j x hx => ?_⟩
  obtain ⟨ys, h6, h7⟩ := h5 j x hx
  exact ⟨ys, own_keep h6 (fun k hk => hb k (h6.lt k hk).1 (h4.2 j x hx k hk).1), h7⟩
theorem Raws.up {w : World} {B U U' : Nat} {v : Value} {l : List (Int × Value × List Fld)} (h : Raws w B U v l) (h1 : U ≤ U') (h2 : U' ≤ w.heap.size) : Raws w B U' v l := by
  obtain ⟨_, h3, h4, h5⟩ := h
  refine ⟨h2, h3, ⟨fun k hk => Nat.lt_of_lt_of_le (h4.1 k hk) h1, fun j x hx k hk => ?_⟩, h5⟩
  obtain ⟨a, b⟩ := h4.2 j x hx k hk
  exact ⟨Nat.lt_of_lt_of_le a h1, b⟩
theorem get_push {α : Type} {l : List α} {y : α} {j : Nat} {x : α} (h : (l ++ [y])[j]? = some x) : l[j]? = some x ∨ (j = l.length ∧ x = y) := by
  rcases Nat.lt_or_ge j l.length with hj | hj
  · rw [List.getElem?_append_left hj] at h; exact .inl h
  · rw [List.getElem?_append_right hj] at h
    have : j - l.length < 1 := by
      rcases Nat.lt_or_ge (j - l.length) 1 with h' | h'
      · exact h'
      · rw [List.getElem?_eq_none (by simpa using h')] at h; cases h
    have e : j = l.length := by omega
    subst e
    simp at h
    exact .inr ⟨rfl, h.symm⟩
theorem get_set {α : Type} {l : List α} {y : α} {i j : Nat} {x : α} (h : (l.set i y)[j]? = some x) : (j ≠ i ∧ l[j]? = some x) ∨ (j = i ∧ x = y) := by
  by_cases e : i = j
  · subst e
    have hl : i < l.length := by
      have := (List.getElem?_eq_some_iff.1 h).1
      simpa using this
    rw [List.getElem?_set_self hl] at h
    exact .inr ⟨rfl, (Option.some.inj h).symm⟩
  · rw [List.getElem?_set_ne e] at h
    exact .inl ⟨fun e' => e e'.symm, h⟩
/-- a message is put behind the row -/
theorem Raws.push {w w2 : World} {B U : Nat} {v : Value} {l : List (Int × Value × List Fld)} (h : Raws w B U v l) {xs : List Value} (hx : w.ownsRow B 45 2 v l.length xs) (hxs : ∀ (j : Nat) (x : (Int × Value × List Fld)), l[j]? = some x → xs[j * 2]? = some (.int .i64 x.1) ∧ xs[j * 2 + 1]? = some x.2.1)
    {g cap : Nat} {id : Int} (hown : w2.ownsRow B 45 2 (.slice (some ⟨g, 0, none⟩) (l.length + 1) cap) (l.length + 1) (xs ++ [.int .i64 id, .slice none 0 0])) (hgr : w.grownBy w2 v.ownBlock) (hor : v.ownBlock = some g ∨ g = w.heap.size) (hlt : g < w2.heap.size) :
    Raws w2 B w2.heap.size (.slice (some ⟨g, 0, none⟩) (l.length + 1) cap) (l ++ [(id, .slice none 0 0, [])]) := by
  obtain ⟨h1, _, h4, h5⟩ := h
  have hlen := hx.1
  refine ⟨Nat.le_refl _, ⟨_, by simpa using hown, fun j x hj => ?_⟩, ⟨fun k hk => ?_, fun j x hj k hk => ?_⟩, fun j x hj => ?_⟩
  · rcases get_push hj with hj | ⟨rfl, rfl⟩
    · obtain ⟨a, b⟩ := hxs j x hj
      have ha := (List.getElem?_eq_some_iff.1 a).1
      have hb := (List.getElem?_eq_some_iff.1 b).1
      rw [List.getElem?_append_left ha, List.getElem?_append_left hb]
      exact ⟨a, b⟩
    · rw [List.getElem?_append_right (by omega), List.getElem?_append_right (by omega), show l.length * 2 - xs.length = 0 by omega, show l.length * 2 + 1 - xs.length = 1 by omega]
      exact ⟨rfl, rfl⟩
  · simp [Value.ownBlock] at hk; omega
  · rcases get_push hj with hj | ⟨rfl, rfl⟩
    · obtain ⟨a, b, c⟩ := h4.2 j x hj k hk
      refine ⟨by have := hgr.size; omega, ?_, fun j' x' hj' hk' => ?_⟩
      · simp only [Value.ownBlock]
        rcases hor with hor | rfl
        · rw [hor] at b; exact b
        · intro e; have := Option.some.inj e; omega
      · rcases get_push hj' with hj' | ⟨rfl, rfl⟩
        · exact c j' x' hj' hk'
        · simp [Value.ownBlock] at hk'
    · simp [Value.ownBlock] at hk
  · rcases get_push hj with hj | ⟨rfl, rfl⟩
    · obtain ⟨ys, h6, h7⟩ := h5 j x hj
      refine ⟨ys, own_keep h6 (fun k hk => ?_), h7⟩
      obtain ⟨a, b, c⟩ := h4.2 j x hj k hk
      exact hgr.block k (by omega) (fun e => b e.symm)
    · exact ⟨[], World.ownsRow_nil _ _ _ _, fun q y hy => by simp at hy⟩
/-- what stands in the message's cells -/
theorem Raws.form {w : World} {B U : Nat} {v : Value} {l : List (Int × Value × List Fld)} (h : Raws w B U v l) (hl : 0 < l.length) : ∃ b c, v = .slice (some ⟨b, 0, none⟩) l.length c ∧ B ≤ b ∧ b < U ∧ l.length ≤ c := by
  obtain ⟨h1, ⟨xs, h2, h3⟩, h4, h5⟩ := h
  rcases h2.2 with ⟨_, h0⟩ | ⟨g, cap, cur, rfl, hb, hg, hc, _⟩
  · omega
  · exact ⟨g, cap, rfl, hb, h4.1 g rfl, hc⟩
theorem Raws.shape {w : World} {B U : Nat} {v : Value} {l : List (Int × Value × List Fld)} (h : Raws w B U v l) : ∃ a c, v = .slice a l.length c ∧ l.length ≤ c := by
  obtain ⟨h1, ⟨xs, h2, h3⟩, h4, h5⟩ := h
  rcases h2.2 with ⟨rfl, h0⟩ | ⟨g, cap, cur, rfl, hb, hg, hc, _⟩
  · exact ⟨none, 0, by rw [h0], by omega⟩
  · exact ⟨_, cap, rfl, hc⟩
theorem Raws.cells {w : World} {B U b c n : Nat} {l : List (Int × Value × List Fld)} (h : Raws w B U (.slice (some ⟨b, 0, none⟩) n c) l) {j : Nat} {x : (Int × Value × List Fld)} (hx : l[j]? = some x) :
    w.cell? ⟨b, j * 2, none⟩ = some (.int .i64 x.1) ∧ w.cell? ⟨b, j * 2 + 1, none⟩ = some x.2.1 ∧ w.frozen? ⟨b, j * 2, none⟩ = false ∧ w.frozen? ⟨b, j * 2 + 1, none⟩ = false := by
  obtain ⟨h1, ⟨xs, h2, h3⟩, h4, h5⟩ := h
  have hj := (List.getElem?_eq_some_iff.1 hx).1
  have hn : n = l.length := by
    rcases h2.2 with ⟨h', _⟩ | ⟨_, _, _, h', _⟩
    · simp at h'
    · simp at h'; exact h'.2.1
  subst hn
  obtain ⟨a, b'⟩ := h3 j x hx
  exact ⟨(h2.cellAt _ (by omega)).trans a, (h2.cellAt _ (by omega)).trans b', h2.frozenAt _, h2.frozenAt _⟩
theorem FRow.shape {w : World} {B : Nat} {v : Value} {fs : List Fld} (h : FRow w B v fs) : ∃ a c, v = .slice a fs.length c ∧ fs.length ≤ c := by
  obtain ⟨ys, h2, h3⟩ := h
  rcases h2.2 with ⟨rfl, h0⟩ | ⟨g, cap, cur, rfl, hb, hg, hc, _⟩
  · exact ⟨none, 0, by rw [h0], by omega⟩
  · exact ⟨_, cap, rfl, hc⟩
theorem FRow.form {w : World} {B : Nat} {v : Value} {fs : List Fld} (h : FRow w B v fs) (hl : 0 < fs.length) : ∃ p c, v = .slice (some ⟨p, 0, none⟩) fs.length c ∧ B ≤ p ∧ p < w.heap.size ∧ fs.length ≤ c := by
  obtain ⟨ys, h2, h3⟩ := h
  have hlt := h2.lt
  rcases h2.2 with ⟨_, h0⟩ | ⟨g, cap, cur, rfl, hb, hg, hc, _⟩
  · omega
  · exact ⟨g, cap, rfl, hb, (hlt g rfl).2, hc⟩
theorem FRow.cells {w : World} {B p c n : Nat} {fs : List Fld} (h : FRow w B (.slice (some ⟨p, 0, none⟩) n c) fs) {k : Nat} {y : Fld} (hy : fs[k]? = some y) :
    (∀ i u, y.vs[i]? = some u → w.cell? ⟨p, k * 5 + i, none⟩ = some u) ∧ ∀ i, w.frozen? ⟨p, k * 5 + i, none⟩ = false := by
  obtain ⟨ys, h2, h3⟩ := h
  have hk := (List.getElem?_eq_some_iff.1 hy).1
  have hn : n = fs.length := by
    rcases h2.2 with ⟨h', _⟩ | ⟨_, _, _, h', _⟩
    · simp at h'
    · simp at h'; exact h'.2.1
  subst hn
  exact ⟨fun i u hu => (h2.cellAt _ (by have := vs_lt hu; omega)).trans (h3 k y hy i u hu), fun i => h2.frozenAt _⟩
theorem FRow.fat {w : World} {B : Nat} {a : Option Addr} {n c : Nat} {fs : List Fld} (h : FRow w B (.slice a n c) fs) {lo : Nat} (hlo : lo ≤ B) : FAt w lo a fs := by
  intro hl
  obtain ⟨p, c', e, hB, hlt, _⟩ := h.form hl
  simp only [Value.slice.injEq] at e
  obtain ⟨rfl, rfl, rfl⟩ := e
  refine ⟨p, 0, rfl, Nat.le_trans hlo hB, hlt, fun j x hx i v hv => ?_⟩
  rw [show 0 + j * 5 + i = j * 5 + i by omega]
  exact (h.cells hx).1 i v hv
/-- the description as the contracts know it -/
def toMs (l : List (Int × Value × List Fld)) : List Msg := l.map fun x => ⟨x.1, x.2.2⟩
theorem toMs_len (l : List (Int × Value × List Fld)) : (toMs l).length = l.length := by simp [toMs]
theorem toMs_get {l : List (Int × Value × List Fld)} {j : Nat} {m : Msg} (h : (toMs l)[j]? = some m) : ∃ x, l[j]? = some x ∧ m = ⟨x.1, x.2.2⟩ := by
  unfold toMs at h
  rw [List.getElem?_map] at h
  cases hx : l[j]? with
  | none => rw [hx] at h; simp at h
  | some x => rw [hx] at h; exact ⟨x, rfl, by simpa using h.symm⟩
theorem Raws.mat {w : World} {B U : Nat} {a : Option Addr} {n c : Nat} {l : List (Int × Value × List Fld)} (h : Raws w B U (.slice a n c) l) {lo : Nat} (hlo : lo ≤ B) : MAt w lo a (toMs l) := by
  intro hl
  rw [toMs_len] at hl
  obtain ⟨b, c', e, hB, hbU, hc⟩ := h.form hl
  simp only [Value.slice.injEq] at e
  obtain ⟨rfl, rfl, rfl⟩ := e
  refine ⟨b, 0, rfl, Nat.le_trans hlo hB, Nat.lt_of_lt_of_le hbU h.1, fun j m hm => ?_⟩
  obtain ⟨x, hx, rfl⟩ := toMs_get hm
  obtain ⟨c1, c2, _, _⟩ := h.cells hx
  have hf := h.2.2.2 j x hx
  obtain ⟨fa, fc, hv, hfc⟩ := hf.shape
  rw [show 0 + j * 2 = j * 2 by omega]
  refine ⟨c1, fa, fc, by rw [c2, hv], hfc, ?_⟩
  rw [hv] at hf
  exact hf.fat hlo
/-- a message's number is set -/
theorem Raws.setId {w : World} {B U b c n : Nat} {l : List (Int × Value × List Fld)} (h : Raws w B U (.slice (some ⟨b, 0, none⟩) n c) l) {j : Nat} {x : (Int × Value × List Fld)} (hx : l[j]? = some x) (id : Int) :
    Raws (w.setCell ⟨b, j * 2, none⟩ (.int .i64 id)) B U (.slice (some ⟨b, 0, none⟩) n c) (l.set j (id, x.2.1, x.2.2)) := by
  obtain ⟨h1, ⟨xs, h2, h3⟩, h4, h5⟩ := h
  have hj := (List.getElem?_eq_some_iff.1 hx).1
  have hn : n = l.length := by
    rcases h2.2 with ⟨h', _⟩ | ⟨_, _, _, h', _⟩
    · simp at h'
    · simp at h'; exact h'.2.1
  subst hn
  have hs := (h2.stored (j * 2) (.int .i64 id)).1
  have hlen := h2.1
  have ha : ∀ (j' : Nat) (x' : (Int × Value × List Fld)), (l.set j (id, x.2.1, x.2.2))[j']? = some x' → ∃ y : (Int × Value × List Fld), l[j']? = some y ∧ y.2 = x'.2 := fun j' x' h' => by
    rcases get_set h' with ⟨_, h'⟩ | ⟨rfl, rfl⟩
    · exact ⟨x', h', rfl⟩
    · exact ⟨x, hx, rfl⟩
  refine ⟨by simpa using h1, ⟨xs.set (j * 2) (.int .i64 id), by simpa using hs, fun j' x' hj' => ?_⟩, ⟨h4.1, fun j' x' hj' k hk => ?_⟩, fun j' x' hj' => ?_⟩
  · rcases get_set hj' with ⟨hne, hj'⟩ | ⟨rfl, rfl⟩
    · obtain ⟨p, q⟩ := h3 j' x' hj'
      rw [List.getElem?_set_ne (by omega), List.getElem?_set_ne (by omega)]
      exact ⟨p, q⟩
    · obtain ⟨p, q⟩ := h3 j' x hx
      rw [List.getElem?_set_self (by omega), List.getElem?_set_ne (by omega)]
      exact ⟨rfl, q⟩
  · obtain ⟨y, hy, e⟩ := ha j' x' hj'
    rw [← e] at hk
    obtain ⟨p, q, r⟩ := h4.2 j' y hy k hk
    refine ⟨p, q, fun j2 x2 hj2 hk2 => ?_⟩
    obtain ⟨y2, hy2, e2⟩ := ha j2 x2 hj2
    rw [← e2] at hk2
    exact r j2 y2 hy2 hk2
  · obtain ⟨y, hy, e⟩ := ha j' x' hj'
    rw [← e]
    obtain ⟨ys, h6, h7⟩ := h5 j' y hy
    refine ⟨ys, own_keep h6 (fun k hk => ?_), h7⟩
    obtain ⟨p, q, r⟩ := h4.2 j' y hy k hk
    exact Below.heap_setCell w ⟨b, j * 2, none⟩ _ k (fun e => q (by simp [Value.ownBlock, e]))
/-- a field is put behind a message's row, and the row's new slice is stored -/
theorem Raws.addField {w w2 : World} {B U b c n : Nat} {l : List (Int × Value × List Fld)} (h : Raws w B U (.slice (some ⟨b, 0, none⟩) n c) l) {j : Nat} {id : Int} {fv : Value} {fs : List Fld} (hx : l[j]? = some (id, fv, fs))
    {ys : List Value} (hy : w.ownsRow B 50 5 fv fs.length ys) (hys : ∀ q y, fs[q]? = some y → ∀ i u, y.vs[i]? = some u → ys[q * 5 + i]? = some u)
    {g cap : Nat} {f : Fld} (hown : w2.ownsRow B 50 5 (.slice (some ⟨g, 0, none⟩) (fs.length + 1) cap) (fs.length + 1) (ys ++ f.vs)) (hgr : w.grownBy w2 fv.ownBlock) (hor : fv.ownBlock = some g ∨ g = w.heap.size) (hlt : g < w2.heap.size) :
    Raws (w2.setCell ⟨b, j * 2 + 1, none⟩ (.slice (some ⟨g, 0, none⟩) (fs.length + 1) cap)) B w2.heap.size (.slice (some ⟨b, 0, none⟩) n c) (l.set j (id, .slice (some ⟨g, 0, none⟩) (fs.length + 1) cap, fs ++ [f])) := by
  obtain ⟨h1, ⟨xs, h2, h3⟩, h4, h5⟩ := h
  have hj := (List.getElem?_eq_some_iff.1 hx).1
  have hn : n = l.length := by
    rcases h2.2 with ⟨h', _⟩ | ⟨_, _, _, h', _⟩
    · simp at h'
    · simp at h'; exact h'.2.1
  subst hn
  have hbU := h4.1 b rfl
  have hfb : fv.ownBlock ≠ some b := fun e => (h4.2 j _ hx b e).2.1 rfl
  have hgb : g ≠ b := by
    rcases hor with e | e
    · intro e'; exact hfb (by rw [e, e'])
    · omega
  have h2' : w2.ownsRow B 45 2 (.slice (some ⟨b, 0, none⟩) l.length c) l.length xs := own_keep h2 (fun k hk => hgr.block k (by have := h4.1 k hk; omega) (fun e => by
    have e1 : b = k := by simpa [Value.ownBlock] using hk
    exact hfb (by rw [← e, e1])))
  have hs := (h2'.stored (j * 2 + 1) (.slice (some ⟨g, 0, none⟩) (fs.length + 1) cap)).1
  have hlen := h2.1
  have hsz : ∀ u, (w2.setCell ⟨b, j * 2 + 1, none⟩ u).heap.size = w2.heap.size := fun u => by simp [World.setCell]
  have hother : ∀ (j' : Nat) (x' : (Int × Value × List Fld)), j' ≠ j → l[j']? = some x' → ∀ k, x'.2.1.ownBlock = some k → k < U ∧ k ≠ b ∧ k ≠ g ∧ some k ≠ fv.ownBlock := fun j' x' hne hj' k hk => by
    obtain ⟨p, q, r⟩ := h4.2 j' x' hj' k hk
    have hf : some k ≠ fv.ownBlock := fun e => hne (r j _ hx e.symm).symm
    refine ⟨p, fun e => q (by simp [Value.ownBlock, e]), fun e => ?_, hf⟩
    rcases hor with e' | e'
    · exact hf (by rw [e', e])
    · omega
  refine ⟨by rw [hsz]; exact Nat.le_refl _, ⟨_, by simpa using hs, fun j' x' hj' => ?_⟩, ⟨fun k hk => ?_, fun j' x' hj' k hk => ?_⟩, fun j' x' hj' => ?_⟩
  · rcases get_set hj' with ⟨hne, hj'⟩ | ⟨rfl, rfl⟩
    · obtain ⟨p, q⟩ := h3 j' x' hj'
      rw [List.getElem?_set_ne (by omega), List.getElem?_set_ne (by omega)]
      exact ⟨p, q⟩
    · obtain ⟨p, q⟩ := h3 j' _ hx
      rw [List.getElem?_set_ne (by omega), List.getElem?_set_self (by omega)]
      exact ⟨p, rfl⟩
  · have := h4.1 k hk; have := hgr.size; omega
  · have hgz := hgr.size
    rcases get_set hj' with ⟨hne, hj'⟩ | ⟨rfl, rfl⟩
    · obtain ⟨p, q, r, s⟩ := hother j' x' hne hj' k hk
      refine ⟨by omega, by simp [Value.ownBlock]; exact fun e => q e.symm, fun j2 x2 hj2 hk2 => ?_⟩
      rcases get_set hj2 with ⟨_, hj2⟩ | ⟨rfl, rfl⟩
      · exact (h4.2 j' x' hj' k hk).2.2 j2 x2 hj2 hk2
      · simp [Value.ownBlock] at hk2; omega
    · simp [Value.ownBlock] at hk
      subst hk
      refine ⟨hlt, by simp [Value.ownBlock]; exact fun e => hgb e.symm, fun j2 x2 hj2 hk2 => ?_⟩
      rcases get_set hj2 with ⟨hne, hj2⟩ | ⟨rfl, _⟩
      · exact absurd rfl (hother j2 x2 hne hj2 _ hk2).2.2.1
      · rfl
  · rcases get_set hj' with ⟨hne, hj'⟩ | ⟨rfl, rfl⟩
    · obtain ⟨zs, h6, h7⟩ := h5 j' x' hj'
      refine ⟨zs, own_keep h6 (fun k hk => ?_), h7⟩
      obtain ⟨p, q, r, s⟩ := hother j' x' hne hj' k hk
      rw [Below.heap_setCell w2 ⟨b, j * 2 + 1, none⟩ _ k q]
      exact hgr.block k (by omega) s
    · refine ⟨ys ++ f.vs, ?_, fun q y hq i u hu => ?_⟩
      · have := own_keep (w' := w2.setCell ⟨b, j' * 2 + 1, none⟩ (.slice (some ⟨g, 0, none⟩) (fs.length + 1) cap)) hown (fun k hk => by
          simp [Value.ownBlock] at hk
          subst hk
          exact Below.heap_setCell w2 ⟨b, j' * 2 + 1, none⟩ _ _ hgb)
        simpa using this
      · have hi := vs_lt hu
        have hyl := hy.1
        rcases get_push hq with hq | ⟨rfl, rfl⟩
        · have := hys q y hq i u hu
          rw [List.getElem?_append_left (List.getElem?_eq_some_iff.1 this).1]
          exact this
        · rw [List.getElem?_append_right (by omega), show fs.length * 5 + i - ys.length = i by omega]
          exact hu
end Go.Proofs.Ytcoghgpgfaifaaa
