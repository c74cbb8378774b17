/- A plan that is bent: the plan in a variable above its rows. Conditions: none. -/
import Derived.Test.YtcoghgpgfaifaaaRawR
namespace Go.Proofs.Ytcoghgpgfaifaaa
open Go.RowKit
set_option linter.unusedVariables false
set_option linter.unusedSimpArgs false
/-- no row lies in block O -/
def Off (O : Nat) (v : Value) (l : List (Int × Value × List Fld)) : Prop := v.ownBlock ≠ some O ∧ ∀ (j : Nat) (x : (Int × Value × List Fld)), l[j]? = some x → x.2.1.ownBlock ≠ some O
theorem Off.of_lt {w : World} {B U O : Nat} {v : Value} {l : List (Int × Value × List Fld)} (h : Raws w B U v l) (hO : U ≤ O) : Off O v l :=
  ⟨fun e => by have := h.2.2.1.1 O e; omega, fun j x hx e => by have := (h.2.2.1.2 j x hx O e).1; omega⟩
theorem Raws.keep2 {w w' : World} {B U O : Nat} {v : Value} {l : List (Int × Value × List Fld)} (h : Raws w B U v l) (ho : Off O v l) (hz : w.heap.size ≤ w'.heap.size) (hb : ∀ k, B ≤ k → k ≠ O → k < U → w'.heap[k]? = w.heap[k]?) : Raws w' B U v l := by
  obtain ⟨h1, ⟨xs, h2, h3⟩, h4, h5⟩ := h
  refine ⟨Nat.le_trans h1 hz, ⟨xs, own_keep h2 (fun k hk => hb k (h2.lt k hk).1 (fun e => ho.1 (by rw [← e]; exact hk)) (h4.1 k hk)), h3⟩, h4, fun j x hx => ?_⟩
  obtain ⟨ys, h6, h7⟩ := h5 j x hx
  exact ⟨ys, own_keep h6 (fun k hk => hb k (h6.lt k hk).1 (fun e => ho.2 j x hx (by rw [← e]; exact hk)) (h4.2 j x hx k hk).1), h7⟩
/-- a row of fields changes in its place -/
theorem Raws.reField {w w' : World} {B U : Nat} {v : Value} {l : List (Int × Value × List Fld)} (h : Raws w B U v l) {j : Nat} {id : Int} {p m c : Nat} {fs fs' : List Fld} (hx : l[j]? = some (id, .slice (some ⟨p, 0, none⟩) m c, fs)) (hz : w.heap.size ≤ w'.heap.size) (hb : ∀ k, k ≠ p → w'.heap[k]? = w.heap[k]?) (hf : FRow w' B (.slice (some ⟨p, 0, none⟩) m c) fs') :
    Raws w' B U v (l.set j (id, .slice (some ⟨p, 0, none⟩) m c, fs')) := by
  obtain ⟨h1, ⟨xs, h2, h3⟩, h4, h5⟩ := h
  have ha : ∀ (j' : Nat) (x' : (Int × Value × List Fld)), (l.set j (id, .slice (some ⟨p, 0, none⟩) m c, fs'))[j']? = some x' → ∃ y : (Int × Value × List Fld), l[j']? = some y ∧ y.1 = x'.1 ∧ y.2.1 = x'.2.1 := fun j' x' h' => by
    rcases get_set h' with ⟨_, h'⟩ | ⟨rfl, rfl⟩
    · exact ⟨x', h', rfl, rfl⟩
    · exact ⟨_, hx, rfl, rfl⟩
  have hvp : v.ownBlock ≠ some p := (h4.2 j _ hx p rfl).2.1
  refine ⟨Nat.le_trans h1 hz, ⟨xs, by rw [List.length_set]; exact own_keep h2 (fun k hk => hb k (fun e => hvp (by rw [← e]; exact hk))), fun j' x' hj' => ?_⟩, ⟨h4.1, fun j' x' hj' k hk => ?_⟩, fun j' x' hj' => ?_⟩
  · obtain ⟨y, hy, e1, e2⟩ := ha j' x' hj'
    rw [← e1, ← e2]
    exact h3 j' y hy
  · obtain ⟨y, hy, e1, e2⟩ := ha j' x' hj'
    rw [← e2] at hk
    obtain ⟨a, b, c'⟩ := h4.2 j' y hy k hk
    refine ⟨a, b, fun j2 x2 hj2 hk2 => ?_⟩
    obtain ⟨y2, hy2, _, e4⟩ := ha j2 x2 hj2
    rw [← e4] at hk2
    exact c' j2 y2 hy2 hk2
  · rcases get_set hj' with ⟨hne, hj2⟩ | ⟨rfl, rfl⟩
    · obtain ⟨ys, h6, h7⟩ := h5 j' x' hj2
      refine ⟨ys, own_keep h6 (fun k hk => hb k (fun e => ?_)), h7⟩
      subst e
      exact hne ((h4.2 j' x' hj2 k hk).2.2 j _ hx rfl).symm
    · exact hf
/-- five cells of a row are set -/
def five (w : World) (p k : Nat) (f : Fld) : World :=
  ((((w.setCell ⟨p, k * 5, none⟩ (.int .i64 f.n)).setCell ⟨p, k * 5 + 1, none⟩ (.int .i64 f.k)).setCell ⟨p, k * 5 + 2, none⟩ (.bool f.r)).setCell ⟨p, k * 5 + 3, none⟩ (.bool f.p)).setCell ⟨p, k * 5 + 4, none⟩ (.int .i64 f.f)
theorem five_size (w : World) (p k : Nat) (f : Fld) : (five w p k f).heap.size = w.heap.size := by simp [five, World.setCell]
theorem five_other (w : World) (p k : Nat) (f : Fld) (b : Nat) (hb : b ≠ p) : (five w p k f).heap[b]? = w.heap[b]? := by
  unfold five
  rw [Below.heap_setCell _ _ _ _ hb, Below.heap_setCell _ _ _ _ hb, Below.heap_setCell _ _ _ _ hb, Below.heap_setCell _ _ _ _ hb, Below.heap_setCell _ _ _ _ hb]
theorem FRow.five {w : World} {B p m c k : Nat} {fs : List Fld} (h : FRow w B (.slice (some ⟨p, 0, none⟩) m c) fs) (hk : k < fs.length) (f : Fld) : FRow (five w p k f) B (.slice (some ⟨p, 0, none⟩) m c) (fs.set k f) := by
  obtain ⟨ys, h2, h3⟩ := h
  have hm : m = fs.length := by
    rcases h2.2 with ⟨h', _⟩ | ⟨_, _, _, h', _⟩
    · simp at h'
    · simp at h'; exact h'.2.1
  subst hm
  have hy := h2.1
  have s1 := (h2.stored (k * 5) (.int .i64 f.n)).1
  have s2 := (s1.stored (k * 5 + 1) (.int .i64 f.k)).1
  have s3 := (s2.stored (k * 5 + 2) (.bool f.r)).1
  have s4 := (s3.stored (k * 5 + 3) (.bool f.p)).1
  have s5 := (s4.stored (k * 5 + 4) (.int .i64 f.f)).1
  refine ⟨_, by rw [List.length_set]; exact s5, fun q y hq i u hu => ?_⟩
  have hi := vs_lt hu
  rcases get_set hq with ⟨hne, hq⟩ | ⟨rfl, rfl⟩
  · rw [List.getElem?_set_ne (by omega), List.getElem?_set_ne (by omega), List.getElem?_set_ne (by omega), List.getElem?_set_ne (by omega), List.getElem?_set_ne (by omega)]
    exact h3 q y hq i u hu
  · rcases (show i = 0 ∨ i = 1 ∨ i = 2 ∨ i = 3 ∨ i = 4 by omega) with rfl | rfl | rfl | rfl | rfl
    all_goals
      simp only [Fld.vs, List.getElem?_cons_zero, List.getElem?_cons_succ, Option.some.injEq] at hu
      subst hu
    · rw [List.getElem?_set_ne (by omega), List.getElem?_set_ne (by omega), List.getElem?_set_ne (by omega), List.getElem?_set_ne (by omega), Nat.add_zero, List.getElem?_set_self (by omega)]
    · rw [List.getElem?_set_ne (by omega), List.getElem?_set_ne (by omega), List.getElem?_set_ne (by omega), List.getElem?_set_self (by simp; omega)]
    · rw [List.getElem?_set_ne (by omega), List.getElem?_set_ne (by omega), List.getElem?_set_self (by simp; omega)]
    · rw [List.getElem?_set_ne (by omega), List.getElem?_set_self (by simp; omega)]
    · rw [List.getElem?_set_self (by simp; omega)]
/-- the plan that is being bent: the result's variable, its own variable O, its rows, the cursor -/
def BInv (w : World) (B g : Nat) (a : Option Addr) (len cap : Nat) (z : List Int) (T O : Nat) (v : Value) (l : List (Int × Value × List Fld)) (wr : World) : Prop :=
  Box wr w.heap.size 29 #[.slice none 0 0] ∧ Box wr O 29 #[v] ∧ (∃ U, Raws wr (w.heap.size + 1) U v l) ∧ Off O v l ∧ w.heap.size < O ∧ Bnd T l ∧ Cur wr B g a len cap z ∧ w.grownBy wr (some g)
section
variable {w wr w' : World} {B g : Nat} {a : Option Addr} {len cap : Nat} {z : List Int} {T O : Nat} {v : Value} {l : List (Int × Value × List Fld)}
theorem BInv.below (h : BInv w B g a len cap z T O v l wr) (hb : Below wr.heap.size wr w') : BInv w B g a len cap z T O v l w' := by
  obtain ⟨h1, h2, ⟨U, h3⟩, h4, h5, h6, h7, h8⟩ := h
  exact ⟨h1.all hb, h2.all hb, ⟨U, h3.keep hb.size (fun k _ hk => hb.block k (by have := h3.1; omega))⟩, h4, h5, h6, h7.below hb, below_grown h8 hb⟩
theorem BInv.drawn (h : BInv w B g a len cap z T O v l wr) (hg : g < w.heap.size) (hc : Cur w' B g a len cap z) (hgr : wr.grownBy w' (some g)) : BInv w B g a len cap z T O v l w' := by
  obtain ⟨h1, h2, ⟨U, h3⟩, h4, h5, h6, h7, h8⟩ := h
  exact ⟨h1.grown hgr (by simp; omega), h2.grown hgr (by simp; omega), ⟨U, h3.keep hgr.size (fun k hk1 hk => hgr.block k (by have := h3.1; omega) (by simp; omega))⟩, h4, h5, h6, hc, h8.trans hgr⟩
theorem BInv.far (h : BInv w B g a len cap z T O v l wr) (hg : g < w.heap.size) {p : Nat} (hp : w.heap.size < p) (hO : p ≠ O) (ho : Off p v l) (i : Nat) (u : Value) : BInv w B g a len cap z T O v l (wr.setCell ⟨p, i, none⟩ u) := by
  obtain ⟨h1, h2, ⟨U, h3⟩, h4, h5, h6, h7, h8⟩ := h
  exact ⟨h1.far (by simp; omega) _, h2.far (by simp; omega) _, ⟨U, h3.keep2 ho (by simp [World.setCell]) (fun k _ hk _ => Below.heap_setCell wr _ _ k (by simpa using hk))⟩, h4, h5, h6, h7.far (by simp; omega) _, grown_set h8 (.inr (by simp; omega)) _⟩
theorem BInv.mono {T' : Nat} (h : BInv w B g a len cap z T O v l wr) (hT : T ≤ T') : BInv w B g a len cap z T' O v l wr := by
  obtain ⟨h1, h2, h3, h4, h5, h6, h7⟩ := h
  exact ⟨h1, h2, h3, h4, h5, h6.mono hT, h7⟩
theorem BInv.bd {b n c : Nat} (h : BInv w B g a len cap z T O (.slice (some ⟨b, 0, none⟩) n c) l wr) : w.heap.size < b ∧ b ≠ O ∧ b < wr.heap.size := by
  obtain ⟨h1, h2, ⟨U, h3⟩, h4, h5, h6, h7, h8⟩ := h
  obtain ⟨h0, ⟨xs, hxs, _⟩, h3b, _⟩ := h3
  exact ⟨(hxs.lt b rfl).1, fun e => h4.1 (by simp [Value.ownBlock, e]), (hxs.lt b rfl).2⟩
theorem BInv.cells {b n c : Nat} (h : BInv w B g a len cap z T O (.slice (some ⟨b, 0, none⟩) n c) l wr) {j : Nat} {x : (Int × Value × List Fld)} (hx : l[j]? = some x) :
    (wr.cell? ⟨b, j * 2, none⟩ = some (.int .i64 x.1) ∧ wr.cell? ⟨b, j * 2 + 1, none⟩ = some x.2.1 ∧ wr.frozen? ⟨b, j * 2, none⟩ = false ∧ wr.frozen? ⟨b, j * 2 + 1, none⟩ = false) ∧ FRow wr (w.heap.size + 1) x.2.1 x.2.2 := by
  obtain ⟨_, _, ⟨U, h3⟩, _⟩ := h
  exact ⟨h3.cells hx, h3.2.2.2 j x hx⟩
theorem BInv.setId {b n c : Nat} (h : BInv w B g a len cap z T O (.slice (some ⟨b, 0, none⟩) n c) l wr) (hg : g < w.heap.size) {j : Nat} {x : (Int × Value × List Fld)} (hx : l[j]? = some x) (id : Int) :
    BInv w B g a len cap z T O (.slice (some ⟨b, 0, none⟩) n c) (l.set j (id, x.2.1, x.2.2)) (wr.setCell ⟨b, j * 2, none⟩ (.int .i64 id)) := by
  obtain ⟨hb1, hb2, _⟩ := h.bd
  obtain ⟨h1, h2, ⟨U, h3⟩, h4, h5, h6, h7, h8⟩ := h
  refine ⟨h1.far (by simp; omega) _, h2.far (by simp; omega) _, ⟨U, h3.setId hx id⟩, ⟨h4.1, fun j' x' hj' => ?_⟩, h5, fun j' x' hj' => ?_, h7.far (by simp; omega) _, grown_set h8 (.inr (by simp; omega)) _⟩
  · rcases get_set hj' with ⟨_, hj'⟩ | ⟨rfl, rfl⟩
    · exact h4.2 j' x' hj'
    · exact h4.2 j' x hx
  · rcases get_set hj' with ⟨_, hj'⟩ | ⟨rfl, rfl⟩
    · exact h6 j' x' hj'
    · exact h6 j' x hx
theorem BInv.pushed (h : BInv w B g a len cap z T O v l wr) (hg : g < w.heap.size) {W w2 : World} (hW : Below wr.heap.size wr W) {xs : List Value} (hx : W.ownsRow (w.heap.size + 1) 45 2 v l.length xs) (hxs : ∀ (j : Nat) (x : (Int × Value × List Fld)), l[j]? = some x → xs[j * 2]? = some (.int .i64 x.1) ∧ xs[j * 2 + 1]? = some x.2.1)
    {p cp : Nat} {id : Int} (hown : w2.ownsRow (w.heap.size + 1) 45 2 (.slice (some ⟨p, 0, none⟩) (l.length + 1) cp) (l.length + 1) (xs ++ [.int .i64 id, .slice none 0 0])) (hgr : W.grownBy w2 v.ownBlock) (hor : v.ownBlock = some p ∨ p = W.heap.size) (hlt : p < w2.heap.size) :
    Box w2 O 29 #[v] ∧ BInv w B g a len cap z T O (.slice (some ⟨p, 0, none⟩) (l.length + 1) cp) (l ++ [(id, .slice none 0 0, [])]) (w2.setCell ⟨O, 0, none⟩ (.slice (some ⟨p, 0, none⟩) (l.length + 1) cp)) := by
  have hW' := h.below hW
  obtain ⟨h1, h2, ⟨U, h3⟩, h4, h5, h6, h7, h8⟩ := hW'
  have hOl := h2.lt
  have hOwr := h.2.1.lt
  have hne : ∀ k, k < w.heap.size + 1 → some k ≠ v.ownBlock := fun k hk e => by
    have := (hx.lt k e.symm).1; omega
  have hP := h3.push hx hxs hown hgr hor hlt
  have hs2 := hgr.size
  have b2 := h2.grown hgr (fun e => h4.1 e.symm)
  have hof : Off O (.slice (some ⟨p, 0, none⟩) (l.length + 1) cp) (l ++ [(id, .slice none 0 0, [])]) := by
    refine ⟨fun e => ?_, fun j x hj => ?_⟩
    · simp [Value.ownBlock] at e
      rcases hor with hor | hor
      · exact h4.1 (by rw [hor, e])
      · omega
    · rcases get_push hj with hj | ⟨rfl, rfl⟩
      · exact h4.2 j x hj
      · simp [Value.ownBlock]
  refine ⟨b2, (h1.grown hgr (hne _ (by omega))).far (by simp; omega) _, b2.set_ 0 _, ⟨w2.heap.size, hP.keep2 hof (by simp [World.setCell]) (fun k _ hk _ => Below.heap_setCell w2 _ _ k (by simpa using hk))⟩, hof, h5, fun j x hj => ?_, ?_, ?_⟩
  · rcases get_push hj with hj | ⟨rfl, rfl⟩
    · exact h6 j x hj
    · exact Nat.zero_le _
  · exact (h7.keep (hgr.block g (by omega) (hne _ (by omega))) (fun k hk => hgr.block k (by have := h7.1; omega) (hne _ (by have := h7.1; omega)))).far (by simp; omega) _
  · exact grown_set (h8.andThen hgr (fun j hj => .inl (by have := (hx.lt j hj).1; omega))) (.inr (by simp; omega)) _
theorem BInv.added {b n c : Nat} (h : BInv w B g a len cap z T O (.slice (some ⟨b, 0, none⟩) n c) l wr) (hg : g < w.heap.size) {j : Nat} {id : Int} {fv : Value} {fs : List Fld} (hx : l[j]? = some (id, fv, fs)) {W w2 : World} (hW : Below wr.heap.size wr W)
    {ys : List Value} (hy : W.ownsRow (w.heap.size + 1) 50 5 fv fs.length ys) (hys : ∀ q y, fs[q]? = some y → ∀ i u, y.vs[i]? = some u → ys[q * 5 + i]? = some u)
    {q cq : Nat} {f : Fld} (hown : w2.ownsRow (w.heap.size + 1) 50 5 (.slice (some ⟨q, 0, none⟩) (fs.length + 1) cq) (fs.length + 1) (ys ++ f.vs)) (hgr : W.grownBy w2 fv.ownBlock) (hor : fv.ownBlock = some q ∨ q = W.heap.size) (hlt : q < w2.heap.size) {T' : Nat} (hT : T ≤ T') (hT2 : fs.length + 1 ≤ T') :
    (Box w2 O 29 #[.slice (some ⟨b, 0, none⟩) n c] ∧ w2.cell? ⟨b, j * 2 + 1, none⟩ = some fv ∧ w2.frozen? ⟨b, j * 2 + 1, none⟩ = false) ∧
    BInv w B g a len cap z T' O (.slice (some ⟨b, 0, none⟩) n c) (l.set j (id, .slice (some ⟨q, 0, none⟩) (fs.length + 1) cq, fs ++ [f])) (w2.setCell ⟨b, j * 2 + 1, none⟩ (.slice (some ⟨q, 0, none⟩) (fs.length + 1) cq)) := by
  obtain ⟨hb1, hb2, hb3⟩ := h.bd
  have hOwr := h.2.1.lt
  obtain ⟨h1, h2, ⟨U, h3⟩, h4, h5, h6, h7, h8⟩ := h.below hW
  have hs1 := hW.size
  have hs2 := hgr.size
  have hlo : ∀ k, k < w.heap.size + 1 → some k ≠ fv.ownBlock := fun k hk e => by have := (hy.lt k e.symm).1; omega
  have hbn : some b ≠ fv.ownBlock := fun e => (h3.2.2.1.2 j _ hx b e.symm).2.1 rfl
  have b1 := h1.grown hgr (hlo _ (by omega))
  have b2 := h2.grown hgr (fun e => h4.2 j _ hx e.symm)
  obtain ⟨_, c2, _, f2⟩ := h3.cells hx
  have hP := h3.addField hx hy hys hown hgr hor hlt
  refine ⟨⟨b2, (hgr.cell_far _ (by simp; omega) hbn).trans c2, (hgr.frozen_far _ (by simp; omega) hbn).trans f2⟩, b1.far (by simp; omega) _, b2.far (by simp; omega) _, ⟨_, hP⟩, ⟨h4.1, fun j' x' hj' => ?_⟩, h5, fun j' x' hj' => ?_, ?_, ?_⟩
  · rcases get_set hj' with ⟨_, hj'⟩ | ⟨rfl, rfl⟩
    · exact h4.2 j' x' hj'
    · simp [Value.ownBlock]
      rcases hor with hor | hor
      · intro e; exact h4.2 j' _ hx (by rw [hor, e])
      · omega
  · rcases get_set hj' with ⟨_, hj'⟩ | ⟨rfl, rfl⟩
    · exact Nat.le_trans (h6 j' x' hj') hT
    · simpa using hT2
  · exact (h7.keep (hgr.block g (by omega) (hlo _ (by omega))) (fun k hk => hgr.block k (by have := h7.1; omega) (hlo _ (by have := h7.1; omega)))).far (by simp; omega) _
  · exact grown_set (h8.andThen hgr (fun k hk => .inl (by have := (hy.lt k hk).1; omega))) (.inr (by simp; omega)) _
theorem BInv.fived {b n c : Nat} (h : BInv w B g a len cap z T O (.slice (some ⟨b, 0, none⟩) n c) l wr) (hg : g < w.heap.size) {j : Nat} {id : Int} {p m cp : Nat} {fs : List Fld} (hx : l[j]? = some (id, .slice (some ⟨p, 0, none⟩) m cp, fs)) {k : Nat} (hk : k < fs.length) (f : Fld) :
    BInv w B g a len cap z T O (.slice (some ⟨b, 0, none⟩) n c) (l.set j (id, .slice (some ⟨p, 0, none⟩) m cp, fs.set k f)) (five wr p k f) := by
  obtain ⟨h1, h2, ⟨U, h3⟩, h4, h5, h6, h7, h8⟩ := h
  have hf := h3.2.2.2 j _ hx
  have hpO : p ≠ O := fun e => h4.2 j _ hx (by simp [Value.ownBlock, e])
  have hpB : w.heap.size < p := by
    obtain ⟨ys, h9, _⟩ := hf
    exact (h9.lt p rfl).1
  have hfive : ∀ k', k' ≠ p → (five wr p k f).heap[k']? = wr.heap[k']? := fun k' hk' => five_other wr p k f k' hk'
  refine ⟨h1.keep (hfive _ (by omega)), h2.keep (hfive _ (fun e => hpO e.symm)), ⟨U, h3.reField hx (by rw [five_size]; exact Nat.le_refl _) hfive (hf.five hk f)⟩, ⟨h4.1, fun j' x' hj' => ?_⟩, h5, fun j' x' hj' => ?_, h7.keep (hfive _ (by omega)) (fun k' hk' => hfive _ (by have := h7.1; omega)), ?_⟩
  · rcases get_set hj' with ⟨_, hj'⟩ | ⟨rfl, rfl⟩
    · exact h4.2 j' x' hj'
    · exact h4.2 j' (id, .slice (some ⟨p, 0, none⟩) m cp, fs) hx
  · rcases get_set hj' with ⟨_, hj'⟩ | ⟨rfl, rfl⟩
    · exact h6 j' x' hj'
    · have := h6 j' _ hx
      simpa using this
  · unfold five
    exact grown_set (grown_set (grown_set (grown_set (grown_set h8 (.inr (by simp; omega)) _) (.inr (by simp; omega)) _) (.inr (by simp; omega)) _) (.inr (by simp; omega)) _) (.inr (by simp; omega)) _
end
end Go.Proofs.Ytcoghgpgfaifaaa
