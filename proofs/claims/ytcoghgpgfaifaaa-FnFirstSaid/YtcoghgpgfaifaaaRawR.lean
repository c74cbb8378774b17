/- The reference draws a plan that is right. Conditions: none. -/
import Derived.Test.YtcoghgpgfaifaaaRawX
import Derived.Test.YtcoghgpgfaifaaaRawP
import Derived.Test.YtcoghgpgfaifaaaNum
import Derived.Test.YtcoghgpgfaifaaaDrawB
import Derived.Deep.RegionHeld3
import Derived.Maps.Range
import Derived.Deep.DeepCutAuto
import Derived.Laws.Rows
import Derived.Deep.Onto
namespace Go.Proofs.Ytcoghgpgfaifaaa
open Go.RowKit
set_option linter.unusedVariables false
set_option linter.unusedSimpArgs false
theorem infoM : (Try.prog.info? 45).map (fun i => (i.zero, i.size, i.bytes)) = some (some (.agg #[.int .i64 0, .slice none 0 0]), 2, 32) := by kernel_rfl
theorem infoF : (Try.prog.info? 50).map (fun i => (i.zero, i.size, i.bytes)) = some (some (.agg #[.int .i64 0, .int .i64 0, .bool false, .bool false, .int .i64 0]), 5, 32) := by kernel_rfl
theorem pick_cells {w : World} {t : TypeId} {cs : Array Value} {n : Nat} {P : Value → Prop} (h : ∀ j, j < n → ∃ v, P v ∧ cs[j]? = some v) :
    ∀ j, j < n → ∃ v, P v ∧ (w.alloc (.cells cs t)).cell? ⟨w.heap.size, j, none⟩ = some v := fun j hj => by
  obtain ⟨v, h1, h2⟩ := h j hj
  exact ⟨v, h1, (World.cell?_alloc_mark w cs t (0, 0) j).trans h2⟩
/-- a plan of at most N messages with at most T fields each, in memory of its own -/
def RawPost (B g : Nat) (a : Option Addr) (len cap : Nat) (z : List Int) (T N : Nat) (w : World) (e : Ending) (w' : World) : Prop :=
  ∃ v l U, e = .returned (.agg #[v]) ∧ Cur w' B g a len cap z ∧ w.grownBy w' (some g) ∧ Raws w' w.heap.size U v l ∧ Bnd T l ∧ 1 ≤ l.length ∧ l.length ≤ N
/-- the plan that is being built: its variable, the result's variable, its rows, the cursor -/
def RInv (w : World) (B g : Nat) (a : Option Addr) (len cap : Nat) (z : List Int) (T : Nat) (v : Value) (l : List (Int × Value × List Fld)) (wr : World) : Prop :=
  Box wr w.heap.size 29 #[.slice none 0 0] ∧ Box wr (w.heap.size + 1) 29 #[v] ∧ (∃ U, Raws wr (w.heap.size + 2) U v l) ∧ Bnd T l ∧ Cur wr B g a len cap z ∧ w.grownBy wr (some g)
theorem below_grown {w wr w' : World} {g : Nat} (h : w.grownBy wr (some g)) (hb : Below wr.heap.size wr w') : w.grownBy w' (some g) := h.trans (grown_of_below hb _)
section
variable {w wr w' : World} {B g : Nat} {a : Option Addr} {len cap : Nat} {z : List Int} {T : Nat} {v : Value} {l : List (Int × Value × List Fld)}
theorem RInv.below (h : RInv w B g a len cap z T v l wr) (hb : Below wr.heap.size wr w') : RInv w B g a len cap z T v l w' := by
  obtain ⟨h1, h2, ⟨U, h3⟩, h4, h5, h6⟩ := h
  exact ⟨h1.all hb, h2.all hb, ⟨U, h3.keep hb.size (fun k _ hk => hb.block k (by have := h3.1; omega))⟩, h4, h5.below hb, below_grown h6 hb⟩
theorem RInv.drawn (h : RInv w B g a len cap z T v l wr) (hg : g < w.heap.size) (hc : Cur w' B g a len cap z) (hgr : wr.grownBy w' (some g)) : RInv w B g a len cap z T v l w' := by
  obtain ⟨h1, h2, ⟨U, h3⟩, h4, h5, h6⟩ := h
  exact ⟨h1.grown hgr (by simp; omega), h2.grown hgr (by simp; omega), ⟨U, h3.keep hgr.size (fun k hk1 hk => hgr.block k (by have := h3.1; omega) (by simp; omega))⟩, h4, hc, h6.trans hgr⟩
theorem RInv.size (h : RInv w B g a len cap z T v l wr) : w.heap.size + 2 ≤ wr.heap.size := by
  have := h.2.1.lt; omega
/-- behind an append to the plan's row, and its store -/
theorem RInv.pushed (h : RInv w B g a len cap z T v l wr) (hg : g < w.heap.size) {W w2 : World} (hW : Below wr.heap.size wr W) {xs : List Value} (hx : W.ownsRow (w.heap.size + 2) 45 2 v l.length xs) (hxs : ∀ (j : Nat) (x : (Int × Value × List Fld)), l[j]? = some x → xs[j * 2]? = some (.int .i64 x.1) ∧ xs[j * 2 + 1]? = some x.2.1)
    {p cp : Nat} {id : Int} (hown : w2.ownsRow (w.heap.size + 2) 45 2 (.slice (some ⟨p, 0, none⟩) (l.length + 1) cp) (l.length + 1) (xs ++ [.int .i64 id, .slice none 0 0])) (hgr : W.grownBy w2 v.ownBlock) (hor : v.ownBlock = some p ∨ p = W.heap.size) (hlt : p < w2.heap.size) :
    RInv w B g a len cap z T (.slice (some ⟨p, 0, none⟩) (l.length + 1) cp) (l ++ [(id, .slice none 0 0, [])]) (w2.setCell ⟨w.heap.size + 1, 0, none⟩ (.slice (some ⟨p, 0, none⟩) (l.length + 1) cp)) := by
  have hW' := h.below hW
  have hsz := hW'.size
  obtain ⟨h1, h2, ⟨U, h3⟩, h4, h5, h6⟩ := hW'
  have hne : ∀ k, k < w.heap.size + 2 → some k ≠ v.ownBlock := fun k hk e => by
    have := (hx.lt k e.symm).1; omega
  have hP := h3.push hx hxs hown hgr hor hlt
  have hs2 := hgr.size
  refine ⟨(h1.grown hgr (hne _ (by omega))).far (by simp) _, ?_, ⟨w2.heap.size, hP.keep (by simp [World.setCell]) (fun k hk _ => Below.heap_setCell w2 _ _ k (by simp; omega))⟩, fun j x hj => ?_, ?_, ?_⟩
  · exact (h2.grown hgr (hne _ (by omega))).set_ 0 _
  · rcases get_push hj with hj | ⟨rfl, rfl⟩
    · exact h4 j x hj
    · exact Nat.zero_le _
  · exact (h5.keep (hgr.block g (by omega) (hne _ (by omega))) (fun k hk => hgr.block k (by have := h5.1; omega) (hne _ (by have := h5.1; omega)))).far (by simp; omega) _
  · exact grown_set (h6.andThen hgr (fun j hj => .inl (by have := (hx.lt j hj).1; omega))) (.inr (by simp)) _
theorem RInv.frozen (h : RInv w B g a len cap z T v l wr) {W w2 : World} (hW : Below wr.heap.size wr W) {xs : List Value} (hx : W.ownsRow (w.heap.size + 2) 45 2 v l.length xs) (hgr : W.grownBy w2 v.ownBlock) : Box w2 (w.heap.size + 1) 29 #[v] :=
  (h.below hW).2.1.grown hgr (fun e => by have := (hx.lt _ e.symm).1; omega)
/-- a field's cells, as an array -/
def Fld.arr (x : Fld) : Array Value := #[.int .i64 x.n, .int .i64 x.k, .bool x.r, .bool x.p, .int .i64 x.f]
/-- a field that is being drawn stands in block p -/
def FInv (w : World) (B g : Nat) (a : Option Addr) (len cap : Nat) (z : List Int) (T : Nat) (v : Value) (l : List (Int × Value × List Fld)) (p : Nat) (f : Fld) (wr : World) : Prop :=
  Box wr w.heap.size 29 #[.slice none 0 0] ∧ Box wr (w.heap.size + 1) 29 #[v] ∧ (∃ U, Raws wr (w.heap.size + 2) U v l ∧ U ≤ p) ∧ Bnd T l ∧ Cur wr B g a len cap z ∧ w.grownBy wr (some g) ∧ Box wr p 50 f.arr ∧ w.heap.size + 2 ≤ p
variable {p : Nat} {f : Fld}
theorem FInv.toR (h : FInv w B g a len cap z T v l p f wr) : RInv w B g a len cap z T v l wr := by
  obtain ⟨h1, h2, ⟨U, h3, _⟩, h4, h5, h6, _⟩ := h
  exact ⟨h1, h2, ⟨U, h3⟩, h4, h5, h6⟩
theorem FInv.start (h : RInv w B g a len cap z T v l wr) (f : Fld) : FInv w B g a len cap z T v l wr.heap.size f (wr.alloc (.cells f.arr 50)) := by
  have hb : Below wr.heap.size wr (wr.alloc (.cells f.arr 50)) := (Below.refl _ _).alloc (Nat.le_refl _) _
  have hs := h.size
  obtain ⟨h1, h2, ⟨U, h3⟩, h4, h5, h6⟩ := h
  exact ⟨h1.all hb, h2.all hb, ⟨U, h3.keep hb.size (fun k _ hk => hb.block k (by have := h3.1; omega)), h3.1⟩, h4, h5.below hb, below_grown h6 hb, Box.new _ _ _, hs⟩
theorem FInv.below (h : FInv w B g a len cap z T v l p f wr) (hb : Below wr.heap.size wr w') : FInv w B g a len cap z T v l p f w' := by
  obtain ⟨h1, h2, ⟨U, h3, h3'⟩, h4, h5, h6, h7, h8⟩ := h
  exact ⟨h1.all hb, h2.all hb, ⟨U, h3.keep hb.size (fun k _ hk => hb.block k (by have := h3.1; omega)), h3'⟩, h4, h5.below hb, below_grown h6 hb, h7.all hb, h8⟩
theorem FInv.drawn (h : FInv w B g a len cap z T v l p f wr) (hg : g < w.heap.size) (hc : Cur w' B g a len cap z) (hgr : wr.grownBy w' (some g)) : FInv w B g a len cap z T v l p f w' := by
  obtain ⟨h1, h2, ⟨U, h3, h3'⟩, h4, h5, h6, h7, h8⟩ := h
  exact ⟨h1.grown hgr (by simp; omega), h2.grown hgr (by simp; omega), ⟨U, h3.keep hgr.size (fun k hk1 hk => hgr.block k (by have := h3.1; omega) (by simp; omega)), h3'⟩, h4, hc, h6.trans hgr, h7.grown hgr (by simp; omega), h8⟩
theorem FInv.set_ (h : FInv w B g a len cap z T v l p f wr) (hg : g < w.heap.size) (i : Nat) (u : Value) (f' : Fld) (he : f.arr.setIfInBounds i u = f'.arr) : FInv w B g a len cap z T v l p f' (wr.setCell ⟨p, i, none⟩ u) := by
  obtain ⟨h1, h2, ⟨U, h3, h3'⟩, h4, h5, h6, h7, h8⟩ := h
  refine ⟨h1.far (by simp; omega) _, h2.far (by simp; omega) _, ⟨U, h3.keep (by simp [World.setCell]) (fun k _ hk => Below.heap_setCell wr _ _ k (by simp; omega)), h3'⟩, h4, h5.far (by simp; omega) _, grown_set h6 (.inr (by simp; omega)) _, ?_, h8⟩
  rw [← he]
  exact h7.set_ i u
theorem FInv.ids {b n c : Nat} (h : FInv w B g a len cap z T (.slice (some ⟨b, 0, none⟩) n c) l p f wr) : ∀ (j : Nat) (x : (Int × Value × List Fld)), l[j]? = some x → wr.cell? ⟨b, j * 2, none⟩ = some (.int .i64 x.1) := by
  obtain ⟨_, _, ⟨U, h3, _⟩, _⟩ := h
  exact fun j x hx => (h3.cells hx).1
theorem FInv.fvs {b n c : Nat} (h : FInv w B g a len cap z T (.slice (some ⟨b, 0, none⟩) n c) l p f wr) {j : Nat} {x : (Int × Value × List Fld)} (hx : l[j]? = some x) : wr.cell? ⟨b, j * 2 + 1, none⟩ = some x.2.1 ∧ FRow wr (w.heap.size + 2) x.2.1 x.2.2 := by
  obtain ⟨_, _, ⟨U, h3, _⟩, _⟩ := h
  exact ⟨(h3.cells hx).2.1, h3.2.2.2 j x hx⟩
theorem FInv.fat {b n c : Nat} (h : FInv w B g a len cap z T (.slice (some ⟨b, 0, none⟩) n c) l p f wr) {j : Nat} {id : Int} {fa : Option Addr} {m fc : Nat} {fs : List Fld} (hx : l[j]? = some (id, .slice fa m fc, fs)) : FAt wr 0 fa fs :=
  (h.fvs hx).2.fat (Nat.zero_le _)
theorem FInv.five (h : FInv w B g a len cap z T v l p f wr) : wr.cell? ⟨w.heap.size + 1, 0, none⟩ = some v ∧ wr.cell? ⟨p, 0, none⟩ = some (.int .i64 f.n) ∧ wr.cell? ⟨p, 1, none⟩ = some (.int .i64 f.k) ∧ wr.cell? ⟨p, 2, none⟩ = some (.bool f.r) ∧ wr.cell? ⟨p, 3, none⟩ = some (.bool f.p) ∧ wr.cell? ⟨p, 4, none⟩ = some (.int .i64 f.f) := by
  obtain ⟨_, h2, _, _, _, _, h7, _⟩ := h
  exact ⟨h2.cell 0 rfl, h7.cell 0 rfl, h7.cell 1 rfl, h7.cell 2 rfl, h7.cell 3 rfl, h7.cell 4 rfl⟩
theorem Bnd.mono {T T' : Nat} {l : List (Int × Value × List Fld)} (h : Bnd T l) (hT : T ≤ T') : Bnd T' l := fun j x hx => Nat.le_trans (h j x hx) hT
theorem RInv.mono {T' : Nat} (h : RInv w B g a len cap z T v l wr) (hT : T ≤ T') : RInv w B g a len cap z T' v l wr := by
  obtain ⟨h1, h2, h3, h4, h5, h6⟩ := h
  exact ⟨h1, h2, h3, h4.mono hT, h5, h6⟩
theorem Raws.low {B' U : Nat} (h : Raws w B U v l) (hb : B' ≤ B) : Raws w B' U v l := by
  obtain ⟨h1, ⟨xs, h2, h3⟩, h4, h5⟩ := h
  refine ⟨h1, ⟨xs, h2.mono hb, h3⟩, h4, fun j x hx => ?_⟩
  obtain ⟨ys, h6, h7⟩ := h5 j x hx
  exact ⟨ys, h6.mono hb, h7⟩
/-- what holds behind an append to a message's fields, and behind its store -/
def Added (w : World) (B g : Nat) (a : Option Addr) (len cap : Nat) (z : List Int) (T : Nat) (b n c : Nat) (l : List (Int × Value × List Fld)) (p : Nat) (f : Fld) (j : Nat) (id : Int) (fv fv' : Value) (fs : List Fld) (w2 : World) : Prop :=
  (Box w2 (w.heap.size + 1) 29 #[.slice (some ⟨b, 0, none⟩) n c] ∧ Box w2 p 50 f.arr ∧ w2.cell? ⟨b, j * 2 + 1, none⟩ = some fv ∧ w2.frozen? ⟨b, j * 2 + 1, none⟩ = false) ∧
  RInv w B g a len cap z T (.slice (some ⟨b, 0, none⟩) n c) (l.set j (id, fv', fs ++ [f])) (w2.setCell ⟨b, j * 2 + 1, none⟩ fv') ∧ Box (w2.setCell ⟨b, j * 2 + 1, none⟩ fv') p 50 f.arr
theorem FInv.added {b n c : Nat} (h : FInv w B g a len cap z T (.slice (some ⟨b, 0, none⟩) n c) l p f wr) (hg : g < w.heap.size) {j : Nat} {id : Int} {fv : Value} {fs : List Fld} (hx : l[j]? = some (id, fv, fs)) {W w2 : World} (hW : Below wr.heap.size wr W)
    {ys : List Value} (hy : W.ownsRow (w.heap.size + 2) 50 5 fv fs.length ys) (hys : ∀ q y, fs[q]? = some y → ∀ i u, y.vs[i]? = some u → ys[q * 5 + i]? = some u)
    {q cq : Nat} (hown : w2.ownsRow (w.heap.size + 2) 50 5 (.slice (some ⟨q, 0, none⟩) (fs.length + 1) cq) (fs.length + 1) (ys ++ f.vs)) (hgr : W.grownBy w2 fv.ownBlock) (hor : fv.ownBlock = some q ∨ q = W.heap.size) (hlt : q < w2.heap.size) {T' : Nat} (hT : T ≤ T') (hT2 : fs.length + 1 ≤ T') :
    Added w B g a len cap z T' b n c l p f j id fv (.slice (some ⟨q, 0, none⟩) (fs.length + 1) cq) fs w2 := by
  obtain ⟨h1, h2, ⟨U, h3, h3'⟩, h4, h5, h6, h7, h8⟩ := h.below hW
  have hs2 := hgr.size
  have hU := h3.1
  have hb1 : w.heap.size + 2 ≤ b ∧ b < U := by
    obtain ⟨_, ⟨xs, hxs, _⟩, h3b, _⟩ := h3
    exact ⟨(hxs.lt b rfl).1, h3b.1 b rfl⟩
  have hfv : ∀ k, fv.ownBlock = some k → w.heap.size + 2 ≤ k ∧ k < U ∧ k ≠ b := fun k hk => by
    have e := h3.2.2.1.2 j _ hx k hk
    refine ⟨(hy.lt k hk).1, e.1, fun e' => e.2.1 (by simp [Value.ownBlock, e'])⟩
  have hlo : ∀ k, k < w.heap.size + 2 → some k ≠ fv.ownBlock := fun k hk e => by have := (hfv k e.symm).1; omega
  have hhi : some p ≠ fv.ownBlock := fun e => by have := (hfv p e.symm).2.1; omega
  have hbn : some b ≠ fv.ownBlock := fun e => (hfv b e.symm).2.2 rfl
  have b1 := h1.grown hgr (hlo _ (by omega))
  have b2 := h2.grown hgr (hlo _ (by omega))
  have b7 := h7.grown hgr hhi
  obtain ⟨_, c2, _, f2⟩ := h3.cells hx
  have hP := h3.addField hx hy hys hown hgr hor hlt
  refine ⟨⟨b2, b7, (hgr.cell_far _ (by simp; omega) hbn).trans c2, (hgr.frozen_far _ (by simp; omega) hbn).trans f2⟩, ⟨b1.far (by simp; omega) _, b2.far (by simp; omega) _, ⟨_, hP⟩, fun j' x' hj' => ?_, ?_, ?_⟩, b7.far (by simp; omega) _⟩
  · rcases get_set hj' with ⟨_, hj'⟩ | ⟨rfl, rfl⟩
    · exact Nat.le_trans (h4 j' x' hj') hT
    · simpa using hT2
  · exact (h5.keep (hgr.block g (by omega) (hlo _ (by omega))) (fun k hk => hgr.block k (by have := h5.1; omega) (hlo _ (by have := h5.1; omega)))).far (by simp; omega) _
  · exact grown_set (h6.andThen hgr (fun k hk => .inl (by have := (hfv k hk).1; omega))) (.inr (by simp; omega)) _
end
set_option maxRecDepth 20000 in
set_option maxHeartbeats 4000000 in
theorem d_Right {B g : Nat} {a : Option Addr} {len cap : Nat} {z : List Int} (w : World) (hc : Cur w B g a len cap z) :
    Calls Try.prog 54 #[.pointer (some ⟨g, 0, none⟩)] w (RawPost B g a len cap z 18 3 w) := by
  obtain ⟨ti, hi0, hz0, hz1, hz2⟩ := info_parts infoM
  obtain ⟨tf, fi0, fz0, fz1, fz2⟩ := info_parts infoF
  have hgl := hc.lt
  go_enter Try.func54, Try.ntmps54
  go_wp2_with fail
  refine (d_Below _ ((hc.alloc _).alloc _) 3 (by omega) (by omega)).mono ?_
  rintro e w1 ⟨x, hx0, hx1, rfl, hc1, hg1⟩
  rw [hiB_pos (by omega)] at hx1
  obtain ⟨n0, rfl⟩ := Int.eq_ofNat_of_zero_le hx0
  obtain ⟨n, hn, hn1, hn3⟩ : ∃ n : Nat, (1 : Int) + (n0 : Int) = (n : Int) ∧ 1 ≤ n ∧ n ≤ 3 := ⟨n0 + 1, by omega, by omega, by omega⟩
  have hI1 : RInv w B g a len cap z 0 (.slice none 0 0) [] w1 := by
    have b1 := (Box.new w 29 #[.slice none 0 0]).alloc (.cells #[.slice none 0 0] 29)
    have b2 := Box.new (w.alloc (.cells #[.slice none 0 0] 29)) 29 #[.slice none 0 0]
    rw [show (w.alloc (.cells #[.slice none 0 0] 29)).heap.size = w.heap.size + 1 by simp] at b2
    have hr := Raws.nil ((w.alloc (.cells #[.slice none 0 0] 29)).alloc (.cells #[.slice none 0 0] 29)) (w.heap.size + 2)
    exact RInv.drawn (wr := (w.alloc (.cells #[.slice none 0 0] 29)).alloc (.cells #[.slice none 0 0] 29)) ⟨b1, b2, ⟨_, hr⟩, fun j x h => by simp at h, (hc.alloc _).alloc _, grown_alloc (grown_alloc (grown_refl _ _) _) _⟩ hgl hc1 hg1
  have hn2 : n0 ≤ 2 := by omega
  clear hc1 hg1 hc hx0 hx1 hn hn1 hn3
  go_wp2_with fail
  go_loopw [5] (fun i wr => ∃ (I : Nat) (v : Value) (l : List (Int × Value × List Fld)), I ≤ n0 + 1 ∧ i = .int .i64 I ∧ l.length = I ∧ RInv w B g a len cap z 0 v l wr) (fun i _ => n0 + 1 - (intOf i).toNat)
  case atStart => exact ⟨0, _, [], Nat.zero_le _, rfl, rfl, hI1⟩
  case round =>
    obtain ⟨I, v, l, hI, rfl, rfl, hrel⟩ := hrel
    by_cases hlt : l.length < n0 + 1
    · have hlt0 : (l.length : Int) < 1 + (n0 : Int) := by omega
      have hlt1 : (0 : Int) ≤ (l.length : Int) := by omega
      have hlt2 : (l.length : Int) < 4 := by omega
      obtain ⟨id, hid⟩ : ∃ id : Int, (#[Value.int .i64 5, .int .i64 1, .int .i64 99, .int .i64 7] : Array Value)[l.length]? = some (.int .i64 id) := by
        rcases (show l.length = 0 ∨ l.length = 1 ∨ l.length = 2 by omega) with e | e | e
        all_goals (rw [e]; exact ⟨_, rfl⟩)
      have hB1 : Below wr.heap.size wr (wr.alloc (.cells #[Value.int .i64 5, .int .i64 1, .int .i64 99, .int .i64 7] 3)) := (Below.refl _ _).alloc (Nat.le_refl _) _
      have hB2 := hB1.alloc hB1.size (.cells #[.int .i64 id, .slice none 0 0] 45)
      have hbO := hrel.2.1
      have q0 := hbO.cell 0 rfl
      have q1 := (hbO.all hB1).cell 0 rfl
      have q2 := (hbO.all hB2).cell 0 rfl
      have qI : (wr.alloc (.cells #[Value.int .i64 5, .int .i64 1, .int .i64 99, .int .i64 7] 3)).cell? ⟨wr.heap.size, l.length, none⟩ = some (.int .i64 id) := (World.cell?_alloc_mark wr _ _ (0, 0) l.length).trans hid
      have hN2 := World.news_of_block (w := ((wr.alloc (.cells #[Value.int .i64 5, .int .i64 1, .int .i64 99, .int .i64 7] 3)).alloc (.cells #[.int .i64 id, .slice none 0 0] 45)).drew) (heap_alloc_new (wr.alloc (.cells #[Value.int .i64 5, .int .i64 1, .int .i64 99, .int .i64 7] 3)) (.cells #[.int .i64 id, .slice none 0 0] 45))
      rw [show (wr.alloc (.cells #[Value.int .i64 5, .int .i64 1, .int .i64 99, .int .i64 7] 3)).heap.size = wr.heap.size + 1 by simp] at hN2
      have hWs : (((wr.alloc (.cells #[Value.int .i64 5, .int .i64 1, .int .i64 99, .int .i64 7] 3)).alloc (.cells #[.int .i64 id, .slice none 0 0] 45)).drew).heap.size = wr.heap.size + 2 := by simp
      obtain ⟨xs, hxs0, hxs⟩ := (hrel.below hB2.drew).2.2.1.choose_spec.2.1
      have hsz := hrel.size
      clear hid
      have HN2 := Lib.hid hN2
      have HXS := Lib.hid hxs
      clear hN2 hxs
      go_wp2_with fail
      refine wp_region_held_drew (S := fun w' => True) (by kernel_rfl) (trivial) (fun hHeld => ?_)
      refine wpAnyH_take (i := 0) (oi := { dst := some 19, op := Op.fieldAddr 29 (Operand.tmp 3) 0, type := 0, pos := _, after := #[], guard := none }) (v := ?_) rfl (by kernel_rfl) (by kernel_rfl) (by kernel_rfl) (fun _ _ _ h => h) (Or.inl ⟨by kernel_rfl, ?_⟩) (by assumption) ?_
      rotate_left
      · intro w hSw; skip; go_simp; first | done | (with_reducible rfl) | (rw [if_neg (by omega)])
      try simp only [Act.put, List.setIfInBounds_toArray, List.set_cons_zero, List.set_cons_succ]
      refine wpAnyH_take (i := 3) (oi := { dst := some 22, op := Op.move (Operand.tmp 5), type := 3, pos := _, after := #[], guard := none }) (v := ?_) rfl (by kernel_rfl) (by kernel_rfl) (by kernel_rfl) (fun _ _ _ h => h) (Or.inl ⟨by kernel_rfl, ?_⟩) (by assumption) ?_
      rotate_left
      · intro w hSw; skip; go_simp; first | done | (with_reducible rfl) | (rw [if_neg (by omega)])
      try simp only [Act.put, List.setIfInBounds_toArray, List.set_cons_zero, List.set_cons_succ]
      refine wpAnyH_ready (rs := [1, 2]) (by kernel_rfl) (by simp) ?_
      refine (AllReadyH.cons (o := { dst := some 20, op := Op.load 27 (Operand.tmp 19), type := 27, pos := _, after := #[{ on := 0, ground := Ground.data }], guard := none }) rfl (fun K hK => ?_) (AllReadyH.cons (o := { dst := some 21, op := Op.buildSlice 78 4 #[(0, Operand.const (Value.int IntKind.i64 5)), (1, Operand.const (Value.int IntKind.i64 1)), (2, Operand.const (Value.int IntKind.i64 99)), (3, Operand.const (Value.int IntKind.i64 7))], type := 78, pos := _, after := #[], guard := none }) rfl (fun K hK => ?_) AllReadyH.nil))
      · rw [if_pos (by kernel_rfl)]
        go_simp
        refine hK.out _ _ trivial (fun _ => ?_)
        clear hK K
        try simp only [Act.put, List.setIfInBounds_toArray, List.set_cons_zero, List.set_cons_succ]
        refine wpAnyH_ready (rs := [2]) (by kernel_rfl) (by simp) ?_
        refine AllReadyH.cons (o := { dst := some 21, op := Op.buildSlice 78 4 #[(0, Operand.const (Value.int IntKind.i64 5)), (1, Operand.const (Value.int IntKind.i64 1)), (2, Operand.const (Value.int IntKind.i64 99)), (3, Operand.const (Value.int IntKind.i64 7))], type := 78, pos := _, after := #[], guard := none }) rfl (fun K hK => ?_) AllReadyH.nil
        rw [if_pos (by kernel_rfl)]
        go_simp
        refine hK.out _ _ trivial (fun _ => ?_)
        clear hK K
        try simp only [Act.put, List.setIfInBounds_toArray, List.set_cons_zero, List.set_cons_succ]
        refine wpAnyH_take (i := 4) (oi := { dst := some 23, op := Op.indexAddr 78 (Operand.tmp 21) (Operand.tmp 22), type := 0, pos := _, after := #[{ on := 2, ground := Ground.data }, { on := 3, ground := Ground.data }], guard := none }) (v := ?_) rfl (by kernel_rfl) (by kernel_rfl) (by kernel_rfl) (fun _ _ _ h => h) (Or.inl ⟨by kernel_rfl, ?_⟩) (by assumption) ?_
        rotate_left
        · intro w hSw; skip; go_simp; first | done | (with_reducible rfl) | (rw [if_neg (by omega)])
        try simp only [Act.put, List.setIfInBounds_toArray, List.set_cons_zero, List.set_cons_succ]
        refine wpAnyH_ready (rs := [5]) (by kernel_rfl) (by simp) ?_
        refine AllReadyH.cons (o := { dst := some 24, op := Op.load 3 (Operand.tmp 23), type := 3, pos := _, after := #[{ on := 4, ground := Ground.data }], guard := none }) rfl (fun K hK => ?_) AllReadyH.nil
        rw [if_pos (by kernel_rfl)]
        go_simp
        refine hK.out _ _ trivial (fun _ => ?_)
        clear hK K
        try simp only [Act.put, List.setIfInBounds_toArray, List.set_cons_zero, List.set_cons_succ]
        refine wpAnyH_take (i := 6) (oi := { dst := some 25, op := Op.build 45 #[(0, Operand.tmp 24)], type := 45, pos := _, after := #[{ on := 5, ground := Ground.data }], guard := none }) (v := ?_) rfl (by kernel_rfl) (by kernel_rfl) (by kernel_rfl) (fun _ _ _ h => h) (Or.inl ⟨by kernel_rfl, ?_⟩) (by assumption) ?_
        rotate_left
        · intro w hSw; skip; go_simp; first | done | (with_reducible rfl) | (rw [if_neg (by omega)])
        try simp only [Act.put, List.setIfInBounds_toArray, List.set_cons_zero, List.set_cons_succ]
        refine wpAnyH_ready (rs := [7]) (by kernel_rfl) (by simp) ?_
        refine AllReadyH.cons (o := { dst := some 26, op := Op.buildSlice 27 1 #[(0, Operand.tmp 25)], type := 27, pos := _, after := #[{ on := 6, ground := Ground.data }], guard := none }) rfl (fun K hK => ?_) AllReadyH.nil
        rw [if_pos (by kernel_rfl)]
        go_simp
        refine hK.out _ _ trivial (fun _ => ?_)
        clear hK K
        try simp only [Act.put, List.setIfInBounds_toArray, List.set_cons_zero, List.set_cons_succ]
        refine wpAnyH_ready (rs := [8]) (by kernel_rfl) (by simp) ?_
        refine AllReadyH.cons (o := { dst := some 27, op := Op.call { callee := Callee.builtin Builtin.append, args := #[Operand.tmp 20, Operand.tmp 26], argTypes := #[27, 27] }, type := 27, pos := _, after := #[{ on := 1, ground := Ground.data }, { on := 7, ground := Ground.data }], guard := none }) rfl (fun K hK => ?_) AllReadyH.nil
        rw [if_pos (by kernel_rfl)]
        refine wp_append_lies _ (.tmp 20) (.tmp 26) 27 rfl (w.heap.size + 2) 45 ti _ 2 32 Try.underlying27 hi0 hz0 hz1 hz2 rfl (by decide) v l.length xs rfl hxs0 ⟨wr.heap.size + 1, 0, none⟩ 1 1 [.int .i64 id, .slice none 0 0] rfl rfl HN2.out (by intro u hu; simp at hu; rcases hu with rfl | rfl <;> rfl) (by omega) (by unfold maxLen; omega) (by omega) (by rw [hWs]; omega) (wr.heap.size + 2) hWs ?_
        intro p cp w2 hown hgr hor hlp
        refine hK.out _ _ trivial (fun _ => ?_)
        clear hK K
        try simp only [Act.put, List.setIfInBounds_toArray, List.set_cons_zero, List.set_cons_succ]
        refine wpAnyH_take (i := 9) (oi := { dst := some 28, op := Op.fieldAddr 29 (Operand.tmp 3) 0, type := 0, pos := _, after := #[{ on := 0, ground := Ground.phase }, { on := 1, ground := Ground.phase }, { on := 2, ground := Ground.phase }, { on := 3, ground := Ground.phase }, { on := 4, ground := Ground.phase }, { on := 5, ground := Ground.phase }, { on := 6, ground := Ground.phase }, { on := 7, ground := Ground.phase }, { on := 8, ground := Ground.phase }], guard := none }) (v := ?_) rfl (by kernel_rfl) (by kernel_rfl) (by kernel_rfl) (fun _ _ _ h => h) (Or.inl ⟨by kernel_rfl, ?_⟩) (by assumption) ?_
        rotate_left
        · intro w hSw; skip; go_simp; first | done | (with_reducible rfl) | (rw [if_neg (by omega)])
        try simp only [Act.put, List.setIfInBounds_toArray, List.set_cons_zero, List.set_cons_succ]
        refine wpAnyH_ready (rs := [10]) (by kernel_rfl) (by simp) ?_
        refine AllReadyH.cons (o := { dst := none, op := Op.store 27 (Operand.tmp 28) (Operand.tmp 27), type := 0, pos := _, after := #[{ on := 9, ground := Ground.data }, { on := 8, ground := Ground.data }, { on := 8, ground := Ground.chain }, { on := 0, ground := Ground.phase }, { on := 1, ground := Ground.phase }, { on := 2, ground := Ground.phase }, { on := 3, ground := Ground.phase }, { on := 4, ground := Ground.phase }, { on := 5, ground := Ground.phase }, { on := 6, ground := Ground.phase }, { on := 7, ground := Ground.phase }, { on := 8, ground := Ground.phase }], guard := none }) rfl (fun K hK => ?_) AllReadyH.nil
        rw [if_pos (by kernel_rfl)]
        have hP := hrel.pushed hgl hB2.drew hxs0 HXS.out hown hgr (by rw [hWs]; exact hor) hlp
        have fO := hrel.frozen hB2.drew hxs0 hgr
        have fO1 := fO.free 0
        have fO2 := fO.cell 0 rfl
        go_simp
        refine hK.out _ _ trivial (fun _ => ?_)
        clear hK K
        try simp only [Act.put, List.setIfInBounds_toArray, List.set_cons_zero, List.set_cons_succ]
        refine wpAnyH_done (by kernel_rfl) ?_ _
        go_wp2
        go_roundw
        case rel => exact ⟨l.length + 1, _, l ++ [(id, .slice none 0 0, [])], by omega, by go_num, by simp, hP⟩
        case measure => simp [intOf]; omega
      · rw [if_pos (by kernel_rfl)]
        go_simp
        refine hK.out _ _ trivial (fun _ => ?_)
        clear hK K
        try simp only [Act.put, List.setIfInBounds_toArray, List.set_cons_zero, List.set_cons_succ]
        refine wpAnyH_take (i := 4) (oi := { dst := some 23, op := Op.indexAddr 78 (Operand.tmp 21) (Operand.tmp 22), type := 0, pos := _, after := #[{ on := 2, ground := Ground.data }, { on := 3, ground := Ground.data }], guard := none }) (v := ?_) rfl (by kernel_rfl) (by kernel_rfl) (by kernel_rfl) (fun _ _ _ h => h) (Or.inl ⟨by kernel_rfl, ?_⟩) (by assumption) ?_
        rotate_left
        · intro w hSw; skip; go_simp; first | done | (with_reducible rfl) | (rw [if_neg (by omega)])
        try simp only [Act.put, List.setIfInBounds_toArray, List.set_cons_zero, List.set_cons_succ]
        refine wpAnyH_ready (rs := [1, 5]) (by kernel_rfl) (by simp) ?_
        refine (AllReadyH.cons (o := { dst := some 20, op := Op.load 27 (Operand.tmp 19), type := 27, pos := _, after := #[{ on := 0, ground := Ground.data }], guard := none }) rfl (fun K hK => ?_) (AllReadyH.cons (o := { dst := some 24, op := Op.load 3 (Operand.tmp 23), type := 3, pos := _, after := #[{ on := 4, ground := Ground.data }], guard := none }) rfl (fun K hK => ?_) AllReadyH.nil))
        · rw [if_pos (by kernel_rfl)]
          go_simp
          refine hK.out _ _ trivial (fun _ => ?_)
          clear hK K
          try simp only [Act.put, List.setIfInBounds_toArray, List.set_cons_zero, List.set_cons_succ]
          refine wpAnyH_ready (rs := [5]) (by kernel_rfl) (by simp) ?_
          refine AllReadyH.cons (o := { dst := some 24, op := Op.load 3 (Operand.tmp 23), type := 3, pos := _, after := #[{ on := 4, ground := Ground.data }], guard := none }) rfl (fun K hK => ?_) AllReadyH.nil
          rw [if_pos (by kernel_rfl)]
          go_simp
          refine hK.out _ _ trivial (fun _ => ?_)
          clear hK K
          try simp only [Act.put, List.setIfInBounds_toArray, List.set_cons_zero, List.set_cons_succ]
          refine wpAnyH_take (i := 6) (oi := { dst := some 25, op := Op.build 45 #[(0, Operand.tmp 24)], type := 45, pos := _, after := #[{ on := 5, ground := Ground.data }], guard := none }) (v := ?_) rfl (by kernel_rfl) (by kernel_rfl) (by kernel_rfl) (fun _ _ _ h => h) (Or.inl ⟨by kernel_rfl, ?_⟩) (by assumption) ?_
          rotate_left
          · intro w hSw; skip; go_simp; first | done | (with_reducible rfl) | (rw [if_neg (by omega)])
          try simp only [Act.put, List.setIfInBounds_toArray, List.set_cons_zero, List.set_cons_succ]
          refine wpAnyH_ready (rs := [7]) (by kernel_rfl) (by simp) ?_
          refine AllReadyH.cons (o := { dst := some 26, op := Op.buildSlice 27 1 #[(0, Operand.tmp 25)], type := 27, pos := _, after := #[{ on := 6, ground := Ground.data }], guard := none }) rfl (fun K hK => ?_) AllReadyH.nil
          rw [if_pos (by kernel_rfl)]
          go_simp
          refine hK.out _ _ trivial (fun _ => ?_)
          clear hK K
          try simp only [Act.put, List.setIfInBounds_toArray, List.set_cons_zero, List.set_cons_succ]
          refine wpAnyH_ready (rs := [8]) (by kernel_rfl) (by simp) ?_
          refine AllReadyH.cons (o := { dst := some 27, op := Op.call { callee := Callee.builtin Builtin.append, args := #[Operand.tmp 20, Operand.tmp 26], argTypes := #[27, 27] }, type := 27, pos := _, after := #[{ on := 1, ground := Ground.data }, { on := 7, ground := Ground.data }], guard := none }) rfl (fun K hK => ?_) AllReadyH.nil
          rw [if_pos (by kernel_rfl)]
          refine wp_append_lies _ (.tmp 20) (.tmp 26) 27 rfl (w.heap.size + 2) 45 ti _ 2 32 Try.underlying27 hi0 hz0 hz1 hz2 rfl (by decide) v l.length xs rfl hxs0 ⟨wr.heap.size + 1, 0, none⟩ 1 1 [.int .i64 id, .slice none 0 0] rfl rfl HN2.out (by intro u hu; simp at hu; rcases hu with rfl | rfl <;> rfl) (by omega) (by unfold maxLen; omega) (by omega) (by rw [hWs]; omega) (wr.heap.size + 2) hWs ?_
          intro p cp w2 hown hgr hor hlp
          refine hK.out _ _ trivial (fun _ => ?_)
          clear hK K
          try simp only [Act.put, List.setIfInBounds_toArray, List.set_cons_zero, List.set_cons_succ]
          refine wpAnyH_take (i := 9) (oi := { dst := some 28, op := Op.fieldAddr 29 (Operand.tmp 3) 0, type := 0, pos := _, after := #[{ on := 0, ground := Ground.phase }, { on := 1, ground := Ground.phase }, { on := 2, ground := Ground.phase }, { on := 3, ground := Ground.phase }, { on := 4, ground := Ground.phase }, { on := 5, ground := Ground.phase }, { on := 6, ground := Ground.phase }, { on := 7, ground := Ground.phase }, { on := 8, ground := Ground.phase }], guard := none }) (v := ?_) rfl (by kernel_rfl) (by kernel_rfl) (by kernel_rfl) (fun _ _ _ h => h) (Or.inl ⟨by kernel_rfl, ?_⟩) (by assumption) ?_
          rotate_left
          · intro w hSw; skip; go_simp; first | done | (with_reducible rfl) | (rw [if_neg (by omega)])
          try simp only [Act.put, List.setIfInBounds_toArray, List.set_cons_zero, List.set_cons_succ]
          refine wpAnyH_ready (rs := [10]) (by kernel_rfl) (by simp) ?_
          refine AllReadyH.cons (o := { dst := none, op := Op.store 27 (Operand.tmp 28) (Operand.tmp 27), type := 0, pos := _, after := #[{ on := 9, ground := Ground.data }, { on := 8, ground := Ground.data }, { on := 8, ground := Ground.chain }, { on := 0, ground := Ground.phase }, { on := 1, ground := Ground.phase }, { on := 2, ground := Ground.phase }, { on := 3, ground := Ground.phase }, { on := 4, ground := Ground.phase }, { on := 5, ground := Ground.phase }, { on := 6, ground := Ground.phase }, { on := 7, ground := Ground.phase }, { on := 8, ground := Ground.phase }], guard := none }) rfl (fun K hK => ?_) AllReadyH.nil
          rw [if_pos (by kernel_rfl)]
          have hP := hrel.pushed hgl hB2.drew hxs0 HXS.out hown hgr (by rw [hWs]; exact hor) hlp
          have fO := hrel.frozen hB2.drew hxs0 hgr
          have fO1 := fO.free 0
          have fO2 := fO.cell 0 rfl
          go_simp
          refine hK.out _ _ trivial (fun _ => ?_)
          clear hK K
          try simp only [Act.put, List.setIfInBounds_toArray, List.set_cons_zero, List.set_cons_succ]
          refine wpAnyH_done (by kernel_rfl) ?_ _
          go_wp2
          go_roundw
          case rel => exact ⟨l.length + 1, _, l ++ [(id, .slice none 0 0, [])], by omega, by go_num, by simp, hP⟩
          case measure => simp [intOf]; omega
        · rw [if_pos (by kernel_rfl)]
          go_simp
          refine hK.out _ _ trivial (fun _ => ?_)
          clear hK K
          try simp only [Act.put, List.setIfInBounds_toArray, List.set_cons_zero, List.set_cons_succ]
          refine wpAnyH_take (i := 6) (oi := { dst := some 25, op := Op.build 45 #[(0, Operand.tmp 24)], type := 45, pos := _, after := #[{ on := 5, ground := Ground.data }], guard := none }) (v := ?_) rfl (by kernel_rfl) (by kernel_rfl) (by kernel_rfl) (fun _ _ _ h => h) (Or.inl ⟨by kernel_rfl, ?_⟩) (by assumption) ?_
          rotate_left
          · intro w hSw; skip; go_simp; first | done | (with_reducible rfl) | (rw [if_neg (by omega)])
          try simp only [Act.put, List.setIfInBounds_toArray, List.set_cons_zero, List.set_cons_succ]
          refine wpAnyH_ready (rs := [1, 7]) (by kernel_rfl) (by simp) ?_
          refine (AllReadyH.cons (o := { dst := some 20, op := Op.load 27 (Operand.tmp 19), type := 27, pos := _, after := #[{ on := 0, ground := Ground.data }], guard := none }) rfl (fun K hK => ?_) (AllReadyH.cons (o := { dst := some 26, op := Op.buildSlice 27 1 #[(0, Operand.tmp 25)], type := 27, pos := _, after := #[{ on := 6, ground := Ground.data }], guard := none }) rfl (fun K hK => ?_) AllReadyH.nil))
          · rw [if_pos (by kernel_rfl)]
            go_simp
            refine hK.out _ _ trivial (fun _ => ?_)
            clear hK K
            try simp only [Act.put, List.setIfInBounds_toArray, List.set_cons_zero, List.set_cons_succ]
            refine wpAnyH_ready (rs := [7]) (by kernel_rfl) (by simp) ?_
            refine AllReadyH.cons (o := { dst := some 26, op := Op.buildSlice 27 1 #[(0, Operand.tmp 25)], type := 27, pos := _, after := #[{ on := 6, ground := Ground.data }], guard := none }) rfl (fun K hK => ?_) AllReadyH.nil
            rw [if_pos (by kernel_rfl)]
            go_simp
            refine hK.out _ _ trivial (fun _ => ?_)
            clear hK K
            try simp only [Act.put, List.setIfInBounds_toArray, List.set_cons_zero, List.set_cons_succ]
            refine wpAnyH_ready (rs := [8]) (by kernel_rfl) (by simp) ?_
            refine AllReadyH.cons (o := { dst := some 27, op := Op.call { callee := Callee.builtin Builtin.append, args := #[Operand.tmp 20, Operand.tmp 26], argTypes := #[27, 27] }, type := 27, pos := _, after := #[{ on := 1, ground := Ground.data }, { on := 7, ground := Ground.data }], guard := none }) rfl (fun K hK => ?_) AllReadyH.nil
            rw [if_pos (by kernel_rfl)]
            refine wp_append_lies _ (.tmp 20) (.tmp 26) 27 rfl (w.heap.size + 2) 45 ti _ 2 32 Try.underlying27 hi0 hz0 hz1 hz2 rfl (by decide) v l.length xs rfl hxs0 ⟨wr.heap.size + 1, 0, none⟩ 1 1 [.int .i64 id, .slice none 0 0] rfl rfl HN2.out (by intro u hu; simp at hu; rcases hu with rfl | rfl <;> rfl) (by omega) (by unfold maxLen; omega) (by omega) (by rw [hWs]; omega) (wr.heap.size + 2) hWs ?_
            intro p cp w2 hown hgr hor hlp
            refine hK.out _ _ trivial (fun _ => ?_)
            clear hK K
            try simp only [Act.put, List.setIfInBounds_toArray, List.set_cons_zero, List.set_cons_succ]
            refine wpAnyH_take (i := 9) (oi := { dst := some 28, op := Op.fieldAddr 29 (Operand.tmp 3) 0, type := 0, pos := _, after := #[{ on := 0, ground := Ground.phase }, { on := 1, ground := Ground.phase }, { on := 2, ground := Ground.phase }, { on := 3, ground := Ground.phase }, { on := 4, ground := Ground.phase }, { on := 5, ground := Ground.phase }, { on := 6, ground := Ground.phase }, { on := 7, ground := Ground.phase }, { on := 8, ground := Ground.phase }], guard := none }) (v := ?_) rfl (by kernel_rfl) (by kernel_rfl) (by kernel_rfl) (fun _ _ _ h => h) (Or.inl ⟨by kernel_rfl, ?_⟩) (by assumption) ?_
            rotate_left
            · intro w hSw; skip; go_simp; first | done | (with_reducible rfl) | (rw [if_neg (by omega)])
            try simp only [Act.put, List.setIfInBounds_toArray, List.set_cons_zero, List.set_cons_succ]
            refine wpAnyH_ready (rs := [10]) (by kernel_rfl) (by simp) ?_
            refine AllReadyH.cons (o := { dst := none, op := Op.store 27 (Operand.tmp 28) (Operand.tmp 27), type := 0, pos := _, after := #[{ on := 9, ground := Ground.data }, { on := 8, ground := Ground.data }, { on := 8, ground := Ground.chain }, { on := 0, ground := Ground.phase }, { on := 1, ground := Ground.phase }, { on := 2, ground := Ground.phase }, { on := 3, ground := Ground.phase }, { on := 4, ground := Ground.phase }, { on := 5, ground := Ground.phase }, { on := 6, ground := Ground.phase }, { on := 7, ground := Ground.phase }, { on := 8, ground := Ground.phase }], guard := none }) rfl (fun K hK => ?_) AllReadyH.nil
            rw [if_pos (by kernel_rfl)]
            have hP := hrel.pushed hgl hB2.drew hxs0 HXS.out hown hgr (by rw [hWs]; exact hor) hlp
            have fO := hrel.frozen hB2.drew hxs0 hgr
            have fO1 := fO.free 0
            have fO2 := fO.cell 0 rfl
            go_simp
            refine hK.out _ _ trivial (fun _ => ?_)
            clear hK K
            try simp only [Act.put, List.setIfInBounds_toArray, List.set_cons_zero, List.set_cons_succ]
            refine wpAnyH_done (by kernel_rfl) ?_ _
            go_wp2
            go_roundw
            case rel => exact ⟨l.length + 1, _, l ++ [(id, .slice none 0 0, [])], by omega, by go_num, by simp, hP⟩
            case measure => simp [intOf]; omega
          · rw [if_pos (by kernel_rfl)]
            go_simp
            refine hK.out _ _ trivial (fun _ => ?_)
            clear hK K
            try simp only [Act.put, List.setIfInBounds_toArray, List.set_cons_zero, List.set_cons_succ]
            refine wpAnyH_ready (rs := [1]) (by kernel_rfl) (by simp) ?_
            refine AllReadyH.cons (o := { dst := some 20, op := Op.load 27 (Operand.tmp 19), type := 27, pos := _, after := #[{ on := 0, ground := Ground.data }], guard := none }) rfl (fun K hK => ?_) AllReadyH.nil
            rw [if_pos (by kernel_rfl)]
            go_simp
            refine hK.out _ _ trivial (fun _ => ?_)
            clear hK K
            try simp only [Act.put, List.setIfInBounds_toArray, List.set_cons_zero, List.set_cons_succ]
            refine wpAnyH_ready (rs := [8]) (by kernel_rfl) (by simp) ?_
            refine AllReadyH.cons (o := { dst := some 27, op := Op.call { callee := Callee.builtin Builtin.append, args := #[Operand.tmp 20, Operand.tmp 26], argTypes := #[27, 27] }, type := 27, pos := _, after := #[{ on := 1, ground := Ground.data }, { on := 7, ground := Ground.data }], guard := none }) rfl (fun K hK => ?_) AllReadyH.nil
            rw [if_pos (by kernel_rfl)]
            refine wp_append_lies _ (.tmp 20) (.tmp 26) 27 rfl (w.heap.size + 2) 45 ti _ 2 32 Try.underlying27 hi0 hz0 hz1 hz2 rfl (by decide) v l.length xs rfl hxs0 ⟨wr.heap.size + 1, 0, none⟩ 1 1 [.int .i64 id, .slice none 0 0] rfl rfl HN2.out (by intro u hu; simp at hu; rcases hu with rfl | rfl <;> rfl) (by omega) (by unfold maxLen; omega) (by omega) (by rw [hWs]; omega) (wr.heap.size + 2) hWs ?_
            intro p cp w2 hown hgr hor hlp
            refine hK.out _ _ trivial (fun _ => ?_)
            clear hK K
            try simp only [Act.put, List.setIfInBounds_toArray, List.set_cons_zero, List.set_cons_succ]
            refine wpAnyH_take (i := 9) (oi := { dst := some 28, op := Op.fieldAddr 29 (Operand.tmp 3) 0, type := 0, pos := _, after := #[{ on := 0, ground := Ground.phase }, { on := 1, ground := Ground.phase }, { on := 2, ground := Ground.phase }, { on := 3, ground := Ground.phase }, { on := 4, ground := Ground.phase }, { on := 5, ground := Ground.phase }, { on := 6, ground := Ground.phase }, { on := 7, ground := Ground.phase }, { on := 8, ground := Ground.phase }], guard := none }) (v := ?_) rfl (by kernel_rfl) (by kernel_rfl) (by kernel_rfl) (fun _ _ _ h => h) (Or.inl ⟨by kernel_rfl, ?_⟩) (by assumption) ?_
            rotate_left
            · intro w hSw; skip; go_simp; first | done | (with_reducible rfl) | (rw [if_neg (by omega)])
            try simp only [Act.put, List.setIfInBounds_toArray, List.set_cons_zero, List.set_cons_succ]
            refine wpAnyH_ready (rs := [10]) (by kernel_rfl) (by simp) ?_
            refine AllReadyH.cons (o := { dst := none, op := Op.store 27 (Operand.tmp 28) (Operand.tmp 27), type := 0, pos := _, after := #[{ on := 9, ground := Ground.data }, { on := 8, ground := Ground.data }, { on := 8, ground := Ground.chain }, { on := 0, ground := Ground.phase }, { on := 1, ground := Ground.phase }, { on := 2, ground := Ground.phase }, { on := 3, ground := Ground.phase }, { on := 4, ground := Ground.phase }, { on := 5, ground := Ground.phase }, { on := 6, ground := Ground.phase }, { on := 7, ground := Ground.phase }, { on := 8, ground := Ground.phase }], guard := none }) rfl (fun K hK => ?_) AllReadyH.nil
            rw [if_pos (by kernel_rfl)]
            have hP := hrel.pushed hgl hB2.drew hxs0 HXS.out hown hgr (by rw [hWs]; exact hor) hlp
            have fO := hrel.frozen hB2.drew hxs0 hgr
            have fO1 := fO.free 0
            have fO2 := fO.cell 0 rfl
            go_simp
            refine hK.out _ _ trivial (fun _ => ?_)
            clear hK K
            try simp only [Act.put, List.setIfInBounds_toArray, List.set_cons_zero, List.set_cons_succ]
            refine wpAnyH_done (by kernel_rfl) ?_ _
            go_wp2
            go_roundw
            case rel => exact ⟨l.length + 1, _, l ++ [(id, .slice none 0 0, [])], by omega, by go_num, by simp, hP⟩
            case measure => simp [intOf]; omega
    · have hln : l.length = n0 + 1 := by omega
      have hlt0 : ¬ (l.length : Int) < 1 + (n0 : Int) := by omega
      have hR0 := Lib.hid hrel
      have HLN := Lib.hid hln
      clear hln hrel
      go_wp2_with fail
      go_loopw [6] (fun i wr => ∃ (I : Nat) (v : Value) (l : List (Int × Value × List Fld)), I ≤ n0 + 1 ∧ i = .int .i64 I ∧ Hid (l.length = n0 + 1) ∧ RInv w B g a len cap z (I * 6) v l wr) (fun i _ => n0 + 1 - (intOf i).toNat)
      case atStart => exact ⟨0, _, _, Nat.zero_le _, rfl, HLN, hR0.out⟩
      case round =>
        obtain ⟨I, v, l, hI, rfl, HLN, hrel⟩ := hrel
        by_cases hlt : I < n0 + 1
        · have hlt0 : (I : Int) < 1 + (n0 : Int) := by omega
          have hlt1 : (0 : Int) ≤ (I : Int) := by omega
          go_wp2_with fail
          refine (d_Below _ hrel.2.2.2.2.1 6 (by omega) (by omega)).mono ?_
          rintro e w1 ⟨x, hx0, hx1, rfl, hc1, hg1⟩
          rw [hiB_pos (by omega)] at hx1
          obtain ⟨m0, rfl⟩ := Int.eq_ofNat_of_zero_le hx0
          have hm0 : m0 ≤ 5 := by omega
          have hrel1 := hrel.drawn hgl hc1 hg1
          clear hx0 hx1 hc1 hg1 hrel
          go_wp2_with fail
          go_loopw [8] (fun k wr => ∃ (KK : Nat) (v : Value) (l : List (Int × Value × List Fld)), KK ≤ m0 ∧ k = .int .i64 KK ∧ Hid (l.length = n0 + 1) ∧ RInv w B g a len cap z (I * 6 + KK) v l wr) (fun k _ => m0 - (intOf k).toNat)
          case atStart => exact ⟨0, _, _, Nat.zero_le _, rfl, HLN, hrel1⟩
          case round =>
            obtain ⟨KK, v, l, hK0, rfl, HLN, hrel⟩ := hrel
            obtain ⟨b, cb, rfl, hBb⟩ : ∃ b cb, v = .slice (some ⟨b, 0, none⟩) l.length cb ∧ w.heap.size + 2 ≤ b := by
              obtain ⟨U, hU⟩ := hrel.2.2.1
              obtain ⟨b, cb, e, h1, _⟩ := hU.form (by rw [HLN.out]; omega)
              exact ⟨b, cb, e, h1⟩
            by_cases hlt : KK < m0
            · have hltk : (KK : Int) < (m0 : Int) := by omega
              have hltk1 : (0 : Int) ≤ (KK : Int) := by omega
              go_wp2_with fail
              refine (d_Below _ hrel.2.2.2.2.1 12 (by omega) (by omega)).mono ?_
              rintro e w2 ⟨fn, hn0, hn1, rfl, hc2, hg2⟩
              rw [hiB_pos (by omega)] at hn1
              have hrel2 := hrel.drawn hgl hc2 hg2
              go_wp2_with fail
              refine (d_Below _ hc2 8 (by omega) (by omega)).mono ?_
              rintro e w3 ⟨fk, hk0, hk1, rfl, hc3, hg3⟩
              rw [hiB_pos (by omega)] at hk1
              have hrel3 := hrel2.drawn hgl hc3 hg3
              go_wp2_with fail
              refine (d_Once _ hc3 2 (by omega) (by omega)).mono ?_
              rintro e w4 ⟨fr, rfl, hc4, hg4⟩
              have hrel4 := hrel3.drawn hgl hc4 hg4
              have hF := FInv.start hrel4 ⟨1 + fn, 1 + fk, fr, false, 0⟩
              clear hc2 hg2 hc3 hg3 hc4 hg4 hrel2 hrel3 hrel
              go_upto_if 51 with (fail)
              refine (d_Once _ hF.2.2.2.2.1 12 (by omega) (by omega)).mono ?_
              rintro e w5 ⟨b1, rfl, hc5, hg5⟩
              have hF5 := hF.drawn hgl hc5 hg5
              clear hF hrel4 hc5 hg5
              go_upto_if 51 with (fail)
              go_cut [] (fun wx => ∃ fn' : Int, FInv w B g a len cap z (I * 6 + KK) (.slice (some ⟨b, 0, none⟩) l.length cb) l w4.heap.size ⟨fn', 1 + fk, fr, false, 0⟩ wx)
              case first =>
                cases b1 with
                | false =>
                  go_wp2
                  go_meet
                  case rel => exact ⟨_, hF5⟩
                | true =>
                  go_wp2_with fail
                  refine (d_PickInt _ (hF5.2.2.2.2.1.alloc _) w5.heap.size 6 (by have := hF5.2.2.2.2.1.lt; omega) (by simp) (by omega) (by omega) 0 536870911 (fun j hj => by
                    obtain ⟨v, ⟨x, h1, h2, rfl⟩, h3⟩ := pick_cells (P := fun v => ∃ x : Int, 0 ≤ x ∧ x ≤ 536870911 ∧ v = .int .i64 x) (w := w5) (t := 3) (cs := #[.int .i64 16, .int .i64 2047, .int .i64 2048, .int .i64 18999, .int .i64 20000, .int .i64 536870911]) (n := 6) (fun j hj => by
                      rcases (show j = 0 ∨ j = 1 ∨ j = 2 ∨ j = 3 ∨ j = 4 ∨ j = 5 by omega) with rfl | rfl | rfl | rfl | rfl | rfl
                      all_goals exact ⟨_, ⟨_, by omega, by omega, rfl⟩, rfl⟩) j hj
                    exact ⟨x, h1, h2, h3⟩)).mono ?_
                  rintro e w6 ⟨x6, hx60, hx61, rfl, hc6, hg6⟩
                  have hF6 := (hF5.below ((Below.refl _ _).alloc (Nat.le_refl _) _)).drawn hgl hc6 hg6
                  have bF := hF6.2.2.2.2.2.2.1
                  have d0 : w6.cell? ⟨w4.heap.size, 0, none⟩ = some (.int .i64 (1 + fn)) := bF.cell 0 rfl
                  have f0 := bF.free 0
                  go_wp2
                  go_meet
                  case rel => exact ⟨_, hF6.set_ hgl 0 _ ⟨x6, 1 + fk, fr, false, 0⟩ rfl⟩
              case rest =>
                obtain ⟨fn', hF6⟩ := hcut
                have bF := hF6.2.2.2.2.2.2.1
                have d1 : wc.cell? ⟨w4.heap.size, 1, none⟩ = some (.int .i64 (1 + fk)) := bF.cell 1 rfl
                have d2 : wc.cell? ⟨w4.heap.size, 2, none⟩ = some (.bool fr) := bF.cell 2 rfl
                have d3 : wc.cell? ⟨w4.heap.size, 3, none⟩ = some (.bool false) := bF.cell 3 rfl
                have f3 := bF.free 3
                go_upto_region 17 with (fail)
                go_cut [] (fun wx => ∃ fp : Bool, FInv w B g a len cap z (I * 6 + KK) (.slice (some ⟨b, 0, none⟩) l.length cb) l w4.heap.size ⟨fn', 1 + fk, fr, fp, 0⟩ wx)
                case first =>
                  cases fr with
                  | false =>
                    go_wp2
                    go_meet
                    case rel => exact ⟨_, hF6.set_ hgl 3 _ ⟨fn', 1 + fk, false, false, 0⟩ rfl⟩
                  | true =>
                    rcases hnum : inB (1 + fk) 1 5 with _ | _
                    · go_wp2_with (go_at_call 39; refine (cP_Numeric _ _).mono ?_; rintro e w' ⟨rfl, rfl⟩; rw [hnum])
                      go_meet
                      case rel => exact ⟨_, hF6.set_ hgl 3 _ ⟨fn', 1 + fk, true, false, 0⟩ rfl⟩
                    · go_wp2_with (go_at_call 39; refine (cP_Numeric _ _).mono ?_; rintro e w' ⟨rfl, rfl⟩; rw [hnum])
                      refine (d_Once _ hF6.2.2.2.2.1 2 (by omega) (by omega)).mono ?_
                      rintro e w7 ⟨b2, rfl, hc7, hg7⟩
                      have hF7 := hF6.drawn hgl hc7 hg7
                      have bG := hF7.2.2.2.2.2.2.1
                      have e3 : w7.cell? ⟨w4.heap.size, 3, none⟩ = some (.bool false) := bG.cell 3 rfl
                      have g3 := bG.free 3
                      go_wp2
                      go_meet
                      case rel => exact ⟨_, hF7.set_ hgl 3 _ ⟨fn', 1 + fk, true, b2, 0⟩ rfl⟩
                case rest =>
                  obtain ⟨fp, hF7⟩ := hcut
                  have bF := hF7.2.2.2.2.2.2.1
                  have d1 : wc.cell? ⟨w4.heap.size, 1, none⟩ = some (.int .i64 (1 + fk)) := bF.cell 1 rfl
                  go_upto_if 70 with (fail)
                  go_cut [] (fun wx => ∃ ff : Int, FInv w B g a len cap z (I * 6 + KK) (.slice (some ⟨b, 0, none⟩) l.length cb) l w4.heap.size ⟨fn', 1 + fk, fr, fp, ff⟩ wx)
                  case first =>
                    by_cases h8 : (1 + fk : Int) = 8
                    · have h81 : ((1 + fk : Int) == 8) = true := by simpa using h8
                      have qO : wc.cell? ⟨w.heap.size + 1, 0, none⟩ = some (.slice (some ⟨b, 0, none⟩) l.length cb) := hF7.2.1.cell 0 rfl
                      have hlp : 0 < l.length := by rw [HLN.out]; omega
                      have hlen : (1 + (n0 : Int)) = (l.length : Int) := by rw [HLN.out]; omega
                      have hnn := d_Below wc.drew hF7.2.2.2.2.1.drew (1 + (n0 : Int)) (by omega) (by omega)
                      rw [hiB_pos (by omega)] at hnn
                      have HLEN := Lib.hid hlen
                      clear hlen h8
                      go_wp2_with fail
                      refine wp_region_held_drew (S := fun w' => w'.cell? ⟨w.heap.size + 1, 0, none⟩ = some (.slice (some ⟨b, 0, none⟩) l.length cb) ∧ ∀ (j : Nat) (x : (Int × Value × List Fld)), l[j]? = some x → w'.cell? ⟨b, j * 2, none⟩ = some (.int .i64 x.1)) (by kernel_rfl) (⟨qO, hF7.ids⟩) (fun hHeld => ?_)
                      refine wpAnyH_take (i := 0) (oi := { dst := some 71, op := Op.fieldAddr 29 (Operand.tmp 3) 0, type := 0, pos := _, after := #[], guard := none }) (v := ?_) rfl (by kernel_rfl) (by kernel_rfl) (by kernel_rfl) (fun _ _ _ h => h) (Or.inl ⟨by kernel_rfl, ?_⟩) (by assumption) ?_
                      rotate_left
                      · intro w hSw; obtain ⟨z0, z1⟩ := hSw; (first | (have z2 := z1 _ _ hxq) | skip); clear z1; go_simp; first | done | (with_reducible rfl) | (rw [if_neg (by omega)])
                      try simp only [Act.put, List.setIfInBounds_toArray, List.set_cons_zero, List.set_cons_succ]
                      refine wpAnyH_take (i := 1) (oi := { dst := some 72, op := Op.load 27 (Operand.tmp 71), type := 27, pos := _, after := #[{ on := 0, ground := Ground.data }], guard := none }) (v := ?_) rfl (by kernel_rfl) (by kernel_rfl) (by kernel_rfl) (fun _ _ _ h => h) (Or.inl ⟨by kernel_rfl, ?_⟩) (by assumption) ?_
                      rotate_left
                      · intro w hSw; obtain ⟨z0, z1⟩ := hSw; (first | (have z2 := z1 _ _ hxq) | skip); clear z1; go_simp; first | done | (with_reducible rfl) | (rw [if_neg (by omega)])
                      try simp only [Act.put, List.setIfInBounds_toArray, List.set_cons_zero, List.set_cons_succ]
                      refine wpAnyH_take (i := 2) (oi := { dst := some 73, op := Op.move (Operand.tmp 0), type := 66, pos := _, after := #[], guard := none }) (v := ?_) rfl (by kernel_rfl) (by kernel_rfl) (by kernel_rfl) (fun _ _ _ h => h) (Or.inl ⟨by kernel_rfl, ?_⟩) (by assumption) ?_
                      rotate_left
                      · intro w hSw; obtain ⟨z0, z1⟩ := hSw; (first | (have z2 := z1 _ _ hxq) | skip); clear z1; go_simp; first | done | (with_reducible rfl) | (rw [if_neg (by omega)])
                      try simp only [Act.put, List.setIfInBounds_toArray, List.set_cons_zero, List.set_cons_succ]
                      refine wpAnyH_take (i := 3) (oi := { dst := some 74, op := Op.move (Operand.tmp 4), type := 3, pos := _, after := #[], guard := none }) (v := ?_) rfl (by kernel_rfl) (by kernel_rfl) (by kernel_rfl) (fun _ _ _ h => h) (Or.inl ⟨by kernel_rfl, ?_⟩) (by assumption) ?_
                      rotate_left
                      · intro w hSw; obtain ⟨z0, z1⟩ := hSw; (first | (have z2 := z1 _ _ hxq) | skip); clear z1; go_simp; first | done | (with_reducible rfl) | (rw [if_neg (by omega)])
                      try simp only [Act.put, List.setIfInBounds_toArray, List.set_cons_zero, List.set_cons_succ]
                      refine wpAnyH_ready (rs := [4]) (by kernel_rfl) (by simp) ?_
                      refine AllReadyH.cons (o := { dst := some 75, op := Op.call { callee := Callee.value (Operand.func 55), args := #[Operand.tmp 73, Operand.tmp 74], argTypes := #[66, 3] }, type := 3, pos := _, after := #[{ on := 2, ground := Ground.data }, { on := 3, ground := Ground.data }], guard := none }) rfl (fun K hK => ?_) AllReadyH.nil
                      rw [if_pos (by kernel_rfl)]
                      go_simp
                      refine hnn.mono ?_
                      rintro e w8 ⟨q, hq0, hq1, rfl, hc8, hg8⟩
                      obtain ⟨Q, rfl⟩ := Int.eq_ofNat_of_zero_le hq0
                      have hF8 := (hF7.below (Below.refl _ _).drew).drawn hgl hc8 hg8
                      have hQ1 : (Q : Int) < (l.length : Int) := by have := HLEN.out; omega
                      obtain ⟨ent, hxq⟩ : ∃ x, l[Q]? = some x := ⟨_, List.getElem?_eq_getElem (by omega)⟩
                      refine hK.out _ _ ⟨hF8.2.1.cell 0 rfl, hF8.ids⟩ (fun hHeld2 => ?_)
                      clear hK K
                      try simp only [Act.put, List.setIfInBounds_toArray, List.set_cons_zero, List.set_cons_succ]
                      refine wpAnyH_take (i := 5) (oi := { dst := some 76, op := Op.indexAddr 27 (Operand.tmp 72) (Operand.tmp 75), type := 0, pos := _, after := #[{ on := 1, ground := Ground.data }, { on := 4, ground := Ground.data }], guard := none }) (v := ?_) rfl (by kernel_rfl) (by kernel_rfl) (by kernel_rfl) (fun _ _ _ h => h) (Or.inl ⟨by kernel_rfl, ?_⟩) (by assumption) ?_
                      rotate_left
                      · intro w hSw; obtain ⟨z0, z1⟩ := hSw; (first | (have z2 := z1 _ _ hxq) | skip); clear z1; go_simp; first | done | (with_reducible rfl) | (rw [if_neg (by omega)])
                      try simp only [Act.put, List.setIfInBounds_toArray, List.set_cons_zero, List.set_cons_succ]
                      refine wpAnyH_take (i := 6) (oi := { dst := some 77, op := Op.fieldAddr 45 (Operand.tmp 76) 0, type := 0, pos := _, after := #[{ on := 5, ground := Ground.data }], guard := none }) (v := ?_) rfl (by kernel_rfl) (by kernel_rfl) (by kernel_rfl) (fun _ _ _ h => h) (Or.inl ⟨by kernel_rfl, ?_⟩) (by assumption) ?_
                      rotate_left
                      · intro w hSw; obtain ⟨z0, z1⟩ := hSw; (first | (have z2 := z1 _ _ hxq) | skip); clear z1; go_simp; first | done | (with_reducible rfl) | (rw [if_neg (by omega)])
                      try simp only [Act.put, List.setIfInBounds_toArray, List.set_cons_zero, List.set_cons_succ]
                      refine wpAnyH_take (i := 7) (oi := { dst := some 78, op := Op.load 3 (Operand.tmp 77), type := 3, pos := _, after := #[{ on := 6, ground := Ground.data }], guard := none }) (v := ?_) rfl (by kernel_rfl) (by kernel_rfl) (by kernel_rfl) (fun _ _ _ h => h) (Or.inl ⟨by kernel_rfl, ?_⟩) (by assumption) ?_
                      rotate_left
                      · intro w hSw; obtain ⟨z0, z1⟩ := hSw; (first | (have z2 := z1 _ _ hxq) | skip); clear z1; go_simp; first | done | (with_reducible rfl) | (rw [if_neg (by omega)])
                      try simp only [Act.put, List.setIfInBounds_toArray, List.set_cons_zero, List.set_cons_succ]
                      refine wpAnyH_take (i := 8) (oi := { dst := some 79, op := Op.fieldAddr 50 (Operand.tmp 9) 4, type := 0, pos := _, after := #[{ on := 0, ground := Ground.phase }, { on := 1, ground := Ground.phase }, { on := 2, ground := Ground.phase }, { on := 3, ground := Ground.phase }, { on := 4, ground := Ground.phase }, { on := 5, ground := Ground.phase }, { on := 6, ground := Ground.phase }, { on := 7, ground := Ground.phase }], guard := none }) (v := ?_) rfl (by kernel_rfl) (by kernel_rfl) (by kernel_rfl) (fun _ _ _ h => h) (Or.inl ⟨by kernel_rfl, ?_⟩) (by assumption) ?_
                      rotate_left
                      · intro w hSw; obtain ⟨z0, z1⟩ := hSw; (first | (have z2 := z1 _ _ hxq) | skip); clear z1; go_simp; first | done | (with_reducible rfl) | (rw [if_neg (by omega)])
                      try simp only [Act.put, List.setIfInBounds_toArray, List.set_cons_zero, List.set_cons_succ]
                      refine wpAnyH_ready (rs := [9]) (by kernel_rfl) (by simp) ?_
                      refine AllReadyH.cons (o := { dst := none, op := Op.store 3 (Operand.tmp 79) (Operand.tmp 78), type := 0, pos := _, after := #[{ on := 8, ground := Ground.data }, { on := 7, ground := Ground.data }, { on := 4, ground := Ground.chain }, { on := 0, ground := Ground.phase }, { on := 1, ground := Ground.phase }, { on := 2, ground := Ground.phase }, { on := 3, ground := Ground.phase }, { on := 4, ground := Ground.phase }, { on := 5, ground := Ground.phase }, { on := 6, ground := Ground.phase }, { on := 7, ground := Ground.phase }], guard := none }) rfl (fun K hK => ?_) AllReadyH.nil
                      rw [if_pos (by kernel_rfl)]
                      have bG := hF8.2.2.2.2.2.2.1
                      have d4 : w8.cell? ⟨w4.heap.size, 4, none⟩ = some (.int .i64 0) := bG.cell 4 rfl
                      have f4 := bG.free 4
                      have hF9 := hF8.set_ hgl 4 (.int .i64 ent.1) ⟨fn', 1 + fk, fr, fp, ent.1⟩ rfl
                      go_simp
                      refine hK.out _ _ ⟨hF9.2.1.cell 0 rfl, hF9.ids⟩ (fun hHeld2 => ?_)
                      clear hK K
                      try simp only [Act.put, List.setIfInBounds_toArray, List.set_cons_zero, List.set_cons_succ]
                      refine wpAnyH_done (by kernel_rfl) ?_ _
                      go_wp2
                      go_meet
                      case rel => exact ⟨_, hF9⟩
                    · have h81 : ((1 + fk : Int) == 8) = false := by simpa using h8
                      clear h8
                      go_wp2
                      go_meet
                      case rel => exact ⟨0, hF7⟩
                  case rest =>
                    obtain ⟨ff, hF8⟩ := hcut
                    have qO : wc.cell? ⟨w.heap.size + 1, 0, none⟩ = some (.slice (some ⟨b, 0, none⟩) l.length cb) := hF8.2.1.cell 0 rfl
                    have bF := hF8.2.2.2.2.2.2.1
                    have d0 : wc.cell? ⟨w4.heap.size, 0, none⟩ = some (.int .i64 fn') := bF.cell 0 rfl
                    have hIl : (I : Int) < (l.length : Int) := by have := HLN.out; omega
                    obtain ⟨ent, hxI⟩ : ∃ x, l[I]? = some x := ⟨_, List.getElem?_eq_getElem (by omega)⟩
                    obtain ⟨hfv, hfr⟩ := hF8.fvs hxI
                    obtain ⟨id, fv, fs⟩ := ent
                    simp only at hfv hfr
                    have hfr' := hfr
                    obtain ⟨fa, fc, rfl, hfc⟩ := hfr.shape
                    have hfl : fs.length ≤ I * 6 + KK := hF8.2.2.2.1 I _ hxI
                    have hnum := fun w h => cP_l6HasNumber fa fs.length fc fs fn' w rfl (by omega) h
                    have HXI := Lib.hid hxI
                    clear hxI
                    go_wp2_with fail
                    refine wp_region_held_drew (S := fun w' => w'.cell? ⟨w.heap.size + 1, 0, none⟩ = some (.slice (some ⟨b, 0, none⟩) l.length cb) ∧ w'.cell? ⟨b, I * 2 + 1, none⟩ = some (.slice fa fs.length fc) ∧ w'.cell? ⟨w4.heap.size, 0, none⟩ = some (.int .i64 fn')) (by kernel_rfl) (⟨qO, hfv, d0⟩) (fun hHeld => ?_)
                    refine wpAnyH_take (i := 0) (oi := { dst := some 80, op := Op.fieldAddr 29 (Operand.tmp 3) 0, type := 0, pos := _, after := #[], guard := none }) (v := ?_) rfl (by kernel_rfl) (by kernel_rfl) (by kernel_rfl) (fun _ _ _ h => h) (Or.inl ⟨by kernel_rfl, ?_⟩) (by assumption) ?_
                    rotate_left
                    · intro w hSw; obtain ⟨z0, z1, z2⟩ := hSw; go_simp; first | done | (with_reducible rfl) | (rw [if_neg (by omega)])
                    try simp only [Act.put, List.setIfInBounds_toArray, List.set_cons_zero, List.set_cons_succ]
                    refine wpAnyH_take (i := 1) (oi := { dst := some 81, op := Op.load 27 (Operand.tmp 80), type := 27, pos := _, after := #[{ on := 0, ground := Ground.data }], guard := none }) (v := ?_) rfl (by kernel_rfl) (by kernel_rfl) (by kernel_rfl) (fun _ _ _ h => h) (Or.inl ⟨by kernel_rfl, ?_⟩) (by assumption) ?_
                    rotate_left
                    · intro w hSw; obtain ⟨z0, z1, z2⟩ := hSw; go_simp; first | done | (with_reducible rfl) | (rw [if_neg (by omega)])
                    try simp only [Act.put, List.setIfInBounds_toArray, List.set_cons_zero, List.set_cons_succ]
                    refine wpAnyH_take (i := 2) (oi := { dst := some 82, op := Op.move (Operand.tmp 6), type := 3, pos := _, after := #[], guard := none }) (v := ?_) rfl (by kernel_rfl) (by kernel_rfl) (by kernel_rfl) (fun _ _ _ h => h) (Or.inl ⟨by kernel_rfl, ?_⟩) (by assumption) ?_
                    rotate_left
                    · intro w hSw; obtain ⟨z0, z1, z2⟩ := hSw; go_simp; first | done | (with_reducible rfl) | (rw [if_neg (by omega)])
                    try simp only [Act.put, List.setIfInBounds_toArray, List.set_cons_zero, List.set_cons_succ]
                    refine wpAnyH_take (i := 3) (oi := { dst := some 83, op := Op.indexAddr 27 (Operand.tmp 81) (Operand.tmp 82), type := 0, pos := _, after := #[{ on := 1, ground := Ground.data }, { on := 2, ground := Ground.data }], guard := none }) (v := ?_) rfl (by kernel_rfl) (by kernel_rfl) (by kernel_rfl) (fun _ _ _ h => h) (Or.inl ⟨by kernel_rfl, ?_⟩) (by assumption) ?_
                    rotate_left
                    · intro w hSw; obtain ⟨z0, z1, z2⟩ := hSw; go_simp; first | done | (with_reducible rfl) | (rw [if_neg (by omega)])
                    try simp only [Act.put, List.setIfInBounds_toArray, List.set_cons_zero, List.set_cons_succ]
                    refine wpAnyH_take (i := 4) (oi := { dst := some 84, op := Op.fieldAddr 45 (Operand.tmp 83) 1, type := 0, pos := _, after := #[{ on := 3, ground := Ground.data }], guard := none }) (v := ?_) rfl (by kernel_rfl) (by kernel_rfl) (by kernel_rfl) (fun _ _ _ h => h) (Or.inl ⟨by kernel_rfl, ?_⟩) (by assumption) ?_
                    rotate_left
                    · intro w hSw; obtain ⟨z0, z1, z2⟩ := hSw; go_simp; first | done | (with_reducible rfl) | (rw [if_neg (by omega)])
                    try simp only [Act.put, List.setIfInBounds_toArray, List.set_cons_zero, List.set_cons_succ]
                    refine wpAnyH_take (i := 5) (oi := { dst := some 85, op := Op.load 43 (Operand.tmp 84), type := 43, pos := _, after := #[{ on := 4, ground := Ground.data }], guard := none }) (v := ?_) rfl (by kernel_rfl) (by kernel_rfl) (by kernel_rfl) (fun _ _ _ h => h) (Or.inl ⟨by kernel_rfl, ?_⟩) (by assumption) ?_
                    rotate_left
                    · intro w hSw; obtain ⟨z0, z1, z2⟩ := hSw; go_simp; first | done | (with_reducible rfl) | (rw [if_neg (by omega)])
                    try simp only [Act.put, List.setIfInBounds_toArray, List.set_cons_zero, List.set_cons_succ]
                    refine wpAnyH_take (i := 6) (oi := { dst := some 86, op := Op.fieldAddr 50 (Operand.tmp 9) 0, type := 0, pos := _, after := #[], guard := none }) (v := ?_) rfl (by kernel_rfl) (by kernel_rfl) (by kernel_rfl) (fun _ _ _ h => h) (Or.inl ⟨by kernel_rfl, ?_⟩) (by assumption) ?_
                    rotate_left
                    · intro w hSw; obtain ⟨z0, z1, z2⟩ := hSw; go_simp; first | done | (with_reducible rfl) | (rw [if_neg (by omega)])
                    try simp only [Act.put, List.setIfInBounds_toArray, List.set_cons_zero, List.set_cons_succ]
                    refine wpAnyH_take (i := 7) (oi := { dst := some 87, op := Op.load 3 (Operand.tmp 86), type := 3, pos := _, after := #[{ on := 6, ground := Ground.data }], guard := none }) (v := ?_) rfl (by kernel_rfl) (by kernel_rfl) (by kernel_rfl) (fun _ _ _ h => h) (Or.inl ⟨by kernel_rfl, ?_⟩) (by assumption) ?_
                    rotate_left
                    · intro w hSw; obtain ⟨z0, z1, z2⟩ := hSw; go_simp; first | done | (with_reducible rfl) | (rw [if_neg (by omega)])
                    try simp only [Act.put, List.setIfInBounds_toArray, List.set_cons_zero, List.set_cons_succ]
                    refine wpAnyH_ready (rs := [8]) (by kernel_rfl) (by simp) ?_
                    refine AllReadyH.cons (o := { dst := some 88, op := Op.call { callee := Callee.value (Operand.func 37), args := #[Operand.tmp 85, Operand.tmp 87], argTypes := #[43, 3] }, type := 4, pos := _, after := #[{ on := 5, ground := Ground.data }, { on := 7, ground := Ground.data }], guard := none }) rfl (fun K hK => ?_) AllReadyH.nil
                    rw [if_pos (by kernel_rfl)]
                    go_simp
                    refine (hnum wc.drew ((hF8.fat HXI.out).keep (fun _ _ _ => rfl) (Nat.le_refl _))).mono ?_
                    rintro e w' ⟨rfl, rfl⟩
                    refine hK.out _ _ ⟨qO, hfv, d0⟩ (fun hHeld2 => ?_)
                    clear hK K
                    try simp only [Act.put, List.setIfInBounds_toArray, List.set_cons_zero, List.set_cons_succ]
                    refine wpAnyH_take (i := 9) (oi := { dst := some 89, op := Op.unOp UnOp.not 4 (Operand.tmp 88), type := 4, pos := _, after := #[{ on := 8, ground := Ground.data }], guard := none }) (v := ?_) rfl (by kernel_rfl) (by kernel_rfl) (by kernel_rfl) (fun _ _ _ h => h) (Or.inl ⟨by kernel_rfl, ?_⟩) (by assumption) ?_
                    rotate_left
                    · intro w hSw; obtain ⟨z0, z1, z2⟩ := hSw; go_simp; first | done | (with_reducible rfl) | (rw [if_neg (by omega)])
                    try simp only [Act.put, List.setIfInBounds_toArray, List.set_cons_zero, List.set_cons_succ]
                    refine wpAnyH_done (by kernel_rfl) ?_ _
                    have hF9 := hF8.below (Below.refl _ _).drew
                    generalize hasNum fs fn' = bb
                    cases bb with
                    | true =>
                      go_wp2
                      go_roundw
                      case rel => exact ⟨KK + 1, _, l, by omega, by go_num, HLN, hF9.toR.mono (by omega)⟩
                      case measure => simp [intOf]; omega
                    | false =>
                      have hB1 : Below wc.heap.size wc (wc.alloc (.cells #[.int .i64 fn', .int .i64 (1 + fk), .bool fr, .bool fp, .int .i64 ff] 50)).drew.drew := ((Below.refl _ _).alloc (Nat.le_refl _) _).drew.drew
                      have hWs : ((wc.alloc (.cells #[.int .i64 fn', .int .i64 (1 + fk), .bool fr, .bool fp, .int .i64 ff] 50)).drew.drew).heap.size = wc.heap.size + 1 := by simp
                      have hFa := hF8.below hB1
                      have hsz := hF8.toR.size
                      obtain ⟨ys, hys0, hys⟩ := hfr'
                      have hysW := own_keep (w' := (wc.alloc (.cells #[.int .i64 fn', .int .i64 (1 + fk), .bool fr, .bool fp, .int .i64 ff] 50)).drew.drew) hys0 (fun k hk => hB1.block k (hys0.lt k hk).2)
                      have q5 := hF9.five
                      have qa5 := hFa.five
                      obtain ⟨qm0, _⟩ := hF8.fvs HXI.out
                      obtain ⟨qam0, _⟩ := hFa.fvs HXI.out
                      have qm : wc.cell? ⟨b, I * 2 + 1, none⟩ = some (.slice fa fs.length fc) := qm0
                      have qam : (wc.alloc (.cells #[.int .i64 fn', .int .i64 (1 + fk), .bool fr, .bool fp, .int .i64 ff] 50)).cell? ⟨b, I * 2 + 1, none⟩ = some (.slice fa fs.length fc) := qam0
                      have HN2 := Lib.hid (World.news_of_block (w := (wc.alloc (.cells #[.int .i64 fn', .int .i64 (1 + fk), .bool fr, .bool fp, .int .i64 ff] 50)).drew.drew) (heap_alloc_new wc (.cells #[.int .i64 fn', .int .i64 (1 + fk), .bool fr, .bool fp, .int .i64 ff] 50)))
                      have HYS := Lib.hid hys
                      clear hys
                      go_wp2_with fail
                      refine wp_region_held_drew (S := fun w' => w'.cell? ⟨w.heap.size + 1, 0, none⟩ = some (.slice (some ⟨b, 0, none⟩) l.length cb) ∧ w'.cell? ⟨w4.heap.size, 0, none⟩ = some (.int .i64 fn') ∧ w'.cell? ⟨w4.heap.size, 1, none⟩ = some (.int .i64 (1 + fk)) ∧ w'.cell? ⟨w4.heap.size, 2, none⟩ = some (.bool fr) ∧ w'.cell? ⟨w4.heap.size, 3, none⟩ = some (.bool fp) ∧ w'.cell? ⟨w4.heap.size, 4, none⟩ = some (.int .i64 ff)) (by kernel_rfl) (q5) (fun hHeld => ?_)
                      refine wpAnyH_take (i := 0) (oi := { dst := some 90, op := Op.fieldAddr 29 (Operand.tmp 3) 0, type := 0, pos := _, after := #[], guard := none }) (v := ?_) rfl (by kernel_rfl) (by kernel_rfl) (by kernel_rfl) (fun _ _ _ h => h) (Or.inl ⟨by kernel_rfl, ?_⟩) (by assumption) ?_
                      rotate_left
                      · intro w hSw; obtain ⟨z0, z1, z2, z3, z4, z5⟩ := hSw; go_simp; first | done | (with_reducible rfl) | (rw [if_neg (by omega)])
                      try simp only [Act.put, List.setIfInBounds_toArray, List.set_cons_zero, List.set_cons_succ]
                      refine wpAnyH_take (i := 1) (oi := { dst := some 91, op := Op.load 27 (Operand.tmp 90), type := 27, pos := _, after := #[{ on := 0, ground := Ground.data }], guard := none }) (v := ?_) rfl (by kernel_rfl) (by kernel_rfl) (by kernel_rfl) (fun _ _ _ h => h) (Or.inl ⟨by kernel_rfl, ?_⟩) (by assumption) ?_
                      rotate_left
                      · intro w hSw; obtain ⟨z0, z1, z2, z3, z4, z5⟩ := hSw; go_simp; first | done | (with_reducible rfl) | (rw [if_neg (by omega)])
                      try simp only [Act.put, List.setIfInBounds_toArray, List.set_cons_zero, List.set_cons_succ]
                      refine wpAnyH_take (i := 2) (oi := { dst := some 92, op := Op.move (Operand.tmp 6), type := 3, pos := _, after := #[], guard := none }) (v := ?_) rfl (by kernel_rfl) (by kernel_rfl) (by kernel_rfl) (fun _ _ _ h => h) (Or.inl ⟨by kernel_rfl, ?_⟩) (by assumption) ?_
                      rotate_left
                      · intro w hSw; obtain ⟨z0, z1, z2, z3, z4, z5⟩ := hSw; go_simp; first | done | (with_reducible rfl) | (rw [if_neg (by omega)])
                      try simp only [Act.put, List.setIfInBounds_toArray, List.set_cons_zero, List.set_cons_succ]
                      refine wpAnyH_take (i := 3) (oi := { dst := some 93, op := Op.fieldAddr 29 (Operand.tmp 3) 0, type := 0, pos := _, after := #[], guard := none }) (v := ?_) rfl (by kernel_rfl) (by kernel_rfl) (by kernel_rfl) (fun _ _ _ h => h) (Or.inl ⟨by kernel_rfl, ?_⟩) (by assumption) ?_
                      rotate_left
                      · intro w hSw; obtain ⟨z0, z1, z2, z3, z4, z5⟩ := hSw; go_simp; first | done | (with_reducible rfl) | (rw [if_neg (by omega)])
                      try simp only [Act.put, List.setIfInBounds_toArray, List.set_cons_zero, List.set_cons_succ]
                      refine wpAnyH_take (i := 4) (oi := { dst := some 94, op := Op.load 27 (Operand.tmp 93), type := 27, pos := _, after := #[{ on := 3, ground := Ground.data }], guard := none }) (v := ?_) rfl (by kernel_rfl) (by kernel_rfl) (by kernel_rfl) (fun _ _ _ h => h) (Or.inl ⟨by kernel_rfl, ?_⟩) (by assumption) ?_
                      rotate_left
                      · intro w hSw; obtain ⟨z0, z1, z2, z3, z4, z5⟩ := hSw; go_simp; first | done | (with_reducible rfl) | (rw [if_neg (by omega)])
                      try simp only [Act.put, List.setIfInBounds_toArray, List.set_cons_zero, List.set_cons_succ]
                      refine wpAnyH_take (i := 5) (oi := { dst := some 95, op := Op.move (Operand.tmp 6), type := 3, pos := _, after := #[], guard := none }) (v := ?_) rfl (by kernel_rfl) (by kernel_rfl) (by kernel_rfl) (fun _ _ _ h => h) (Or.inl ⟨by kernel_rfl, ?_⟩) (by assumption) ?_
                      rotate_left
                      · intro w hSw; obtain ⟨z0, z1, z2, z3, z4, z5⟩ := hSw; go_simp; first | done | (with_reducible rfl) | (rw [if_neg (by omega)])
                      try simp only [Act.put, List.setIfInBounds_toArray, List.set_cons_zero, List.set_cons_succ]
                      refine wpAnyH_take (i := 6) (oi := { dst := some 96, op := Op.indexAddr 27 (Operand.tmp 94) (Operand.tmp 95), type := 0, pos := _, after := #[{ on := 4, ground := Ground.data }, { on := 5, ground := Ground.data }], guard := none }) (v := ?_) rfl (by kernel_rfl) (by kernel_rfl) (by kernel_rfl) (fun _ _ _ h => h) (Or.inl ⟨by kernel_rfl, ?_⟩) (by assumption) ?_
                      rotate_left
                      · intro w hSw; obtain ⟨z0, z1, z2, z3, z4, z5⟩ := hSw; go_simp; first | done | (with_reducible rfl) | (rw [if_neg (by omega)])
                      try simp only [Act.put, List.setIfInBounds_toArray, List.set_cons_zero, List.set_cons_succ]
                      refine wpAnyH_take (i := 7) (oi := { dst := some 97, op := Op.fieldAddr 45 (Operand.tmp 96) 1, type := 0, pos := _, after := #[{ on := 6, ground := Ground.data }], guard := none }) (v := ?_) rfl (by kernel_rfl) (by kernel_rfl) (by kernel_rfl) (fun _ _ _ h => h) (Or.inl ⟨by kernel_rfl, ?_⟩) (by assumption) ?_
                      rotate_left
                      · intro w hSw; obtain ⟨z0, z1, z2, z3, z4, z5⟩ := hSw; go_simp; first | done | (with_reducible rfl) | (rw [if_neg (by omega)])
                      try simp only [Act.put, List.setIfInBounds_toArray, List.set_cons_zero, List.set_cons_succ]
                      refine wpAnyH_take (i := 9) (oi := { dst := some 99, op := Op.load 50 (Operand.tmp 9), type := 50, pos := _, after := #[], guard := none }) (v := ?_) rfl (by kernel_rfl) (by kernel_rfl) (by kernel_rfl) (fun _ _ _ h => h) (Or.inl ⟨by kernel_rfl, ?_⟩) (by assumption) ?_
                      rotate_left
                      · intro w hSw; obtain ⟨z0, z1, z2, z3, z4, z5⟩ := hSw; go_simp; first | done | (with_reducible rfl) | (rw [if_neg (by omega)])
                      try simp only [Act.put, List.setIfInBounds_toArray, List.set_cons_zero, List.set_cons_succ]
                      refine wpAnyH_ready (rs := [8, 10]) (by kernel_rfl) (by simp) ?_
                      refine (AllReadyH.cons (o := { dst := some 98, op := Op.load 43 (Operand.tmp 97), type := 43, pos := _, after := #[{ on := 7, ground := Ground.data }], guard := none }) rfl (fun K hK => ?_) (AllReadyH.cons (o := { dst := some 100, op := Op.buildSlice 43 1 #[(0, Operand.tmp 99)], type := 43, pos := _, after := #[{ on := 9, ground := Ground.data }], guard := none }) rfl (fun K hK => ?_) AllReadyH.nil))
                      · rw [if_pos (by kernel_rfl)]
                        go_simp
                        refine hK.out _ _ (by first | exact q5 | exact qa5) (fun _ => ?_)
                        clear hK K
                        try simp only [Act.put, List.setIfInBounds_toArray, List.set_cons_zero, List.set_cons_succ]
                        refine wpAnyH_ready (rs := [10]) (by kernel_rfl) (by simp) ?_
                        refine AllReadyH.cons (o := { dst := some 100, op := Op.buildSlice 43 1 #[(0, Operand.tmp 99)], type := 43, pos := _, after := #[{ on := 9, ground := Ground.data }], guard := none }) rfl (fun K hK => ?_) AllReadyH.nil
                        rw [if_pos (by kernel_rfl)]
                        go_simp
                        refine hK.out _ _ (by first | exact q5 | exact qa5) (fun _ => ?_)
                        clear hK K
                        try simp only [Act.put, List.setIfInBounds_toArray, List.set_cons_zero, List.set_cons_succ]
                        refine wpAnyH_ready (rs := [11]) (by kernel_rfl) (by simp) ?_
                        refine AllReadyH.cons (o := { dst := some 101, op := Op.call { callee := Callee.builtin Builtin.append, args := #[Operand.tmp 98, Operand.tmp 100], argTypes := #[43, 43] }, type := 43, pos := _, after := #[{ on := 8, ground := Ground.data }, { on := 10, ground := Ground.data }], guard := none }) rfl (fun K hK => ?_) AllReadyH.nil
                        rw [if_pos (by kernel_rfl)]
                        refine wp_append_lies _ (.tmp 98) (.tmp 100) 43 rfl (w.heap.size + 2) 50 tf _ 5 32 Try.underlying43 fi0 fz0 fz1 fz2 rfl (by decide) (.slice fa fs.length fc) fs.length ys rfl hysW ⟨wc.heap.size, 0, none⟩ 1 1 [.int .i64 fn', .int .i64 (1 + fk), .bool fr, .bool fp, .int .i64 ff] rfl rfl HN2.out (by intro u hu; simp at hu; rcases hu with rfl | rfl | rfl | rfl | rfl <;> rfl) (by omega) (by unfold maxLen; omega) (by omega) (by rw [hWs]; omega) (wc.heap.size + 1) hWs ?_
                        intro qb cq w9 hown hgr hor hlq
                        have hA := hF8.added hgl HXI.out hB1 hysW HYS.out hown hgr (by rw [hWs]; exact hor) hlq (T' := I * 6 + (KK + 1)) (by omega) (by omega)
                        obtain ⟨⟨hA1, hA2, hA3, hA4⟩, hA5, hA6⟩ := hA
                        refine hK.out _ _ ⟨hA1.cell 0 rfl, hA2.cell 0 rfl, hA2.cell 1 rfl, hA2.cell 2 rfl, hA2.cell 3 rfl, hA2.cell 4 rfl⟩ (fun _ => ?_)
                        clear hK K
                        try simp only [Act.put, List.setIfInBounds_toArray, List.set_cons_zero, List.set_cons_succ]
                        refine wpAnyH_take (i := 12) (oi := { dst := some 102, op := Op.indexAddr 27 (Operand.tmp 91) (Operand.tmp 92), type := 0, pos := _, after := #[{ on := 1, ground := Ground.data }, { on := 2, ground := Ground.data }, { on := 0, ground := Ground.phase }, { on := 1, ground := Ground.phase }, { on := 2, ground := Ground.phase }, { on := 3, ground := Ground.phase }, { on := 4, ground := Ground.phase }, { on := 5, ground := Ground.phase }, { on := 6, ground := Ground.phase }, { on := 7, ground := Ground.phase }, { on := 8, ground := Ground.phase }, { on := 9, ground := Ground.phase }, { on := 10, ground := Ground.phase }, { on := 11, ground := Ground.phase }], guard := none }) (v := ?_) rfl (by kernel_rfl) (by kernel_rfl) (by kernel_rfl) (fun _ _ _ h => h) (Or.inl ⟨by kernel_rfl, ?_⟩) (by assumption) ?_
                        rotate_left
                        · intro w hSw; obtain ⟨z0, z1, z2, z3, z4, z5⟩ := hSw; go_simp; first | done | (with_reducible rfl) | (rw [if_neg (by omega)])
                        try simp only [Act.put, List.setIfInBounds_toArray, List.set_cons_zero, List.set_cons_succ]
                        refine wpAnyH_take (i := 13) (oi := { dst := some 103, op := Op.fieldAddr 45 (Operand.tmp 102) 1, type := 0, pos := _, after := #[{ on := 12, ground := Ground.data }, { on := 0, ground := Ground.phase }, { on := 1, ground := Ground.phase }, { on := 2, ground := Ground.phase }, { on := 3, ground := Ground.phase }, { on := 4, ground := Ground.phase }, { on := 5, ground := Ground.phase }, { on := 6, ground := Ground.phase }, { on := 7, ground := Ground.phase }, { on := 8, ground := Ground.phase }, { on := 9, ground := Ground.phase }, { on := 10, ground := Ground.phase }, { on := 11, ground := Ground.phase }], guard := none }) (v := ?_) rfl (by kernel_rfl) (by kernel_rfl) (by kernel_rfl) (fun _ _ _ h => h) (Or.inl ⟨by kernel_rfl, ?_⟩) (by assumption) ?_
                        rotate_left
                        · intro w hSw; obtain ⟨z0, z1, z2, z3, z4, z5⟩ := hSw; go_simp; first | done | (with_reducible rfl) | (rw [if_neg (by omega)])
                        try simp only [Act.put, List.setIfInBounds_toArray, List.set_cons_zero, List.set_cons_succ]
                        refine wpAnyH_ready (rs := [14]) (by kernel_rfl) (by simp) ?_
                        refine AllReadyH.cons (o := { dst := none, op := Op.store 43 (Operand.tmp 103) (Operand.tmp 101), type := 0, pos := _, after := #[{ on := 13, ground := Ground.data }, { on := 11, ground := Ground.data }, { on := 11, ground := Ground.chain }, { on := 0, ground := Ground.phase }, { on := 1, ground := Ground.phase }, { on := 2, ground := Ground.phase }, { on := 3, ground := Ground.phase }, { on := 4, ground := Ground.phase }, { on := 5, ground := Ground.phase }, { on := 6, ground := Ground.phase }, { on := 7, ground := Ground.phase }, { on := 8, ground := Ground.phase }, { on := 9, ground := Ground.phase }, { on := 10, ground := Ground.phase }, { on := 11, ground := Ground.phase }], guard := none }) rfl (fun K hK => ?_) AllReadyH.nil
                        rw [if_pos (by kernel_rfl)]
                        go_simp
                        refine hK.out _ _ ⟨hA5.2.1.cell 0 rfl, hA6.cell 0 rfl, hA6.cell 1 rfl, hA6.cell 2 rfl, hA6.cell 3 rfl, hA6.cell 4 rfl⟩ (fun _ => ?_)
                        clear hK K
                        try simp only [Act.put, List.setIfInBounds_toArray, List.set_cons_zero, List.set_cons_succ]
                        refine wpAnyH_done (by kernel_rfl) ?_ _
                        go_wp2
                        go_roundw
                        case rel => exact ⟨KK + 1, _, _, by omega, by go_num, Lib.hid (by rw [List.length_set]; exact HLN.out), hA5⟩
                        case measure => simp [intOf]; omega
                      · rw [if_pos (by kernel_rfl)]
                        go_simp
                        refine hK.out _ _ (by first | exact q5 | exact qa5) (fun _ => ?_)
                        clear hK K
                        try simp only [Act.put, List.setIfInBounds_toArray, List.set_cons_zero, List.set_cons_succ]
                        refine wpAnyH_ready (rs := [8]) (by kernel_rfl) (by simp) ?_
                        refine AllReadyH.cons (o := { dst := some 98, op := Op.load 43 (Operand.tmp 97), type := 43, pos := _, after := #[{ on := 7, ground := Ground.data }], guard := none }) rfl (fun K hK => ?_) AllReadyH.nil
                        rw [if_pos (by kernel_rfl)]
                        go_simp
                        refine hK.out _ _ (by first | exact q5 | exact qa5) (fun _ => ?_)
                        clear hK K
                        try simp only [Act.put, List.setIfInBounds_toArray, List.set_cons_zero, List.set_cons_succ]
                        refine wpAnyH_ready (rs := [11]) (by kernel_rfl) (by simp) ?_
                        refine AllReadyH.cons (o := { dst := some 101, op := Op.call { callee := Callee.builtin Builtin.append, args := #[Operand.tmp 98, Operand.tmp 100], argTypes := #[43, 43] }, type := 43, pos := _, after := #[{ on := 8, ground := Ground.data }, { on := 10, ground := Ground.data }], guard := none }) rfl (fun K hK => ?_) AllReadyH.nil
                        rw [if_pos (by kernel_rfl)]
                        refine wp_append_lies _ (.tmp 98) (.tmp 100) 43 rfl (w.heap.size + 2) 50 tf _ 5 32 Try.underlying43 fi0 fz0 fz1 fz2 rfl (by decide) (.slice fa fs.length fc) fs.length ys rfl hysW ⟨wc.heap.size, 0, none⟩ 1 1 [.int .i64 fn', .int .i64 (1 + fk), .bool fr, .bool fp, .int .i64 ff] rfl rfl HN2.out (by intro u hu; simp at hu; rcases hu with rfl | rfl | rfl | rfl | rfl <;> rfl) (by omega) (by unfold maxLen; omega) (by omega) (by rw [hWs]; omega) (wc.heap.size + 1) hWs ?_
                        intro qb cq w9 hown hgr hor hlq
                        have hA := hF8.added hgl HXI.out hB1 hysW HYS.out hown hgr (by rw [hWs]; exact hor) hlq (T' := I * 6 + (KK + 1)) (by omega) (by omega)
                        obtain ⟨⟨hA1, hA2, hA3, hA4⟩, hA5, hA6⟩ := hA
                        refine hK.out _ _ ⟨hA1.cell 0 rfl, hA2.cell 0 rfl, hA2.cell 1 rfl, hA2.cell 2 rfl, hA2.cell 3 rfl, hA2.cell 4 rfl⟩ (fun _ => ?_)
                        clear hK K
                        try simp only [Act.put, List.setIfInBounds_toArray, List.set_cons_zero, List.set_cons_succ]
                        refine wpAnyH_take (i := 12) (oi := { dst := some 102, op := Op.indexAddr 27 (Operand.tmp 91) (Operand.tmp 92), type := 0, pos := _, after := #[{ on := 1, ground := Ground.data }, { on := 2, ground := Ground.data }, { on := 0, ground := Ground.phase }, { on := 1, ground := Ground.phase }, { on := 2, ground := Ground.phase }, { on := 3, ground := Ground.phase }, { on := 4, ground := Ground.phase }, { on := 5, ground := Ground.phase }, { on := 6, ground := Ground.phase }, { on := 7, ground := Ground.phase }, { on := 8, ground := Ground.phase }, { on := 9, ground := Ground.phase }, { on := 10, ground := Ground.phase }, { on := 11, ground := Ground.phase }], guard := none }) (v := ?_) rfl (by kernel_rfl) (by kernel_rfl) (by kernel_rfl) (fun _ _ _ h => h) (Or.inl ⟨by kernel_rfl, ?_⟩) (by assumption) ?_
                        rotate_left
                        · intro w hSw; obtain ⟨z0, z1, z2, z3, z4, z5⟩ := hSw; go_simp; first | done | (with_reducible rfl) | (rw [if_neg (by omega)])
                        try simp only [Act.put, List.setIfInBounds_toArray, List.set_cons_zero, List.set_cons_succ]
                        refine wpAnyH_take (i := 13) (oi := { dst := some 103, op := Op.fieldAddr 45 (Operand.tmp 102) 1, type := 0, pos := _, after := #[{ on := 12, ground := Ground.data }, { on := 0, ground := Ground.phase }, { on := 1, ground := Ground.phase }, { on := 2, ground := Ground.phase }, { on := 3, ground := Ground.phase }, { on := 4, ground := Ground.phase }, { on := 5, ground := Ground.phase }, { on := 6, ground := Ground.phase }, { on := 7, ground := Ground.phase }, { on := 8, ground := Ground.phase }, { on := 9, ground := Ground.phase }, { on := 10, ground := Ground.phase }, { on := 11, ground := Ground.phase }], guard := none }) (v := ?_) rfl (by kernel_rfl) (by kernel_rfl) (by kernel_rfl) (fun _ _ _ h => h) (Or.inl ⟨by kernel_rfl, ?_⟩) (by assumption) ?_
                        rotate_left
                        · intro w hSw; obtain ⟨z0, z1, z2, z3, z4, z5⟩ := hSw; go_simp; first | done | (with_reducible rfl) | (rw [if_neg (by omega)])
                        try simp only [Act.put, List.setIfInBounds_toArray, List.set_cons_zero, List.set_cons_succ]
                        refine wpAnyH_ready (rs := [14]) (by kernel_rfl) (by simp) ?_
                        refine AllReadyH.cons (o := { dst := none, op := Op.store 43 (Operand.tmp 103) (Operand.tmp 101), type := 0, pos := _, after := #[{ on := 13, ground := Ground.data }, { on := 11, ground := Ground.data }, { on := 11, ground := Ground.chain }, { on := 0, ground := Ground.phase }, { on := 1, ground := Ground.phase }, { on := 2, ground := Ground.phase }, { on := 3, ground := Ground.phase }, { on := 4, ground := Ground.phase }, { on := 5, ground := Ground.phase }, { on := 6, ground := Ground.phase }, { on := 7, ground := Ground.phase }, { on := 8, ground := Ground.phase }, { on := 9, ground := Ground.phase }, { on := 10, ground := Ground.phase }, { on := 11, ground := Ground.phase }], guard := none }) rfl (fun K hK => ?_) AllReadyH.nil
                        rw [if_pos (by kernel_rfl)]
                        go_simp
                        refine hK.out _ _ ⟨hA5.2.1.cell 0 rfl, hA6.cell 0 rfl, hA6.cell 1 rfl, hA6.cell 2 rfl, hA6.cell 3 rfl, hA6.cell 4 rfl⟩ (fun _ => ?_)
                        clear hK K
                        try simp only [Act.put, List.setIfInBounds_toArray, List.set_cons_zero, List.set_cons_succ]
                        refine wpAnyH_done (by kernel_rfl) ?_ _
                        go_wp2
                        go_roundw
                        case rel => exact ⟨KK + 1, _, _, by omega, by go_num, Lib.hid (by rw [List.length_set]; exact HLN.out), hA5⟩
                        case measure => simp [intOf]; omega
            · obtain rfl : KK = m0 := by omega
              go_wp2
              go_roundw
              case rel => exact ⟨I + 1, _, l, by omega, by go_num, HLN, hrel.mono (T' := (I + 1) * 6) (by omega)⟩
              case measure => simp [intOf]; omega
        · obtain rfl : I = n0 + 1 := by omega
          have hlt0 : ¬ ((n0 + 1 : Nat) : Int) < 1 + (n0 : Int) := by omega
          obtain ⟨bR, bO, ⟨U, hU⟩, hBn, hCu, hGr⟩ := hrel
          obtain ⟨va, vc, rfl, hvc⟩ := hU.shape
          have r0 := bR.cell 0 rfl
          have r1 := bR.free 0
          have o0 := bO.cell 0 rfl
          have r2 := (bR.set_ 0 (.slice va l.length vc)).cell 0 rfl
          go_wp2
          refine bodyPost_ret (v := .agg #[.slice va l.length vc]) ?_ rfl ⟨_, l, U, rfl, hCu.far (by simp; omega) _, grown_set hGr (.inr (by simp)) _, (hU.keep (by simp [World.setCell]) (fun k hk _ => Below.heap_setCell wr _ _ k (by simp; omega))).low (by omega), hBn.mono (by omega), by have := HLN.out; omega, by have := HLN.out; omega⟩
          exact results_cell_row rfl _ _ w.heap.size 29 #[.slice va l.length vc] (0, 0) _ rfl (bR.set_ 0 (.slice va l.length vc)) Try.underlying29 rfl (by kernel_rfl)
end Go.Proofs.Ytcoghgpgfaifaaa
