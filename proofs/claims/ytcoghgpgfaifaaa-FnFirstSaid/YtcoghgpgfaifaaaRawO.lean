/- What the reading of a description that comes in tells of memory: its messages and fields can be read cell by cell. Conditions: none. -/
import Derived.Test.YtcoghgpgfaifaaaRawM
import Derived.ChangeArms
import Derived.ChangeSlices
import Derived.WideShapes
import Derived.Lib.SmallJoins
namespace Go.Proofs.Ytcoghgpgfaifaaa
open Go.RowKit Go.ChangeShapes Go.WideShapes
set_option linter.unusedVariables false
set_option linter.unusedSimpArgs false
section
variable {H : Type} {enc : TypeId × Value → H} {w : World} {base : Nat} {spare : Nat → Bool} {held : Bool}
theorem cells_F : Try.prog.cellsOf 85 = 5 := by kernel_rfl
theorem cells_M : Try.prog.cellsOf 71 = 2 := by kernel_rfl
theorem cells_R : Try.prog.cellsOf 24 = 1 := by kernel_rfl
theorem cells_i : Try.prog.cellsOf 3 = 1 := by kernel_rfl
theorem cells_b : Try.prog.cellsOf 4 = 1 := by kernel_rfl
theorem cells_sF : Try.prog.cellsOf 69 = 1 := by kernel_rfl
theorem cells_sM : Try.prog.cellsOf 22 = 1 := by kernel_rfl
theorem open_field {fuel : Nat} {cs : List Value} {x : DataW H × List MemPlace} (h : DataW.trod enc Try.prog w base spare held fuel 85 cs = some x) : ∃ y : Fld, cs = y.vs := by
  obtain ⟨xs, n, _, _, hl, hlen, hf⟩ := DataW.trod_struct Try.underlying85 h
  rw [cells_F] at hl
  match cs, hl with
  | [c0, c1, c2, c3, c4], _ =>
    match xs, hlen with
    | [y0, y1, y2, y3, y4], _ =>
      have h0 := hf 0 _ rfl
      have h1 := hf 1 _ rfl
      have h2 := hf 2 _ rfl
      have h3 := hf 3 _ rfl
      have h4 := hf 4 _ rfl
      obtain ⟨a0, e0, _⟩ := DataW.trod_int (cs := [c0]) (x := y0) Try.underlying3 (by simpa [cells_i, cells_b] using h0)
      obtain ⟨a1, e1, _⟩ := DataW.trod_int (cs := [c1]) (x := y1) Try.underlying3 (by simpa [cells_i, cells_b] using h1)
      obtain ⟨a2, e2, _⟩ := DataW.trod_bool (cs := [c2]) (x := y2) Try.underlying4 (by simpa [cells_i, cells_b] using h2)
      obtain ⟨a3, e3, _⟩ := DataW.trod_bool (cs := [c3]) (x := y3) Try.underlying4 (by simpa [cells_i, cells_b] using h3)
      obtain ⟨a4, e4, _⟩ := DataW.trod_int (cs := [c4]) (x := y4) Try.underlying3 (by simpa [cells_i, cells_b] using h4)
      injection e0 with e0 _; injection e1 with e1 _; injection e2 with e2 _; injection e3 with e3 _; injection e4 with e4 _
      subst e0 e1 e2 e3 e4
      exact ⟨⟨a0, a1, a2, a3, a4⟩, rfl⟩
theorem add_none (b off i : Nat) : (⟨b, off, none⟩ : Addr).add i = ⟨b, off + i, none⟩ := by unfold Addr.add; split <;> simp_all
theorem add_zero_ (a : Addr) : a.add 0 = a := by unfold Addr.add; simp
theorem spot_of {a : Addr} {N : Nat} {cs : List Value} (h : w.cells? base (a.add 0) N = some cs) (hN : 0 < N) : a.spot = none ∧ a.block < w.heap.size := by
  rw [add_zero_] at h
  obtain ⟨_, hl, hc⟩ := World.cells?_some h
  have h0 := hc 0 hN
  obtain ⟨v, hv⟩ : ∃ v, cs[0]? = some v := ⟨_, List.getElem?_eq_getElem (by omega)⟩
  rw [hv, add_zero_] at h0
  refine ⟨World.cell?_spot h0, ?_⟩
  rcases Nat.lt_or_ge a.block w.heap.size with h | h
  · exact h
  · unfold World.cell? at h0
    rw [Array.getElem?_eq_none h] at h0
    cases h0
theorem open_fields {fuel : Nat} {cs : List Value} {x : DataW H × List MemPlace} (h : DataW.trod enc Try.prog w base spare held fuel 69 cs = some x) :
    ∃ (a : Option Addr) (len cap : Nat) (fs : List Fld), cs = [.slice a len cap] ∧ fs.length = len ∧ len ≤ cap ∧ cap ≤ maxLen ∧ FAt w 0 a fs := by
  rcases DataW.trod_slice Try.underlying69 h with ⟨rfl, _⟩ | ⟨a, len, cap, elems, rest, n, _, rfl, _, _, hl, hm, hlen, hel, _, _⟩
  · exact ⟨none, 0, 0, [], rfl, rfl, Nat.le_refl _, Nat.zero_le _, fun h => absurd h (Nat.lt_irrefl 0)⟩
  · rw [cells_F] at hel
    have each : ∀ i, i < len → ∃ y : Fld, w.cells? base (a.add (i * 5)) 5 = some y.vs := by
      intro i hi
      have h1 := hel i hi
      rw [List.getElem?_eq_getElem (by omega), Option.bind_eq_some_iff] at h1
      obtain ⟨cs', h2, h3⟩ := h1
      obtain ⟨y, rfl⟩ := open_field h3
      exact ⟨y, h2⟩
    refine ⟨some a, len, cap, (List.range len).map fun i => if h : i < len then Classical.choose (each i h) else ⟨0, 0, false, false, 0⟩, rfl, by simp, hl, hm, ?_⟩
    intro hpos
    rw [List.length_map, List.length_range] at hpos
    obtain ⟨y0, h0⟩ := each 0 hpos
    rw [Nat.zero_mul] at h0
    obtain ⟨hsp, hb⟩ := spot_of h0 (by omega)
    obtain ⟨b, off, spot⟩ := a
    simp only at hsp
    subst hsp
    refine ⟨b, off, rfl, Nat.zero_le _, hb, fun j x hx i v hv => ?_⟩
    rw [List.getElem?_map] at hx
    have hj : j < len := by
      rcases Nat.lt_or_ge j len with h' | h'
      · exact h'
      · rw [List.getElem?_eq_none (by simpa using h')] at hx; cases hx
    rw [List.getElem?_range hj] at hx
    simp only [Option.map_some, Option.some.injEq, dif_pos hj] at hx
    have hs := Classical.choose_spec (each j hj)
    rw [hx] at hs
    obtain ⟨_, _, hc⟩ := World.cells?_some hs
    have h1 := hc i (vs_lt hv)
    rw [hv] at h1
    rw [add_none, add_none] at h1
    exact h1
theorem open_msg {fuel : Nat} {cs : List Value} {x : DataW H × List MemPlace} (h : DataW.trod enc Try.prog w base spare held fuel 71 cs = some x) :
    ∃ (id : Int) (a : Option Addr) (len cap : Nat) (fs : List Fld), cs = [.int .i64 id, .slice a len cap] ∧ fs.length = len ∧ len ≤ cap ∧ cap ≤ maxLen ∧ FAt w 0 a fs := by
  obtain ⟨xs, n, _, _, hl, hlen, hf⟩ := DataW.trod_struct Try.underlying71 h
  rw [cells_M] at hl
  match cs, hl with
  | [c0, c1], _ =>
    match xs, hlen with
    | [y0, y1], _ =>
      have h0 := hf 0 _ rfl
      have h1 := hf 1 _ rfl
      obtain ⟨a0, e0, _⟩ := DataW.trod_int (cs := [c0]) (x := y0) Try.underlying3 (by simpa [cells_i, cells_sF] using h0)
      obtain ⟨a, len, cap, fs, e1, h2, h3, h4, h5⟩ := open_fields (cs := [c1]) (x := y1) (by simpa [cells_i, cells_sF] using h1)
      injection e0 with e0 _; injection e1 with e1 _
      subst e0 e1
      exact ⟨a0, a, len, cap, fs, rfl, h2, h3, h4, h5⟩
theorem open_msgs {fuel : Nat} {cs : List Value} {x : DataW H × List MemPlace} (h : DataW.trod enc Try.prog w base spare held fuel 22 cs = some x) :
    ∃ (a : Option Addr) (len cap : Nat) (ms : List Msg), cs = [.slice a len cap] ∧ ms.length = len ∧ len ≤ cap ∧ cap ≤ maxLen ∧ (∀ (j : Nat) (m : Msg), ms[j]? = some m → m.fs.length ≤ 9223372036854775807) ∧ MAt w 0 a ms := by
  rcases DataW.trod_slice Try.underlying22 h with ⟨rfl, _⟩ | ⟨a, len, cap, elems, rest, n, _, rfl, _, _, hl, hm, hlen, hel, _, _⟩
  · exact ⟨none, 0, 0, [], rfl, rfl, Nat.le_refl _, Nat.zero_le _, fun j m h => by simp at h, fun h => absurd h (Nat.lt_irrefl 0)⟩
  · rw [cells_M] at hel
    have each : ∀ i, i < len → ∃ m : Msg, ∃ (fa : Option Addr) (fc : Nat), w.cells? base (a.add (i * 2)) 2 = some [.int .i64 m.id, .slice fa m.fs.length fc] ∧ m.fs.length ≤ fc ∧ fc ≤ maxLen ∧ FAt w 0 fa m.fs := by
      intro i hi
      have h1 := hel i hi
      rw [List.getElem?_eq_getElem (by omega), Option.bind_eq_some_iff] at h1
      obtain ⟨cs', h2, h3⟩ := h1
      obtain ⟨id, fa, len', cap', fs, rfl, rfl, g1, g2, g3⟩ := open_msg h3
      exact ⟨⟨id, fs⟩, fa, cap', h2, g1, g2, g3⟩
    obtain ⟨ms, hms, get⟩ : ∃ ms : List Msg, ms.length = len ∧ ∀ (j : Nat) (m : Msg), ms[j]? = some m → j < len ∧ ∃ (fa : Option Addr) (fc : Nat), w.cells? base (a.add (j * 2)) 2 = some [.int .i64 m.id, .slice fa m.fs.length fc] ∧ m.fs.length ≤ fc ∧ fc ≤ maxLen ∧ FAt w 0 fa m.fs := by
      refine ⟨(List.range len).map fun i => if h : i < len then Classical.choose (each i h) else ⟨0, []⟩, by simp, ?_⟩
      intro j m hx
      rw [List.getElem?_map] at hx
      have hj : j < len := by
        rcases Nat.lt_or_ge j len with h' | h'
        · exact h'
        · rw [List.getElem?_eq_none (by simpa using h')] at hx; cases hx
      rw [List.getElem?_range hj] at hx
      rw [Option.map_some, dif_pos hj] at hx
      have hx := Option.some.inj hx
      have hs := Classical.choose_spec (each j hj)
      rw [hx] at hs
      exact ⟨hj, hs⟩
    refine ⟨some a, len, cap, ms, rfl, hms, hl, hm, fun j m hx => ?_, ?_⟩
    · obtain ⟨_, fa, fc, _, h1, h2, _⟩ := get j m hx
      have : maxLen ≤ 9223372036854775807 := by decide
      omega
    intro hpos
    rw [hms] at hpos
    obtain ⟨_, _, _, h0, _⟩ := each 0 hpos
    rw [Nat.zero_mul] at h0
    obtain ⟨hsp, hb⟩ := spot_of h0 (by omega)
    obtain ⟨b, off, spot⟩ := a
    simp only at hsp
    subst hsp
    refine ⟨b, off, rfl, Nat.zero_le _, hb, fun j m hx => ?_⟩
    obtain ⟨hj, fa, fc, h1, h2, _, h4⟩ := get j m hx
    obtain ⟨_, _, hc⟩ := World.cells?_some h1
    have c0 := hc 0 (by omega)
    have c1 := hc 1 (by omega)
    rw [add_none, add_none] at c0 c1
    exact ⟨c0, fa, fc, c1, h2, h4⟩
theorem open_raw {r : Reach} {b0 : Nat} {v : Value} {d : DataW H} {p : List MemPlace} (hv : Value.okWide Try.prog w r b0 24 v) (h : DataW.Trod enc Try.prog w base spare held 24 v d p) :
    ∃ (a : Option Addr) (len cap : Nat) (ms : List Msg), v = .agg #[.slice a len cap] ∧ ms.length = len ∧ len ≤ cap ∧ cap ≤ maxLen ∧ (∀ (j : Nat) (m : Msg), ms[j]? = some m → m.fs.length ≤ 9223372036854775807) ∧ MAt w 0 a ms := by
  obtain ⟨cs, rfl, hsz⟩ := okWide_struct Try.underlying24 hv
  rw [cells_R] at hsz
  obtain ⟨fuel, hf⟩ := h
  obtain ⟨y0, n, _, hl, h0⟩ := trod_struct1 Try.underlying24 hf
  obtain ⟨cl⟩ := cs
  match cl, hsz with
  | [c0], _ =>
    have h1 : ∃ fuel' x', DataW.trod enc Try.prog w base spare held fuel' 22 [c0] = some x' := ⟨n, y0, by simpa [Value.cells, cells_sM] using h0⟩
    obtain ⟨_, _, h2⟩ := h1
    obtain ⟨a, len, cap, ms, e1, h3⟩ := open_msgs h2
    injection e1 with e1 _
    subst e1
    exact ⟨a, len, cap, ms, rfl, h3⟩
end
end Go.Proofs.Ytcoghgpgfaifaaa
