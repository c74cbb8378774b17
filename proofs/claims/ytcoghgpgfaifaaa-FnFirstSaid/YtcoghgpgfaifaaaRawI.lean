/- Contracts of the program's codes of a description: closures, MsgCode, hasMsg. Conditions: the description can be read. -/
import Derived.Test.YtcoghgpgfaifaaaRawP
import Derived.Test.YtcoghgpgfaifaaaShelf
import Derived.Lib.SliceRun
namespace Go.Proofs.Ytcoghgpgfaifaaa
open Go.RowKit
set_option linter.unusedVariables false
set_option linter.unusedSimpArgs false
instance : Inhabited Fld := ⟨⟨0, 0, false, false, 0⟩⟩
/-- a message's cells: its number, its fields' slice -/
def encM (x : Int × Value) : List Value := [.int .i64 x.1, x.2]
instance : Inhabited (Int × Value) := ⟨(0, .bool false)⟩
theorem p_MsgCode (id : Int) (B : Nat) (w : World) (hB : B < w.heap.size) (hcell : w.cell? ⟨B, 0, none⟩ = some (.int .i64 id)) :
    PredBelow Try.prog 35 #[.pointer (some ⟨B, 0, none⟩)] (fun x => .agg (encM x).toArray) (fun x => x.1 == id) w := fun W x hb => by
  have hc : W.cell? ⟨B, 0, none⟩ = some (.int .i64 id) := (hb.cell (p := ⟨B, 0, none⟩) hB).trans hcell
  have hBW : B < W.heap.size := Nat.lt_of_lt_of_le hB hb.size
  show Calls Try.prog 35 #[.agg #[.int .i64 x.1, x.2], .pointer (some ⟨B, 0, none⟩)] W _
  go_enter Try.func35, Try.ntmps35
  go_wp2
  all_goals (go_ret; exact ⟨rfl, hb.alloc hb.size _⟩)
theorem p_hasMsg (id : Int) (B : Nat) (w : World) (hB : B < w.heap.size) (hcell : w.cell? ⟨B, 0, none⟩ = some (.int .i64 id)) :
    PredBelow Try.prog 53 #[.pointer (some ⟨B, 0, none⟩)] (fun x => .agg (encM x).toArray) (fun x => x.1 == id) w := fun W x hb => by
  have hc : W.cell? ⟨B, 0, none⟩ = some (.int .i64 id) := (hb.cell (p := ⟨B, 0, none⟩) hB).trans hcell
  have hBW : B < W.heap.size := Nat.lt_of_lt_of_le hB hb.size
  show Calls Try.prog 53 #[.agg #[.int .i64 x.1, x.2], .pointer (some ⟨B, 0, none⟩)] W _
  go_enter Try.func53, Try.ntmps53
  go_wp2
  all_goals (go_ret; exact ⟨rfl, hb.alloc hb.size _⟩)
theorem p_FieldCode (n : Int) (B : Nat) (w : World) (hB : B < w.heap.size) (hcell : w.cell? ⟨B, 0, none⟩ = some (.int .i64 n)) :
    PredBelow Try.prog 42 #[.pointer (some ⟨B, 0, none⟩)] (fun x => .agg (Fld.vs x).toArray) (fun x => x.n == n) w := fun W x hb => by
  have hc : W.cell? ⟨B, 0, none⟩ = some (.int .i64 n) := (hb.cell (p := ⟨B, 0, none⟩) hB).trans hcell
  have hBW : B < W.heap.size := Nat.lt_of_lt_of_le hB hb.size
  show Calls Try.prog 42 #[.agg #[.int .i64 x.n, .int .i64 x.k, .bool x.r, .bool x.p, .int .i64 x.f], .pointer (some ⟨B, 0, none⟩)] W _
  go_enter Try.func42, Try.ntmps42
  go_wp2
  all_goals (go_ret; exact ⟨rfl, hb.alloc hb.size _⟩)
/-- the messages as pairs of a number and a slice -/
theorem pairs {w : World} {b off : Nat} {ms : List Msg} (hc : ∀ j m, ms[j]? = some m → w.cell? ⟨b, off + j * 2, none⟩ = some (.int .i64 m.id) ∧ ∃ fa fc, w.cell? ⟨b, off + j * 2 + 1, none⟩ = some (.slice fa m.fs.length fc) ∧ m.fs.length ≤ fc ∧ FAt w 0 fa m.fs) :
    ∃ zs : List (Int × Value), zs.length = ms.length ∧ (∀ (K : Nat) (id : Int), (zs.take K).any (fun x => x.1 == id) = hasId (ms.take K) id) ∧
      ∀ j, j < zs.length → ∀ i v, (encM zs[j]!)[i]? = some v → w.cell? ⟨b, off + j * 2 + i, none⟩ = some v := by
  refine ⟨(List.range ms.length).map fun j => ((ms[j]?.map Msg.id).getD 0, (w.cell? ⟨b, off + j * 2 + 1, none⟩).getD (.bool false)), by simp, ?_, ?_⟩
  · intro K id
    unfold hasId
    have h : ms = (List.range ms.length).map fun j => ms[j]?.getD ⟨0, []⟩ := by
      apply List.ext_getElem?
      intro i
      simp only [List.getElem?_map, List.getElem?_range]
      by_cases hi : i < ms.length
      · simp [hi]
      · simp [hi]
    have h2 : (ms.take K).any (fun o => o.id == id) = (((List.range ms.length).map fun j => ms[j]?.getD ⟨0, []⟩).take K).any (fun o => o.id == id) := by rw [← h]
    rw [h2, ← List.map_take, ← List.map_take, List.any_map, List.any_map]
    congr 1
    funext j
    simp only [Function.comp]
    cases ms[j]? <;> rfl
  · intro j hj i v hv
    have hj' : j < ms.length := by simpa using hj
    obtain ⟨h1, fa, fc, h2, _⟩ := hc j ms[j] (List.getElem?_eq_getElem hj')
    rw [getElem!_pos _ j hj] at hv
    simp only [List.getElem_map, List.getElem_range, encM, List.getElem?_eq_getElem hj', Option.map_some, Option.getD_some, h2] at hv
    rcases (show i = 0 ∨ i = 1 ∨ 2 ≤ i by omega) with rfl | rfl | hi
    · simp at hv; subst hv; exact h1
    · simp at hv; subst hv; exact h2
    · obtain ⟨i, rfl⟩ := Nat.exists_eq_add_of_le hi
      rw [show 2 + i = i + 1 + 1 by omega] at hv
      simp at hv
theorem c_ContainsM (b off n c K : Nat) (ms : List Msg) (id : Int) (g : Nat) (B : Nat) (w : World) (eg : ∀ args w, (callFunc g args).run Try.prog w = .ok (.enter g args) w)
    (hp : PredBelow Try.prog g #[.pointer (some ⟨B, 0, none⟩)] (fun x => .agg (encM x).toArray) (fun x => x.1 == id) w)
    (hK : K ≤ ms.length) (hle : ms.length ≤ 1048576) (hb : b < w.heap.size)
    (hc : ∀ j m, ms[j]? = some m → w.cell? ⟨b, off + j * 2, none⟩ = some (.int .i64 m.id) ∧ ∃ fa fc, w.cell? ⟨b, off + j * 2 + 1, none⟩ = some (.slice fa m.fs.length fc) ∧ m.fs.length ≤ fc ∧ FAt w 0 fa m.fs) :
    Calls Try.prog 34 #[.slice (some ⟨b, off, none⟩) K c, .func (.func g) #[] #[.pointer (some ⟨B, 0, none⟩)]] w fun e w' => e = .returned (.bool (hasId (ms.take K) id)) ∧ Below w.heap.size w w' := by
  obtain ⟨zs, h1, h2, h3⟩ := pairs hc
  have h := AnyQ.slices_ContainsFunc Try.laysCM 2 Try.isAgg45 Try.sizeOf45 encM (fun _ => rfl) (fun x => x.1 == id) g #[.pointer (some ⟨B, 0, none⟩)] eg b off K c zs w hp (by omega) (by omega) hb h3
  rw [h2] at h
  exact h
theorem c_ContainsF (b off n c K : Nat) (fs : List Fld) (x : Int) (g : Nat) (B : Nat) (w : World) (eg : ∀ args w, (callFunc g args).run Try.prog w = .ok (.enter g args) w)
    (hp : PredBelow Try.prog g #[.pointer (some ⟨B, 0, none⟩)] (fun x => .agg (Fld.vs x).toArray) (fun y => y.n == x) w)
    (hK : K ≤ fs.length) (hle : fs.length ≤ 1048576) (hb : b < w.heap.size)
    (hc : ∀ j x, fs[j]? = some x → ∀ i v, x.vs[i]? = some v → w.cell? ⟨b, off + j * 5 + i, none⟩ = some v) :
    Calls Try.prog 41 #[.slice (some ⟨b, off, none⟩) K c, .func (.func g) #[] #[.pointer (some ⟨B, 0, none⟩)]] w fun e w' => e = .returned (.bool (hasNum (fs.take K) x)) ∧ Below w.heap.size w w' :=
  AnyQ.slices_ContainsFunc Try.laysCF 5 Try.isAgg50 Try.sizeOf50 Fld.vs (fun _ => rfl) (fun y => y.n == x) g #[.pointer (some ⟨B, 0, none⟩)] eg b off K c fs w hp (by omega) (by omega) hb (fun j hj i v hv => hc j fs[j]! (by rw [getElem!_pos _ j hj]; exact List.getElem?_eq_getElem hj) i v hv)
theorem mkeep {w w' : World} {b off : Nat} {ms : List Msg} (hb : Below w.heap.size w w') (hB : b < w.heap.size)
    (hc : ∀ j m, ms[j]? = some m → w.cell? ⟨b, off + j * 2, none⟩ = some (.int .i64 m.id) ∧ ∃ fa fc, w.cell? ⟨b, off + j * 2 + 1, none⟩ = some (.slice fa m.fs.length fc) ∧ m.fs.length ≤ fc ∧ FAt w 0 fa m.fs) :
    ∀ j m, ms[j]? = some m → w'.cell? ⟨b, off + j * 2, none⟩ = some (.int .i64 m.id) ∧ ∃ fa fc, w'.cell? ⟨b, off + j * 2 + 1, none⟩ = some (.slice fa m.fs.length fc) ∧ m.fs.length ≤ fc ∧ FAt w' 0 fa m.fs := by
  intro j m hm
  obtain ⟨h1, fa, fc, h2, h3, h4⟩ := hc j m hm
  exact ⟨bkeep (hb.block b hB) h1, fa, fc, bkeep (hb.block b hB) h2, h3, h4.below hb⟩
set_option maxHeartbeats 1000000 in
theorem cI_MsgCode (a : Option Addr) (n c : Nat) (ms : List Msg) (k : Int) (w : World) (hn : ms.length = n) (hle : n ≤ 1048576) (hcap : n ≤ c) (hf : MAt w 0 a ms) :
    Calls Try.prog 15 #[.agg #[.slice a n c], .int .i64 k] w fun e w' => e = .returned (.int .i64 (msgCode ms k)) ∧ Below w.heap.size w w' := by
  have hb0 := below1 w (.cells #[.slice a n c] 29)
  have R0 := Box.new w 29 #[.slice a n c]
  have r0 := R0.cell 0 rfl
  rcases h1 : inB k 0 ((n : Int) - 1) with _ | _
  · have HE : Hid (msgCode ms k = 0) := Lib.hid (by unfold msgCode; rw [hn, h1]; rfl)
    go_enter Try.func15, Try.ntmps15
    go_wp2_with (go_at_call 33; refine (cI_within _ _ _ _).mono ?_; rw [h1]; rintro e w' ⟨rfl, rfl⟩)
    go_ret
    exact ⟨by rw [HE.out]; rfl, hb0⟩
  · obtain ⟨h2, h3⟩ := inB_yes h1
    obtain ⟨K, rfl⟩ := Int.eq_ofNat_of_zero_le h2
    have hKn : K < n := by omega
    have hf0 := hf
    obtain ⟨b, off, rfl, _, hb, hc⟩ := hf (by omega)
    have hx : ms[K]? = some ms[K] := List.getElem?_eq_getElem (by omega)
    generalize ms[K] = m at hx
    obtain ⟨g1, fa, fc, g2, g3, g4⟩ := hc K m hx
    have q0 := bkeep (hb0.block b hb) g1
    have q1 := bkeep (hb0.block b hb) g2
    have hk0 : (K : Int) < (n : Int) := by omega
    have HX : Hid (msgCode ms (K : Int) = if inB m.id 1 99 then (if hasId (ms.take K) m.id then 3 else if 8 < m.fs.length then 4 else 0) else 2) := Lib.hid (by unfold msgCode; rw [hn, h1, Int.toNat_natCast, hx]; rfl)
    go_enter Try.func15, Try.ntmps15
    go_wp2_with (go_at_call 33; refine (cI_within _ _ _ _).mono ?_; rw [h1]; rintro e w' ⟨rfl, rfl⟩; refine Hid.out ?_)
    refine Lib.hid ?_
    have hb1 := below2 w (.cells #[.slice (some ⟨b, off, none⟩) n c] 29) (.cells #[.int .i64 m.id, .slice fa m.fs.length fc] 45)
    have R1 := R0.alloc (.cells #[.int .i64 m.id, .slice fa m.fs.length fc] 45)
    have S1 := Box.at1 w (.cells #[.slice (some ⟨b, off, none⟩) n c] 29) 45 #[.int .i64 m.id, .slice fa m.fs.length fc]
    rcases h4 : inB m.id 1 99 with _ | _
    · rw [h4] at HX
      have HE := HX
      go_wp2_with (go_at_call 33; refine (cI_within _ _ _ _).mono ?_; rw [h4]; rintro e w' ⟨rfl, rfl⟩)
      go_ret
      exact ⟨by rw [HE.out]; rfl, hb1⟩
    · rw [h4] at HX
      have HC := c_ContainsM b off n c K ms m.id 35 (w.heap.size + 1) _ (enters_of Try.func35 (by kernel_rfl) rfl) (p_MsgCode m.id (w.heap.size + 1) _ (by simp) (S1.cell 0 rfl)) (by omega) (by omega) (Nat.lt_of_lt_of_le hb hb1.size) (mkeep hb1 hb hc)
      have hK1 : (K : Int) ≤ (c : Int) := by omega
      rcases h5 : hasId (ms.take K) m.id with _ | _
      · rw [h5] at HX HC
        have HXX := HX
        clear HX
        go_wp2_with (first
          | (go_at_call 33; refine (cI_within _ _ _ _).mono ?_; rw [h4]; rintro e w' ⟨rfl, rfl⟩)
          | (go_at_call 34; refine HC.mono ?_; rintro e w2 ⟨rfl, hb2⟩; have R2 := R1.all hb2; have S2 := S1.all hb2; have s0 := S2.cell 0 rfl; have s1 := S2.cell 1 rfl; have r2 := R2.cell 0 rfl; refine Hid.out ?_))
        refine Lib.hid ?_
        have B := hb1.trans (hb2.mono hb1.size)
        by_cases h6 : 8 < m.fs.length
        · have HE : Hid (msgCode ms (K : Int) = 4) := Lib.hid (by rw [HXX.out]; simp [h6])
          have h6' : (8 : Int) < (m.fs.length : Int) := by omega
          go_wp2
          go_ret
          exact ⟨by rw [HE.out]; rfl, B⟩
        · have HE : Hid (msgCode ms (K : Int) = 0) := Lib.hid (by rw [HXX.out]; simp [h6])
          have h6' : (m.fs.length : Int) ≤ 8 := by omega
          go_wp2
          go_ret
          exact ⟨by rw [HE.out]; rfl, B⟩
      · rw [h5] at HX HC
        have HXX := HX
        clear HX
        go_wp2_with (first
          | (go_at_call 33; refine (cI_within _ _ _ _).mono ?_; rw [h4]; rintro e w' ⟨rfl, rfl⟩)
          | (go_at_call 34; refine HC.mono ?_; rintro e w2 ⟨rfl, hb2⟩))
        go_ret
        exact ⟨by rw [HXX.out]; rfl, hb1.trans (hb2.mono hb1.size)⟩
set_option maxHeartbeats 1000000 in
theorem cI_hasMsg (a : Option Addr) (n c : Nat) (ms : List Msg) (id : Int) (w : World) (hn : ms.length = n) (hle : n ≤ 1048576) (h1 : 1 ≤ n) (hf : MAt w 0 a ms) :
    Calls Try.prog 45 #[.agg #[.slice a n c], .int .i64 id] w fun e w' => e = .returned (.bool (hasId ms id)) ∧ Below w.heap.size w w' := by
  obtain ⟨b, off, rfl, _, hb, hc⟩ := hf (by omega)
  have hb1 := below2 w (.cells #[.slice (some ⟨b, off, none⟩) n c] 29) (.cells #[.int .i64 id] 3)
  have S1 := Box.at1 w (.cells #[.slice (some ⟨b, off, none⟩) n c] 29) 3 #[.int .i64 id]
  have HC := c_ContainsM b off n c n ms id 53 (w.heap.size + 1) _ (enters_of Try.func53 (by kernel_rfl) rfl) (p_hasMsg id (w.heap.size + 1) _ (by simp) (S1.cell 0 rfl)) (by omega) (by omega) (Nat.lt_of_lt_of_le hb hb1.size) (mkeep hb1 hb hc)
  rw [List.take_of_length_le (by omega)] at HC
  go_enter Try.func45, Try.ntmps45
  go_wp2_with (go_at_call 34; refine HC.mono ?_; rintro e w2 ⟨rfl, hb2⟩)
  go_ret
  exact ⟨rfl, hb1.trans (hb2.mono hb1.size)⟩
end Go.Proofs.Ytcoghgpgfaifaaa
