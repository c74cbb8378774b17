/- Contracts of the reference's codes of a description. Conditions: the description can be read. -/
import Derived.Test.YtcoghgpgfaifaaaRawE
import Derived.Test.YtcoghgpgfaifaaaNum
namespace Go.Proofs.Ytcoghgpgfaifaaa
open Go.RowKit
set_option linter.unusedVariables false
set_option linter.unusedSimpArgs false
def hasId (ms : List Msg) (id : Int) : Bool := ms.any fun o => o.id == id
def hasNum (fs : List Fld) (n : Int) : Bool := fs.any fun o => o.n == n
theorem hasId_hit {ms : List Msg} {k K : Nat} {m : Msg} {id : Int} (h : ms[k]? = some m) (hk : k < K) (e : m.id = id) : hasId (ms.take K) id = true := by
  unfold hasId
  rw [List.any_eq_true]
  refine ⟨m, ?_, by simpa using e⟩
  rw [List.mem_iff_getElem?]
  exact ⟨k, by rw [List.getElem?_take, if_pos hk]; exact h⟩
theorem hasId_miss {ms : List Msg} {K : Nat} {id : Int} (h : ∀ (j : Nat) (m : Msg), j < K → ms[j]? = some m → m.id ≠ id) : hasId (ms.take K) id = false := by
  unfold hasId
  rw [Bool.eq_false_iff]
  intro hh
  rw [List.any_eq_true] at hh
  obtain ⟨m, hm, e⟩ := hh
  rw [List.mem_iff_getElem?] at hm
  obtain ⟨j, hj⟩ := hm
  rw [List.getElem?_take] at hj
  split at hj
  · exact h j m (by assumption) hj (by simpa using e)
  · cases hj
theorem hasNum_hit {fs : List Fld} {k K : Nat} {m : Fld} {id : Int} (h : fs[k]? = some m) (hk : k < K) (e : m.n = id) : hasNum (fs.take K) id = true := by
  unfold hasNum
  rw [List.any_eq_true]
  refine ⟨m, ?_, by simpa using e⟩
  rw [List.mem_iff_getElem?]
  exact ⟨k, by rw [List.getElem?_take, if_pos hk]; exact h⟩
theorem hasNum_miss {fs : List Fld} {K : Nat} {id : Int} (h : ∀ (j : Nat) (m : Fld), j < K → fs[j]? = some m → m.n ≠ id) : hasNum (fs.take K) id = false := by
  unfold hasNum
  rw [Bool.eq_false_iff]
  intro hh
  rw [List.any_eq_true] at hh
  obtain ⟨m, hm, e⟩ := hh
  rw [List.mem_iff_getElem?] at hm
  obtain ⟨j, hj⟩ := hm
  rw [List.getElem?_take] at hj
  split at hj
  · exact h j m (by assumption) hj (by simpa using e)
  · cases hj
def msgCode (ms : List Msg) (k : Int) : Int :=
  if inB k 0 ((ms.length : Int) - 1) then
    match ms[k.toNat]? with
    | some m => if inB m.id 1 99 then (if hasId (ms.take k.toNat) m.id then 3 else if 8 < m.fs.length then 4 else 0) else 2
    | none => 0
  else 0
set_option maxHeartbeats 1000000 in
theorem cP_l6HasId (a : Option Addr) (n c : Nat) (ms : List Msg) (id : Int) (K : Nat) (w : World) (hn : ms.length = n) (hle : n ≤ 1048576) (hK : K ≤ n) (hf : MAt w 0 a ms) :
    Calls Try.prog 32 #[.agg #[.slice a n c], .int .i64 id, .int .i64 K] w fun e w' => e = .returned (.bool (hasId (ms.take K) id)) ∧ Below w.heap.size w w' := by
  have hb0 := below1 w (.cells #[.slice a n c] 29)
  have R0 := Box.new w 29 #[.slice a n c]
  have r0 := R0.cell 0 rfl
  go_enter Try.func32, Try.ntmps32
  go_wp2_with fail
  go_loop [7] (fun i => ∃ (k : Nat), k ≤ K ∧ i = .int .i64 k ∧ ∀ (j : Nat) (m : Msg), j < k → ms[j]? = some m → m.id ≠ id) (fun i => K - (intOf i).toNat)
  case atStart => exact ⟨0, Nat.zero_le _, rfl, fun j m hj => absurd hj (Nat.not_lt_zero _)⟩
  case round =>
    obtain ⟨k, hk, rfl, hall⟩ := hrel
    have HA := Lib.hid hall
    clear hall
    by_cases hlt : k < K
    · obtain ⟨b, off, rfl, _, hb, hc⟩ := hf (by omega)
      have hx : ms[k]? = some ms[k] := List.getElem?_eq_getElem (by omega)
      generalize ms[k] = m at hx
      have q0 := bkeep (hb0.block b hb) (hc k m hx).1
      have hk0 : (k : Int) < (n : Int) := by omega
      have hk1 : (k : Int) < (K : Int) := by omega
      have HX := Lib.hid hx
      clear hc hf hx
      by_cases he : m.id = id
      · have HE := Lib.hid (hasId_hit HX.out hlt he)
        have he' : (m.id == id) = true := by simpa using he
        go_wp2
        go_ret
        exact ⟨by rw [HE.out]; rfl, hb0⟩
      · have he' : (m.id == id) = false := by simpa using he
        go_wp2
        go_round
        case rel => exact ⟨k + 1, by omega, by go_num, fun j y hj hy => by
          rcases Nat.lt_or_ge j k with h' | h'
          · exact HA.out j y h' hy
          · obtain rfl : j = k := by omega
            obtain rfl : m = y := Option.some.inj (HX.out.symm.trans hy)
            exact he⟩
        case measure => simp [intOf]; omega
    · obtain rfl : K = k := by omega
      have HE := Lib.hid (hasId_miss HA.out)
      go_wp2
      go_ret
      exact ⟨by rw [HE.out]; rfl, hb0⟩
set_option maxHeartbeats 1000000 in
theorem cP_l6HasNumber (a : Option Addr) (n c : Nat) (fs : List Fld) (x : Int) (w : World) (hn : fs.length = n) (hle : n ≤ 1048576) (hf : FAt w 0 a fs) :
    Calls Try.prog 37 #[.slice a n c, .int .i64 x] w fun e w' => e = .returned (.bool (hasNum fs x)) ∧ w = w' := by
  have HT : Hid (fs.take n = fs) := Lib.hid (List.take_of_length_le (by omega))
  go_enter Try.func37, Try.ntmps37
  go_wp2_with fail
  go_loop [5] (fun i => ∃ (k : Nat), k ≤ n ∧ i = .int .i64 k ∧ ∀ (j : Nat) (m : Fld), j < k → fs[j]? = some m → m.n ≠ x) (fun i => n - (intOf i).toNat)
  case atStart => exact ⟨0, Nat.zero_le _, rfl, fun j m hj => absurd hj (Nat.not_lt_zero _)⟩
  case round =>
    obtain ⟨k, hk, rfl, hall⟩ := hrel
    have HA := Lib.hid hall
    clear hall
    by_cases hlt : k < n
    · obtain ⟨b, off, rfl, _, hb, hc⟩ := hf (by omega)
      have hx : fs[k]? = some fs[k] := List.getElem?_eq_getElem (by omega)
      generalize fs[k] = m at hx
      have q0 : w.cell? ⟨b, off + k * 5, none⟩ = some (.int .i64 m.n) := hc k m hx 0 _ rfl
      have hk0 : (k : Int) < (n : Int) := by omega
      have HX := Lib.hid hx
      clear hc hf hx
      by_cases he : m.n = x
      · have HE := Lib.hid (hasNum_hit HX.out hlt he)
        have he' : (m.n == x) = true := by simpa using he
        go_wp2
        go_ret
        exact ⟨by have h := HE.out; rw [HT.out] at h; rw [h]; rfl, rfl⟩
      · have he' : (m.n == x) = false := by simpa using he
        go_wp2
        go_round
        case rel => exact ⟨k + 1, by omega, by go_num, fun j y hj hy => by
          rcases Nat.lt_or_ge j k with h' | h'
          · exact HA.out j y h' hy
          · obtain rfl : j = k := by omega
            obtain rfl : m = y := Option.some.inj (HX.out.symm.trans hy)
            exact he⟩
        case measure => simp [intOf]; omega
    · obtain rfl : n = k := by omega
      have HE := Lib.hid (hasNum_miss HA.out)
      go_wp2
      go_ret
      exact ⟨by have h := HE.out; rw [HT.out] at h; rw [h]; rfl, rfl⟩
set_option maxHeartbeats 1000000 in
theorem cP_MsgCode (a : Option Addr) (n c : Nat) (ms : List Msg) (k : Int) (w : World) (hn : ms.length = n) (hle : n ≤ 1048576) (hf : MAt w 0 a ms) :
    Calls Try.prog 14 #[.agg #[.slice a n c], .int .i64 k] w fun e w' => e = .returned (.int .i64 (msgCode ms k)) ∧ Below w.heap.size w w' := by
  have hb0 := below1 w (.cells #[.slice a n c] 29)
  have R0 := Box.new w 29 #[.slice a n c]
  have r0 := R0.cell 0 rfl
  rcases h1 : inB k 0 ((n : Int) - 1) with _ | _
  · have HE : Hid (msgCode ms k = 0) := Lib.hid (by unfold msgCode; rw [hn, h1]; rfl)
    go_enter Try.func14, Try.ntmps14
    go_wp2_with (go_at_call 31; refine (cP_in _ _ _ _).mono ?_; rw [h1]; rintro e w' ⟨rfl, rfl⟩)
    go_ret
    exact ⟨by rw [HE.out]; rfl, hb0⟩
  · obtain ⟨h2, h3⟩ := inB_yes h1
    obtain ⟨K, rfl⟩ := Int.eq_ofNat_of_zero_le h2
    have hKn : K < n := by omega
    have hf0 := hf
    obtain ⟨b, off, rfl, _, hb, hc⟩ := hf (by omega)
    have hx : ms[K]? = some ms[K] := List.getElem?_eq_getElem (by omega)
    generalize ms[K] = m at hx
    obtain ⟨g1, fa, fc, g2, g3, g4⟩ := hc K m hx
    have q0 := bkeep (hb0.block b hb) g1
    have q1 := bkeep (hb0.block b hb) g2
    have hk0 : (K : Int) < (n : Int) := by omega
    have HX : Hid (msgCode ms (K : Int) = if inB m.id 1 99 then (if hasId (ms.take K) m.id then 3 else if 8 < m.fs.length then 4 else 0) else 2) := Lib.hid (by unfold msgCode; rw [hn, h1, Int.toNat_natCast, hx]; rfl)
    go_enter Try.func14, Try.ntmps14
    go_wp2_with (go_at_call 31; refine (cP_in _ _ _ _).mono ?_; rw [h1]; rintro e w' ⟨rfl, rfl⟩; refine Hid.out ?_)
    refine Lib.hid ?_
    have hb1 := below2 w (.cells #[.slice (some ⟨b, off, none⟩) n c] 29) (.cells #[.int .i64 m.id, .slice fa m.fs.length fc] 45)
    have R1 := R0.alloc (.cells #[.int .i64 m.id, .slice fa m.fs.length fc] 45)
    have S1 := Box.at1 w (.cells #[.slice (some ⟨b, off, none⟩) n c] 29) 45 #[.int .i64 m.id, .slice fa m.fs.length fc]
    rcases h4 : inB m.id 1 99 with _ | _
    · rw [h4] at HX
      have HE := HX
      go_wp2_with (go_at_call 31; refine (cP_in _ _ _ _).mono ?_; rw [h4]; rintro e w' ⟨rfl, rfl⟩)
      go_ret
      exact ⟨by rw [HE.out]; rfl, hb1⟩
    · rw [h4] at HX
      have HC := fun (w' : World) (hb' : Below w.heap.size w w') => cP_l6HasId (some ⟨b, off, none⟩) n c ms m.id K w' hn hle (by omega) (hf0.below hb')
      rcases h5 : hasId (ms.take K) m.id with _ | _
      · rw [h5] at HX HC
        have HXX := HX
        clear HX
        go_wp2_with (first
          | (go_at_call 31; refine (cP_in _ _ _ _).mono ?_; rw [h4]; rintro e w' ⟨rfl, rfl⟩)
          | (go_at_call 32; refine (HC _ hb1).mono ?_; rintro e w2 ⟨rfl, hb2⟩; have R2 := R1.all hb2; have S2 := S1.all hb2; have s0 := S2.cell 0 rfl; have s1 := S2.cell 1 rfl; have r2 := R2.cell 0 rfl; refine Hid.out ?_))
        refine Lib.hid ?_
        have B := hb1.trans (hb2.mono hb1.size)
        by_cases h6 : 8 < m.fs.length
        · have HE : Hid (msgCode ms (K : Int) = 4) := Lib.hid (by rw [HXX.out]; simp [h6])
          have h6' : (8 : Int) < (m.fs.length : Int) := by omega
          go_wp2
          go_ret
          exact ⟨by rw [HE.out]; rfl, B⟩
        · have HE : Hid (msgCode ms (K : Int) = 0) := Lib.hid (by rw [HXX.out]; simp [h6])
          have h6' : (m.fs.length : Int) ≤ 8 := by omega
          go_wp2
          go_ret
          exact ⟨by rw [HE.out]; rfl, B⟩
      · rw [h5] at HX HC
        have HXX := HX
        clear HX
        go_wp2_with (first
          | (go_at_call 31; refine (cP_in _ _ _ _).mono ?_; rw [h4]; rintro e w' ⟨rfl, rfl⟩)
          | (go_at_call 32; refine (HC _ hb1).mono ?_; rintro e w2 ⟨rfl, hb2⟩))
        go_ret
        exact ⟨by rw [HXX.out]; rfl, hb1.trans (hb2.mono hb1.size)⟩
end Go.Proofs.Ytcoghgpgfaifaaa
