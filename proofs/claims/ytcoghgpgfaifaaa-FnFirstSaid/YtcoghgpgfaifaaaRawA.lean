/- Contracts of the law's helpers over descriptions: they are copied, measured and found equal. Conditions: the descriptions can be read. -/
import Derived.Test.YtcoghgpgfaifaaaRawM
namespace Go.Proofs.Ytcoghgpgfaifaaa
open Go.RowKit
set_option linter.unusedVariables false
set_option linter.unusedSimpArgs false
theorem cL_toRawField (x : Fld) (w : World) : Calls Try.prog 63 #[.agg #[.int .i64 x.n, .int .i64 x.k, .bool x.r, .bool x.p, .int .i64 x.f]] w fun e w' => e = .returned (.agg #[.int .i64 x.n, .int .i64 x.k, .bool x.r, .bool x.p, .int .i64 x.f]) ∧ Below w.heap.size w w' := by
  go_enter Try.func63, Try.ntmps63
  go_wp2
  exact bodyPost_ret (v := x.ag) (by simp [results, Try.results63, go_sem, Fld.ag]) rfl ⟨rfl, by repeat (first | exact Below.refl _ _ | refine Below.setCell ?_ (by simp) _ | refine Below.alloc ?_ (by simp; omega) _ | refine Below.alloc ?_ (by simp) _)⟩
theorem mk5 (n : Nat) (hn : n ≤ 1048576) (w : World) : (Instr.makeSlice 43 (.int .i64 n) (.int .i64 n)).run Try.prog w = .ok (.slice (some ⟨w.heap.size, 0, none⟩) n n) (w.alloc (.cells (madeCells #[.int .i64 0, .int .i64 0, .bool false, .bool false, .int .i64 0] (n * 5)) 50)) := by
  obtain ⟨i, hi, hz, hsz, hby⟩ := info_parts (show (Try.prog.info? 50).map (fun i => (i.zero, i.size, i.bytes)) = some (some (.agg #[.int .i64 0, .int .i64 0, .bool false, .bool false, .int .i64 0]), 5, 32) by kernel_rfl)
  have hr := run_make (P := Try.prog) w _ _ i _ Try.underlying43 hi hz .i64 .i64 n n (by omega) (by omega) (by rw [hby]; omega) (by omega)
  simp only [Int.toNat_natCast] at hr
  rw [hsz] at hr
  exact hr
theorem mk2 (n : Nat) (hn : n ≤ 1048576) (w : World) : (Instr.makeSlice 27 (.int .i64 n) (.int .i64 n)).run Try.prog w = .ok (.slice (some ⟨w.heap.size, 0, none⟩) n n) (w.alloc (.cells (madeCells #[.int .i64 0, .slice none 0 0] (n * 2)) 45)) := by
  obtain ⟨i, hi, hz, hsz, hby⟩ := info_parts (show (Try.prog.info? 45).map (fun i => (i.zero, i.size, i.bytes)) = some (some (.agg #[.int .i64 0, .slice none 0 0]), 2, 32) by kernel_rfl)
  have hr := run_make (P := Try.prog) w _ _ i _ Try.underlying27 hi hz .i64 .i64 n n (by omega) (by omega) (by rw [hby]; omega) (by omega)
  simp only [Int.toNat_natCast] at hr
  rw [hsz] at hr
  exact hr
theorem cL_toRawFieldS (a : Option Addr) (n c : Nat) (fs : List Fld) (lo : Nat) (w : World) (hn : fs.length = n) (hle : n ≤ 1048576) (hf : FAt w lo a fs) :
    Calls Try.prog 60 #[.slice a n c] w fun e w' => ∃ g, e = .returned (.slice (some ⟨g, 0, none⟩) n n) ∧ FAt w' w.heap.size (some ⟨g, 0, none⟩) fs ∧ Below w.heap.size w w' := by
  have hmk := mk5 n hle
  go_enter Try.func60, Try.ntmps60
  go_wp2_with fail
  go_loopw [4] (fun i wr => ∃ (k : Nat) (arr : Array Value), k ≤ n ∧ i = .int .i64 k ∧ Box wr w.heap.size 50 arr ∧ Fill5 arr n k fs ∧ Below w.heap.size w wr) (fun i _ => n - (intOf i).toNat)
  case atStart => exact ⟨0, _, Nat.zero_le _, rfl, Box.new _ _ _, ⟨size_madeCells _ _, fun j x i v hj => absurd hj (Nat.not_lt_zero _)⟩, (Below.refl _ _).alloc (Nat.le_refl _) _⟩
  case round =>
    obtain ⟨k, arr, hk, rfl, hbox, hfill, hbel⟩ := hrel
    by_cases hlt : k < n
    · obtain ⟨b, off, rfl, _, hb, hc⟩ := hf (by omega)
      have hx : fs[k]? = some fs[k] := List.getElem?_eq_getElem (by omega)
      generalize fs[k] = x at hx
      have hbc := (bcell hbel).1
      have q0 := (hbc b (off + k * 5) hb).trans (hc k x hx 0 _ rfl)
      have q1 := (hbc b (off + k * 5 + 1) hb).trans (hc k x hx 1 _ rfl)
      have q2 := (hbc b (off + k * 5 + 2) hb).trans (hc k x hx 2 _ rfl)
      have q3 := (hbc b (off + k * 5 + 3) hb).trans (hc k x hx 3 _ rfl)
      have q4 := (hbc b (off + k * 5 + 4) hb).trans (hc k x hx 4 _ rfl)
      have hsz := hfill.1
      obtain ⟨u0, e0⟩ := arr_has (cs := arr) (k * 5) (by omega)
      obtain ⟨u1, e1⟩ := arr_has (cs := arr) (k * 5 + 1) (by omega)
      obtain ⟨u2, e2⟩ := arr_has (cs := arr) (k * 5 + 2) (by omega)
      obtain ⟨u3, e3⟩ := arr_has (cs := arr) (k * 5 + 3) (by omega)
      obtain ⟨u4, e4⟩ := arr_has (cs := arr) (k * 5 + 4) (by omega)
      have E0 := Lib.hid e0; have E1 := Lib.hid e1; have E2 := Lib.hid e2; have E3 := Lib.hid e3; have E4 := Lib.hid e4
      have HF := Lib.hid (hfill.next hlt hx)
      clear hc hbc e0 e1 e2 e3 e4 hsz hfill hf
      have hk0 : (k : Int) < (n : Int) := by omega
      go_wp2_with (go_at_call 63; refine (cL_toRawField x _).mono ?_; rintro e w2 ⟨rfl, hb2⟩; have hb3 := hbox.all hb2; have d0 := hb3.cell _ E0.out; have d1 := hb3.cell _ E1.out; have d2 := hb3.cell _ E2.out; have d3 := hb3.cell _ E3.out; have d4 := hb3.cell _ E4.out; have g0 := hb3.free (k * 5); have g1 := hb3.free (k * 5 + 1); have g2 := hb3.free (k * 5 + 2); have g3 := hb3.free (k * 5 + 3); have g4 := hb3.free (k * 5 + 4))
      go_roundw
      case rel => exact ⟨k + 1, _, by omega, by go_num, ((((hb3.set_ (k * 5) _).set_ (k * 5 + 1) _).set_ (k * 5 + 2) _).set_ (k * 5 + 3) _).set_ (k * 5 + 4) _, HF.out, (((((hbel.trans (hb2.mono hbel.size)).setCell (Nat.le_refl _) _).setCell (Nat.le_refl _) _).setCell (Nat.le_refl _) _).setCell (Nat.le_refl _) _).setCell (Nat.le_refl _) _⟩
      case measure => simp [intOf]; omega
    · obtain rfl : n = k := by omega
      have HF := Lib.hid hfill
      clear hfill
      go_wp2
      go_ret
      exact ⟨_, rfl, HF.out.fat hn.symm hbox (Nat.le_refl _), hbel⟩
theorem Box.at1 (w : World) (o1 : Obj) (T : TypeId) (cs : Array Value) : Box ((w.alloc o1).alloc (.cells cs T)) (w.heap.size + 1) T cs := by
  have h := Box.new (w.alloc o1) T cs
  rw [show (w.alloc o1).heap.size = w.heap.size + 1 by simp] at h
  exact h
theorem Box.at2 (w : World) (o1 o2 : Obj) (T : TypeId) (cs : Array Value) : Box (((w.alloc o1).alloc o2).alloc (.cells cs T)) (w.heap.size + 1 + 1) T cs := by
  have h := Box.new ((w.alloc o1).alloc o2) T cs
  rw [show ((w.alloc o1).alloc o2).heap.size = w.heap.size + 1 + 1 by simp] at h
  exact h
theorem below1 (w : World) (o1 : Obj) : Below w.heap.size w (w.alloc o1) := (Below.refl _ w).alloc (Nat.le_refl _) o1
theorem below2 (w : World) (o1 o2 : Obj) : Below w.heap.size w ((w.alloc o1).alloc o2) := (below1 w o1).alloc (by simp) o2
theorem below3 (w : World) (o1 o2 o3 : Obj) : Below w.heap.size w (((w.alloc o1).alloc o2).alloc o3) := (below2 w o1 o2).alloc (by simp; omega) o3
theorem cL_toRawMsg (id : Int) (a : Option Addr) (n c : Nat) (fs : List Fld) (lo : Nat) (w : World) (hn : fs.length = n) (hle : n ≤ 1048576) (hf : FAt w lo a fs) :
    Calls Try.prog 49 #[.agg #[.int .i64 id, .slice a n c]] w fun e w' => ∃ g, e = .returned (.agg #[.int .i64 id, .slice (some ⟨g, 0, none⟩) n n]) ∧ FAt w' w.heap.size (some ⟨g, 0, none⟩) fs ∧ Below w.heap.size w w' := by
  have hb0 := below3 w (.cells #[.int .i64 id, .slice a n c] 71) (.cells #[.int .i64 0, .slice none 0 0] 45) (.cells #[.int .i64 id, .slice none 0 0] 45)
  have R0 := (Box.at1 w (.cells #[.int .i64 id, .slice a n c] 71) 45 #[.int .i64 0, .slice none 0 0]).alloc (.cells #[.int .i64 id, .slice none 0 0] 45)
  have S0 := Box.at2 w (.cells #[.int .i64 id, .slice a n c] 71) (.cells #[.int .i64 0, .slice none 0 0] 45) 45 #[.int .i64 id, .slice none 0 0]
  have hz : (((w.alloc (.cells #[.int .i64 id, .slice a n c] 71)).alloc (.cells #[.int .i64 0, .slice none 0 0] 45)).alloc (.cells #[.int .i64 id, .slice none 0 0] 45)).heap.size = w.heap.size + 3 := by simp
  go_enter Try.func49, Try.ntmps49
  go_wp2_with fail
  refine (cL_toRawFieldS a n c fs lo _ hn hle (hf.below hb0)).mono ?_
  rintro e w2 ⟨g, rfl, hf2, hb2⟩
  have R := R0.all hb2
  have S := S0.all hb2
  have B := hb0.trans (hb2.mono hb0.size)
  rw [hz] at hf2
  have r0 := R.cell 0 rfl; have r1 := R.cell 1 rfl; have s0 := S.cell 0 rfl; have s1 := S.cell 1 rfl
  have f0 := R.free 0; have f1 := R.free 1; have f2 := S.free 0; have f3 := S.free 1
  clear R0 S0 hz hb0
  go_wp2
  have Z := ((R.far (p := ⟨w.heap.size + 1 + 1, 1, none⟩) (by simp) (.slice (some ⟨g, 0, none⟩) n n)).set_ 0 (.int .i64 id)).set_ 1 (.slice (some ⟨g, 0, none⟩) n n)
  have z0 : World.cell? _ ⟨w.heap.size + 1, 0, none⟩ = some (.int .i64 id) := Z.cell 0 rfl
  have z1 : World.cell? _ ⟨w.heap.size + 1, 1, none⟩ = some (.slice (some ⟨g, 0, none⟩) n n) := Z.cell 1 rfl
  exact bodyPost_ret (v := .agg #[.int .i64 id, .slice (some ⟨g, 0, none⟩) n n]) (by simp [results, Try.results49, go_sem, z0, z1]) rfl ⟨g, rfl, (((hf2.set_ (p := ⟨w.heap.size + 1 + 1, 1, none⟩) (by simp) _).set_ (p := ⟨w.heap.size + 1, 0, none⟩) (by simp) _).set_ (p := ⟨w.heap.size + 1, 1, none⟩) (by simp) _).low (by omega), ((B.setCell (by simp; omega) _).setCell (by simp) _).setCell (by simp) _⟩
theorem cL_toRawMsgS (a : Option Addr) (n c : Nat) (ms : List Msg) (lo : Nat) (w : World) (hn : ms.length = n) (hle : n ≤ 1048576) (hms : ∀ (j : Nat) (m : Msg), ms[j]? = some m → m.fs.length ≤ 1048576) (hf : MAt w lo a ms) :
    Calls Try.prog 26 #[.slice a n c] w fun e w' => ∃ g, e = .returned (.slice (some ⟨g, 0, none⟩) n n) ∧ MAt w' w.heap.size (some ⟨g, 0, none⟩) ms ∧ Below w.heap.size w w' := by
  have hmk := mk2 n hle
  have HMS := Lib.hid hms
  clear hms
  go_enter Try.func26, Try.ntmps26
  go_wp2_with fail
  go_loopw [4] (fun i wr => ∃ (k : Nat) (arr : Array Value), k ≤ n ∧ i = .int .i64 k ∧ Box wr w.heap.size 45 arr ∧ Fill2 wr (w.heap.size + 1) arr n k ms ∧ Below w.heap.size w wr) (fun i _ => n - (intOf i).toNat)
  case atStart => exact ⟨0, _, Nat.zero_le _, rfl, Box.new _ _ _, ⟨size_madeCells _ _, fun j x hj => absurd hj (Nat.not_lt_zero _)⟩, (Below.refl _ _).alloc (Nat.le_refl _) _⟩
  case round =>
    obtain ⟨k, arr, hk, rfl, hbox, hfill, hbel⟩ := hrel
    by_cases hlt : k < n
    · obtain ⟨b, off, rfl, _, hb, hc⟩ := hf (by omega)
      have hx : ms[k]? = some ms[k] := List.getElem?_eq_getElem (by omega)
      generalize ms[k] = m at hx
      obtain ⟨h1, fa, fc, h2, h3, h4⟩ := hc k m hx
      have hbc := (bcell hbel).1
      have q0 := (hbc b (off + k * 2) hb).trans h1
      have q1 := (hbc b (off + k * 2 + 1) hb).trans h2
      have hm := HMS.out k m hx
      have h5 := h4.keep (w' := wr) (fun b _ hb => hbel.block b hb) hbel.size
      have hsz := hfill.1
      obtain ⟨u0, e0⟩ := arr_has (cs := arr) (k * 2) (by omega)
      obtain ⟨u1, e1⟩ := arr_has (cs := arr) (k * 2 + 1) (by omega)
      have E0 := Lib.hid e0; have E1 := Lib.hid e1
      have HF := Lib.hid hfill
      have hgl := hbox.lt
      have HX := Lib.hid hx
      clear hc hbc e0 e1 hsz hfill hf h1 h2 h4 hx
      have hk0 : (k : Int) < (n : Int) := by omega
      go_wp2_with (go_at_call 49; refine (cL_toRawMsg m.id fa _ fc m.fs lo _ rfl hm h5).mono ?_; rintro e w2 ⟨g', rfl, hf2, hb2⟩; have hb3 := hbox.all hb2; have d0 := hb3.cell _ E0.out; have d1 := hb3.cell _ E1.out; have g0 := hb3.free (k * 2); have g1 := hb3.free (k * 2 + 1))
      go_roundw
      case rel => exact ⟨k + 1, _, by omega, by go_num, (hb3.set_ (k * 2) _).set_ (k * 2 + 1) _, (((HF.out.keep (fun b _ hb => hb2.block b hb) hb2.size).next hlt HX.out (Nat.le_refl _) (hf2.low (by omega))).set_ (p := ⟨w.heap.size, k * 2, none⟩) (by simp) _).set_ (p := ⟨w.heap.size, k * 2 + 1, none⟩) (by simp) _, ((hbel.trans (hb2.mono hbel.size)).setCell (Nat.le_refl _) _).setCell (Nat.le_refl _) _⟩
      case measure => simp [intOf]; omega
    · obtain rfl : n = k := by omega
      have HF := Lib.hid hfill
      clear hfill
      go_wp2
      go_ret
      exact ⟨_, rfl, by
        have h := HF.out
        have h2 : Fill2 wr w.heap.size arr n n ms := ⟨h.1, fun j m hj hm => by
          obtain ⟨x1, x2, x3, x4, x5, x6⟩ := h.2 j m hj hm
          exact ⟨x1, x2, x3, x4, x5, x6.low (by omega)⟩⟩
        exact h2.mat hn.symm hbox (Nat.le_refl _), hbel⟩
theorem cL_toRaw (a : Option Addr) (n c : Nat) (ms : List Msg) (lo : Nat) (w : World) (hn : ms.length = n) (hle : n ≤ 1048576) (hms : ∀ (j : Nat) (m : Msg), ms[j]? = some m → m.fs.length ≤ 1048576) (hf : MAt w lo a ms) :
    Calls Try.prog 11 #[.agg #[.slice a n c]] w fun e w' => ∃ g, e = .returned (.agg #[.slice (some ⟨g, 0, none⟩) n n]) ∧ MAt w' w.heap.size (some ⟨g, 0, none⟩) ms ∧ Below w.heap.size w w' := by
  have hb0 := below3 w (.cells #[.slice a n c] 24) (.cells #[.slice none 0 0] 29) (.cells #[.slice none 0 0] 29)
  have R0 := (Box.at1 w (.cells #[.slice a n c] 24) 29 #[.slice none 0 0]).alloc (.cells #[.slice none 0 0] 29)
  have S0 := Box.at2 w (.cells #[.slice a n c] 24) (.cells #[.slice none 0 0] 29) 29 #[.slice none 0 0]
  have hz : (((w.alloc (.cells #[.slice a n c] 24)).alloc (.cells #[.slice none 0 0] 29)).alloc (.cells #[.slice none 0 0] 29)).heap.size = w.heap.size + 3 := by simp
  have HMS := Lib.hid hms
  clear hms
  go_enter Try.func11, Try.ntmps11
  go_wp2_with fail
  refine (cL_toRawMsgS a n c ms lo _ hn hle HMS.out (hf.below hb0)).mono ?_
  rintro e w2 ⟨g, rfl, hf2, hb2⟩
  have R := R0.all hb2
  have S := S0.all hb2
  have B := hb0.trans (hb2.mono hb0.size)
  rw [hz] at hf2
  have r0 := R.cell 0 rfl; have s0 := S.cell 0 rfl
  have f0 := R.free 0; have f2 := S.free 0
  clear R0 S0 hz hb0
  go_wp2
  have Z := (R.far (p := ⟨w.heap.size + 1 + 1, 0, none⟩) (by simp) (.slice (some ⟨g, 0, none⟩) n n)).set_ 0 (.slice (some ⟨g, 0, none⟩) n n)
  have z0 : World.cell? _ ⟨w.heap.size + 1, 0, none⟩ = some (.slice (some ⟨g, 0, none⟩) n n) := Z.cell 0 rfl
  exact bodyPost_ret (v := .agg #[.slice (some ⟨g, 0, none⟩) n n]) (by simp [results, Try.results11, go_sem, z0]) rfl ⟨g, rfl, ((hf2.set_ (p := ⟨w.heap.size + 1 + 1, 0, none⟩) (by simp) _).set_ (p := ⟨w.heap.size + 1, 0, none⟩) (by simp) _).low (by omega), (B.setCell (by simp; omega) _).setCell (by simp) _⟩
/-- what is left of a measure: nothing, or the list is short -/
def SzPost (left : Int) (P : Prop) (w : World) (e : Ending) (w' : World) : Prop := ∃ r : Int, e = .returned (.int .i64 r) ∧ r ≤ left ∧ (0 ≤ r → P) ∧ -1 ≤ r ∧ Below w.heap.size w w'
theorem cL_szRawFieldS (a : Option Addr) (n c : Nat) (left : Int) (w : World) (h0 : 0 ≤ left) (h1 : left ≤ 1048576) (hn : n ≤ 9223372036854775807) :
    Calls Try.prog 59 #[.slice a n c, .int .i64 left] w (SzPost left ((n : Int) ≤ left) w) := by
  by_cases h : left - (n : Int) < 0
  · go_enter Try.func59, Try.ntmps59
    go_wp2
    go_ret
    exact ⟨-1, rfl, by omega, by omega, by omega, Below.refl _ _⟩
  · have h2 : 0 ≤ left - (n : Int) := by omega
    go_enter Try.func59, Try.ntmps59
    go_wp2
    go_ret
    exact ⟨_, rfl, by omega, by omega, by omega, Below.refl _ _⟩
theorem cL_szRawMsg (id : Int) (a : Option Addr) (n c : Nat) (left : Int) (w : World) (h0 : 0 ≤ left) (h1 : left ≤ 1048576) (hn : n ≤ 9223372036854775807) :
    Calls Try.prog 48 #[.agg #[.int .i64 id, .slice a n c], .int .i64 left] w (SzPost left ((n : Int) ≤ left) w) := by
  have hb0 := below1 w (.cells #[.int .i64 id, .slice a n c] 71)
  go_enter Try.func48, Try.ntmps48
  go_wp2_with fail
  refine (cL_szRawFieldS a n c left _ h0 h1 hn).mono ?_
  rintro e w2 ⟨r, rfl, hr1, hr2, hr3, hb2⟩
  have HR := Lib.hid hr2
  clear hr2
  have B := hb0.trans (hb2.mono hb0.size)
  by_cases h : r < 0
  · go_wp2
    go_ret
    exact ⟨-1, rfl, by omega, by omega, by omega, B⟩
  · have h2 : 0 ≤ r := by omega
    go_wp2
    go_ret
    exact ⟨r, rfl, hr1, HR.out, hr3, B⟩
theorem cL_szRawMsgS (a : Option Addr) (n c : Nat) (ms : List Msg) (lo : Nat) (left : Int) (w : World) (h0 : 0 ≤ left) (h1 : left ≤ 1048576) (hn : ms.length = n) (hn2 : n ≤ 9223372036854775807) (hms : ∀ (j : Nat) (m : Msg), ms[j]? = some m → m.fs.length ≤ 9223372036854775807) (hf : MAt w lo a ms) :
    Calls Try.prog 25 #[.slice a n c, .int .i64 left] w (SzPost left ((n : Int) ≤ left ∧ ∀ (j : Nat) (m : Msg), ms[j]? = some m → (m.fs.length : Int) ≤ left) w) := by
  by_cases h : left - (n : Int) < 0
  · go_enter Try.func25, Try.ntmps25
    go_wp2
    go_ret
    exact ⟨-1, rfl, by omega, by omega, by omega, Below.refl _ _⟩
  · have h2 : 0 ≤ left - (n : Int) := by omega
    have HMS := Lib.hid hms
    clear hms
    go_enter Try.func25, Try.ntmps25
    go_wp2_with fail
    go_loopw [1, 5] (fun l i wr => ∃ (k : Nat) (x : Int), k ≤ n ∧ 0 ≤ x ∧ x ≤ left ∧ l = .int .i64 x ∧ i = .int .i64 k ∧ (∀ (j : Nat) (m : Msg), j < k → ms[j]? = some m → (m.fs.length : Int) ≤ left) ∧ Below w.heap.size w wr) (fun _ i _ => n - (intOf i).toNat)
    case atStart => exact ⟨0, _, Nat.zero_le _, h2, by omega, rfl, rfl, fun j m hj => absurd hj (Nat.not_lt_zero _), Below.refl _ _⟩
    case round =>
      obtain ⟨k, x, hk, hx0, hx1, rfl, rfl, hall, hbel⟩ := hrel
      have HA := Lib.hid hall
      clear hall
      by_cases hlt : k < n
      · obtain ⟨b, off, rfl, _, hb, hc⟩ := hf (by omega)
        have hx : ms[k]? = some ms[k] := List.getElem?_eq_getElem (by omega)
        generalize ms[k] = m at hx
        obtain ⟨g1, fa, fc, g2, g3, g4⟩ := hc k m hx
        have hbc := (bcell hbel).1
        have q0 := (hbc b (off + k * 2) hb).trans g1
        have q1 := (hbc b (off + k * 2 + 1) hb).trans g2
        have hm := HMS.out k m hx
        have HX := Lib.hid hx
        clear hc hbc hf g1 g2 g4 hx
        have hk0 : (k : Int) < (n : Int) := by omega
        go_wp2_with (go_at_call 48; refine (cL_szRawMsg m.id fa _ fc x _ hx0 (by omega) hm).mono ?_; rintro e w2 ⟨r, rfl, hr1, hr2, hr3, hb2⟩; have HR := Lib.hid hr2; clear hr2; refine Hid.out ?_)
        refine Lib.hid ?_
        have B := hbel.trans (hb2.mono hbel.size)
        by_cases hr : r < 0
        · go_wp2
          go_ret
          exact ⟨-1, rfl, by omega, by omega, by omega, B⟩
        · have hr' : 0 ≤ r := by omega
          go_wp2
          go_roundw
          case rel => exact ⟨k + 1, r, by omega, hr', by omega, rfl, by go_num, fun j y hj hy => by
            rcases Nat.lt_or_ge j k with h' | h'
            · exact HA.out j y h' hy
            · obtain rfl : j = k := by omega
              obtain rfl : m = y := Option.some.inj (HX.out.symm.trans hy)
              have := HR.out hr'
              omega, B⟩
          case measure => simp [intOf]; omega
      · obtain rfl : n = k := by omega
        go_wp2
        go_ret
        exact ⟨x, rfl, hx1, fun _ => ⟨by omega, fun j m hm => HA.out j m (by have := (List.getElem?_eq_some_iff.1 hm).1; omega) hm⟩, by omega, hbel⟩
theorem cL_szRaw (a : Option Addr) (n c : Nat) (ms : List Msg) (lo : Nat) (left : Int) (w : World) (h0 : 0 ≤ left) (h1 : left ≤ 1048576) (hn : ms.length = n) (hn2 : n ≤ 9223372036854775807) (hms : ∀ (j : Nat) (m : Msg), ms[j]? = some m → m.fs.length ≤ 9223372036854775807) (hf : MAt w lo a ms) :
    Calls Try.prog 9 #[.agg #[.slice a n c], .int .i64 left] w (SzPost left ((n : Int) ≤ left ∧ ∀ (j : Nat) (m : Msg), ms[j]? = some m → (m.fs.length : Int) ≤ left) w) := by
  have hb0 := below1 w (.cells #[.slice a n c] 24)
  have HMS := Lib.hid hms
  clear hms
  go_enter Try.func9, Try.ntmps9
  go_wp2_with fail
  refine (cL_szRawMsgS a n c ms lo left _ h0 h1 hn hn2 HMS.out (hf.below hb0)).mono ?_
  rintro e w2 ⟨r, rfl, hr1, hr2, hr3, hb2⟩
  have HR := Lib.hid hr2
  clear hr2
  have B := hb0.trans (hb2.mono hb0.size)
  by_cases h : r < 0
  · go_wp2
    go_ret
    exact ⟨-1, rfl, by omega, by omega, by omega, B⟩
  · have h2 : 0 ≤ r := by omega
    go_wp2
    go_ret
    exact ⟨r, rfl, hr1, HR.out, hr3, B⟩
end Go.Proofs.Ytcoghgpgfaifaaa
