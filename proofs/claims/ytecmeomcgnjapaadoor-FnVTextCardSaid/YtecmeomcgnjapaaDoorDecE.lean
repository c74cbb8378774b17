/- Contracts of both Number, and the walks of the exact laws of Long, LongOf and Number. Conditions: the library's table of powers and its two errors stand in memory. -/
import Derived.Test.YtecmeomcgnjapaaDoorDecD
namespace Go.Proofs.YtecmeomcgnjapaaDoor
open Go.RowKit Go.Sort
set_option linter.unusedVariables false
set_option linter.unusedSimpArgs false
/-- what Number hands back -/
def numV (o : Option Nat) : Value := .tuple #[.int .i64 ((o.getD 0 : Nat) : Int), .bool o.isSome]
theorem longV_some (u : Nat) : longV (some u) = .tuple #[.int .u64 (u : Int), .bool true] := rfl
theorem longV_none : longV none = .tuple #[.int .u64 0, .bool false] := rfl
set_option maxRecDepth 20000 in
theorem cP_Number (s : ByteArray) (w : World) (hsz : s.size ≤ 1048576) :
    Calls Tryd.prog 16 #[.string s] w fun e w' => e = .returned (numV (numOf s.data.toList)) ∧ Below w.heap.size w w' := by
  have hc := cP_LongOf s w hsz
  cases hl : longOf s.data.toList with
  | none =>
    have HE := Lib.hid (numOf_none hl)
    rw [hl, longV_none] at hc
    clear hl
    go_enter Tryd.func16, Tryd.ntmps16
    go_wp2_with (go_at_call 14; refine hc.mono ?_; rintro e w' ⟨rfl, hb⟩)
    go_ret2
    exact ⟨by rw [HE.out]; rfl, hb⟩
  | some u =>
    rw [hl, longV_some] at hc
    by_cases hu : u ≤ 999999999
    · have HE := Lib.hid (numOf_some hl hu)
      clear hl
      have hu1 : (u : Int) ≤ 999999999 := by omega
      have hw : wrap64 (u : Int) = (u : Int) := by unfold wrap64; omega
      go_enter Tryd.func16, Tryd.ntmps16
      go_wp2_with (go_at_call 14; refine hc.mono ?_; rintro e w' ⟨rfl, hb⟩)
      go_ret2
      exact ⟨by rw [HE.out]; rfl, hb⟩
    · have HE := Lib.hid (numOf_big hl hu)
      clear hl
      have hu1 : 999999999 < (u : Int) := by omega
      go_enter Tryd.func16, Tryd.ntmps16
      go_wp2_with (go_at_call 14; refine hc.mono ?_; rintro e w' ⟨rfl, hb⟩)
      go_ret2
      exact ⟨by rw [HE.out]; rfl, hb⟩
set_option maxRecDepth 20000 in
theorem cI_Digits (n : Int) (w : World) (h0 : -9223372036854775808 ≤ n) (h1 : n ≤ 9223372036854775807) (hp : Pow w) :
    Calls Tryd.prog 13 #[.int .i64 n] w fun e w' => e = .returned (.string (tx (Lib.itoa n))) ∧ Below w.heap.size w w' := c_Itoa n w h0 h1 hp
set_option maxRecDepth 20000 in
theorem cI_Number (s : ByteArray) (w : World) (hsz : s.size ≤ 1048576) (hp : Pow w) (hv : ErrV w) :
    Calls Tryd.prog 17 #[.string s] w fun e w' => e = .returned (numV (numOf s.data.toList)) ∧ Below w.heap.size w w' := by
  obtain ⟨⟨t1, p1, hv1⟩, t2, p2, hv2⟩ := hv
  cases h : Lib.atoiAll s.data.toList with
  | «syntax» =>
    have HE := Lib.hid (num_atoi_no (l := s.data.toList) (fun v e => by rw [h] at e; cases e))
    go_enter Tryd.func17, Tryd.ntmps17
    go_wp2_with (go_at_call 29; refine (Tryd.strconv_Atoi_syntax_var s (by omega) h t1 p1 _ hv1).mono ?_; rintro e w' ⟨N, rfl, _, _, hb⟩)
    go_ret2
    exact ⟨by rw [HE.out]; rfl, hb⟩
  | range =>
    have HE := Lib.hid (num_atoi_no (l := s.data.toList) (fun v e => by rw [h] at e; cases e))
    have hcon := Tryd.strconv_Atoi_range_var s (by omega) h t2 p2 w hv2
    generalize Lib.atoiSat s.data.toList = sat at hcon
    clear h
    go_enter Tryd.func17, Tryd.ntmps17
    go_wp2_with (go_at_call 29; refine hcon.mono ?_; rintro e w' ⟨N, rfl, _, _, hb⟩)
    go_ret2
    exact ⟨by rw [HE.out]; rfl, hb⟩
  | ok v =>
    obtain ⟨b0, b1⟩ := Lib.atoiAll_bounds h
    have hpb : ∀ w w' : World, (w' = w ∨ ∃ t, w' = Lib.bytesWorld w 5 t) → Below w.heap.size w w' := by
      rintro w w' (rfl | ⟨t, rfl⟩)
      · exact Below.refl _ _
      · exact bytes_below _ _
    have hat := fun w => Tryd.strconv_Atoi_ok s (by omega) v h w
    by_cases hr : 0 ≤ v ∧ v ≤ 999999999
    · have hin : inB v 0 999999999 = true := by unfold inB; simp; omega
      have hcon := fun (w w' : World) (h : Pow w) (hb : Below w.heap.size w w') => cI_Digits v w' (by omega) (by omega) (h.below hb)
      by_cases he : Lib.itoa v = s.data.toList
      · have HE := Lib.hid (num_atoi_eq hr.1 hr.2 he)
        have HV : Hid (numV (some v.toNat) = .tuple #[.int .i64 v, .bool true]) := Lib.hid (by show Value.tuple #[.int .i64 ((v.toNat : Nat) : Int), .bool true] = _; rw [Int.toNat_of_nonneg hr.1])
        have HS : Hid (tx (Lib.itoa v) = s) := Lib.hid (by rw [he, tx_data])
        rw [HS.out] at hcon
        clear he h
        go_enter Tryd.func17, Tryd.ntmps17
        go_wp2_with (first
          | (go_at_call 29; refine (hat _).mono ?_; rintro e w1 ⟨rfl, hw1⟩; have hb1 := hpb _ _ hw1; clear hw1)
          | (go_at_call 30; refine (cI_within _ _ _ _).mono ?_; rw [hin]; rintro e w' ⟨rfl, rfl⟩)
          | (go_at_call 13; refine (hcon _ _ hp hb1).mono ?_; rintro e w2 ⟨rfl, hb2⟩))
        go_ret2
        exact ⟨by rw [HE.out, HV.out]; rfl, hb1.trans (hb2.mono hb1.size)⟩
      · have HE := Lib.hid (num_atoi_ne h he)
        have hne := beq_no (a := tx (Lib.itoa v)) (b := s) (by simpa [tx] using he)
        generalize tx (Lib.itoa v) = tt at hcon hne
        clear he h
        go_enter Tryd.func17, Tryd.ntmps17
        go_wp2_with (first
          | (go_at_call 29; refine (hat _).mono ?_; rintro e w1 ⟨rfl, hw1⟩; have hb1 := hpb _ _ hw1; clear hw1)
          | (go_at_call 30; refine (cI_within _ _ _ _).mono ?_; rw [hin]; rintro e w' ⟨rfl, rfl⟩)
          | (go_at_call 13; refine (hcon _ _ hp hb1).mono ?_; rintro e w2 ⟨rfl, hb2⟩))
        go_ret2
        exact ⟨by rw [HE.out]; rfl, hb1.trans (hb2.mono hb1.size)⟩
    · have hin : inB v 0 999999999 = false := by unfold inB; simp; omega
      have HE := Lib.hid (num_atoi_out h (by omega))
      clear h
      go_enter Tryd.func17, Tryd.ntmps17
      go_wp2_with (first
        | (go_at_call 29; refine (hat _).mono ?_; rintro e w1 ⟨rfl, hw1⟩; have hb1 := hpb _ _ hw1; clear hw1)
        | (go_at_call 30; refine (cI_within _ _ _ _).mono ?_; rw [hin]; rintro e w' ⟨rfl, rfl⟩))
      go_ret2
      exact ⟨by rw [HE.out]; rfl, hb1⟩
theorem walkFnExactLong (n : Int) (w : World) (h : (Lit.int .u64 n).wf = true) (hp : Pow w) : Calls Tryd.prog 3 #[.int .u64 n] w fun e w' => e = .returned (.bool true) ∧ Below w.heap.size w w' := by
  obtain ⟨h0, h1⟩ := u64_bd h
  clear h
  obtain ⟨u, rfl⟩ := Int.eq_ofNat_of_zero_le h0
  have hu : u < 18446744073709551616 := by omega
  clear h0 h1
  have c1 := fun w => cP_Long u hu w
  have c2 := fun w hp => cI_Long u hu w hp
  generalize tx (Lib.decDigits u) = t at c1 c2
  go_enter Tryd.func3, Tryd.ntmps3
  go_wp2_with fail
  refine (c1 _).mono ?_
  rintro e w1 ⟨rfl, hb1⟩
  go_wp2_with fail
  refine (c2 _ (hp.below hb1)).mono ?_
  rintro e w2 ⟨rfl, hb2⟩
  go_wp2
  go_ret
  exact ⟨rfl, hb1.trans (hb2.mono hb1.size)⟩
theorem walkFnExactLongOf (s : ByteArray) (w : World) (h : s.size ≤ maxLen) (hp : Pow w) (hv : ErrV w) : Calls Tryd.prog 5 #[.string s] w fun e w' => e = .returned (.bool true) ∧ Below w.heap.size w w' := by
  by_cases hb : 1048576 < s.size
  · have hb' : (1048576 : Int) < (s.size : Int) := by omega
    go_enter Tryd.func5, Tryd.ntmps5
    go_wp2
    go_ret
    exact ⟨rfl, Below.refl _ _⟩
  · have hb' : (s.size : Int) ≤ 1048576 := by omega
    have c1 := fun w => cP_LongOf s w (by omega)
    have c2 := fun w hp hv => cI_LongOf s w (by omega) hp hv
    unfold longV at c1 c2
    generalize longOf s.data.toList = o at c1 c2
    generalize ((o.getD 0 : Nat) : Int) = x at c1 c2
    generalize o.isSome = y at c1 c2
    go_enter Tryd.func5, Tryd.ntmps5
    go_wp2_with fail
    refine (c1 _).mono ?_
    rintro e w1 ⟨rfl, hb1⟩
    go_wp2_with fail
    refine (c2 _ (hp.below hb1) (hv.below hb1)).mono ?_
    rintro e w2 ⟨rfl, hb2⟩
    go_wp2
    go_ret
    exact ⟨ret_bool (by first | rfl | simp), hb1.trans (hb2.mono hb1.size)⟩
theorem walkFnExactNumber (s : ByteArray) (w : World) (h : s.size ≤ maxLen) (hp : Pow w) (hv : ErrV w) : Calls Tryd.prog 6 #[.string s] w fun e w' => e = .returned (.bool true) ∧ Below w.heap.size w w' := by
  by_cases hb : 1048576 < s.size
  · have hb' : (1048576 : Int) < (s.size : Int) := by omega
    go_enter Tryd.func6, Tryd.ntmps6
    go_wp2
    go_ret
    exact ⟨rfl, Below.refl _ _⟩
  · have hb' : (s.size : Int) ≤ 1048576 := by omega
    have c1 := fun w => cP_Number s w (by omega)
    have c2 := fun w hp hv => cI_Number s w (by omega) hp hv
    unfold numV at c1 c2
    generalize numOf s.data.toList = o at c1 c2
    generalize ((o.getD 0 : Nat) : Int) = x at c1 c2
    generalize o.isSome = y at c1 c2
    go_enter Tryd.func6, Tryd.ntmps6
    go_wp2_with fail
    refine (c1 _).mono ?_
    rintro e w1 ⟨rfl, hb1⟩
    go_wp2_with fail
    refine (c2 _ (hp.below hb1) (hv.below hb1)).mono ?_
    rintro e w2 ⟨rfl, hb2⟩
    go_wp2
    go_ret
    exact ⟨ret_bool (by first | rfl | simp), hb1.trans (hb2.mono hb1.size)⟩
end Go.Proofs.YtecmeomcgnjapaaDoor
