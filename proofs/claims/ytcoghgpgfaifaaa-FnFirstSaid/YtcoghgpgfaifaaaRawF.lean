/- Contracts of both FieldCode. Conditions: the description can be read. -/
import Derived.Test.YtcoghgpgfaifaaaRawI
namespace Go.Proofs.Ytcoghgpgfaifaaa
open Go.RowKit
set_option linter.unusedVariables false
set_option linter.unusedSimpArgs false
def fldCode (ms : List Msg) (fs : List Fld) (J : Nat) (x : Fld) : Int :=
  if numberOk x.n then (if hasNum (fs.take J) x.n then 6 else if inB x.k 1 8 then (if x.p && (!x.r || !inB x.k 1 5) then 8 else if (x.k == 8 && !hasId ms x.f) || (!(x.k == 8) && !(x.f == 0)) then 9 else 0) else 7) else 5
def fieldCode (ms : List Msg) (i j : Int) : Int :=
  if inB i 0 ((ms.length : Int) - 1) then
    match ms[i.toNat]? with
    | some m => if inB j 0 ((m.fs.length : Int) - 1) then (match m.fs[j.toNat]? with | some x => fldCode ms m.fs j.toNat x | none => 0) else 0
    | none => 0
  else 0
theorem fieldCode_at {ms : List Msg} {I J : Nat} {m : Msg} {x : Fld} (hm : ms[I]? = some m) (hx : m.fs[J]? = some x) : fieldCode ms (I : Int) (J : Int) = fldCode ms m.fs J x := by
  have h1 := (List.getElem?_eq_some_iff.1 hm).1
  have h2 := (List.getElem?_eq_some_iff.1 hx).1
  unfold fieldCode
  rw [inB_mk (by omega) (by omega), Int.toNat_natCast, hm]
  simp only
  rw [inB_mk (by omega) (by omega), Int.toNat_natCast, hx]
  simp only [if_true]
set_option maxHeartbeats 2000000 in
theorem cP_FieldCode (a : Option Addr) (n c : Nat) (ms : List Msg) (i j : Int) (w : World) (hn : ms.length = n) (hle : n ≤ 1048576) (hcap : n ≤ c) (hms : ∀ (j : Nat) (m : Msg), ms[j]? = some m → m.fs.length ≤ 1048576) (hf : MAt w 0 a ms) :
    Calls Try.prog 16 #[.agg #[.slice a n c], .int .i64 i, .int .i64 j] w fun e w' => e = .returned (.int .i64 (fieldCode ms i j)) ∧ Below w.heap.size w w' := by
  have hb0 := below1 w (.cells #[.slice a n c] 29)
  have R0 := Box.new w 29 #[.slice a n c]
  have r0 := R0.cell 0 rfl
  rcases h1 : inB i 0 ((n : Int) - 1) with _ | _
  · have HE : Hid (fieldCode ms i j = 0) := Lib.hid (by unfold fieldCode; rw [hn, h1]; rfl)
    go_enter Try.func16, Try.ntmps16
    go_wp2_with (go_at_call 31; refine (cP_in _ _ _ _).mono ?_; rw [h1]; rintro e w' ⟨rfl, rfl⟩)
    go_ret
    exact ⟨by rw [HE.out]; rfl, hb0⟩
  · obtain ⟨h2, h3⟩ := inB_yes h1
    obtain ⟨I, rfl⟩ := Int.eq_ofNat_of_zero_le h2
    have hIn : I < n := by omega
    have hf0 := hf
    obtain ⟨b, off, rfl, _, hb, hc⟩ := hf (by omega)
    have hx : ms[I]? = some ms[I] := List.getElem?_eq_getElem (by omega)
    generalize ms[I] = m at hx
    have hfl := hms I m hx
    obtain ⟨g1, fa, fc, g2, g3, g4⟩ := hc I m hx
    have q0 := bkeep (hb0.block b hb) g1
    have q1 := bkeep (hb0.block b hb) g2
    have hi0 : (I : Int) < (n : Int) := by omega
    have HM := Lib.hid hx
    have HMS := Lib.hid hms
    clear hx hms
    rcases h4 : inB j 0 ((m.fs.length : Int) - 1) with _ | _
    · have HE : Hid (fieldCode ms (I : Int) j = 0) := Lib.hid (by unfold fieldCode; rw [hn, h1, Int.toNat_natCast, HM.out]; simp only; rw [h4]; rfl)
      go_enter Try.func16, Try.ntmps16
      go_wp2_with (go_at_call 31; refine (cP_in _ _ _ _).mono ?_; (first | rw [h1] | rw [h4]); rintro e w' ⟨rfl, rfl⟩)
      go_ret
      exact ⟨by rw [HE.out]; rfl, hb0⟩
    · obtain ⟨h5, h6⟩ := inB_yes h4
      obtain ⟨J, rfl⟩ := Int.eq_ofNat_of_zero_le h5
      have hJn : J < m.fs.length := by omega
      obtain ⟨fb, fo, rfl, _, hfb, hfc⟩ := g4 (by omega)
      have hy : m.fs[J]? = some m.fs[J] := List.getElem?_eq_getElem hJn
      generalize m.fs[J] = x at hy
      obtain ⟨xn, xk, xr, xp, xf⟩ := x
      obtain ⟨z0, z1, z2, z3, z4⟩ := (F5.of hfc hy).below hb0 hfb
      simp only at z0 z1 z2 z3 z4
      have hj0 : (J : Int) < (m.fs.length : Int) := by omega
      have HX : Hid (fieldCode ms (I : Int) (J : Int) = fldCode ms m.fs J ⟨xn, xk, xr, xp, xf⟩) := Lib.hid (fieldCode_at HM.out hy)
      have hJc : (J : Int) ≤ (fc : Int) := by omega
      have hJc' : (J : Int) ≤ (m.fs.length : Int) := by omega
      have hb1 := below2 w (.cells #[.slice (some ⟨b, off, none⟩) n c] 29) (.cells #[.int .i64 xn, .int .i64 xk, .bool xr, .bool xp, .int .i64 xf] 50)
      have R1 := R0.alloc (.cells #[.int .i64 xn, .int .i64 xk, .bool xr, .bool xp, .int .i64 xf] 50)
      have S1 := Box.at1 w (.cells #[.slice (some ⟨b, off, none⟩) n c] 29) 50 #[.int .i64 xn, .int .i64 xk, .bool xr, .bool xp, .int .i64 xf]
      clear hy
      have HC := cP_l6HasNumber (some ⟨fb, fo, none⟩) J fc (m.fs.take J) xn ((w.alloc (.cells #[.slice (some ⟨b, off, none⟩) n c] 29)).alloc (.cells #[.int .i64 xn, .int .i64 xk, .bool xr, .bool xp, .int .i64 xf] 50)).drew (by rw [List.length_take]; omega) (by omega) (show FAt ((w.alloc (.cells #[.slice (some ⟨b, off, none⟩) n c] 29)).alloc (.cells #[.int .i64 xn, .int .i64 xk, .bool xr, .bool xp, .int .i64 xf] 50)).drew 0 (some ⟨fb, fo, none⟩) (m.fs.take J) from fun _ => ⟨fb, fo, rfl, Nat.zero_le _, Nat.lt_of_lt_of_le hfb hb1.size, fun j x hx i v hv => bkeep (hb1.block fb hfb) (hfc j x (by rw [List.getElem?_take] at hx; split at hx; exact hx; cases hx) i v hv)⟩)
      rcases hNO : numberOk xn with _ | _
      · have HE : Hid (fieldCode ms (I : Int) (J : Int) = 5) := Lib.hid (by rw [HX.out]; unfold fldCode; simp [hNO])
        clear HX
        go_enter Try.func16, Try.ntmps16
        go_wp2_with (first
          | (go_at_call 31; refine (cP_in _ _ _ _).mono ?_; (first | rw [h1] | rw [h4]); rintro e w' ⟨rfl, rfl⟩)
          | (go_at_call 36; refine (cP_NumberOk _ _).mono ?_; rw [hNO]; rintro e w' ⟨rfl, rfl⟩))
        go_ret
        exact ⟨by rw [HE.out]; rfl, hb1⟩
      · rcases hHN : hasNum (m.fs.take J) xn with _ | _
        · rw [hHN] at HC
          rcases hK : inB xk 1 8 with _ | _
          · have HE : Hid (fieldCode ms (I : Int) (J : Int) = 7) := Lib.hid (by rw [HX.out]; unfold fldCode; simp [hNO, hHN, hK])
            clear HX
            go_enter Try.func16, Try.ntmps16
            go_wp2_with (first
              | (go_at_call 31; refine (cP_in _ _ _ _).mono ?_; (first | rw [h1] | rw [h4]); rintro e w' ⟨rfl, rfl⟩)
              | (go_at_call 36; refine (cP_NumberOk _ _).mono ?_; rw [hNO]; rintro e w' ⟨rfl, rfl⟩))
            refine wp_region_held_drew (S := fun w' => w' = _) (by kernel_rfl) (rfl) (fun hHeld => ?_)
            refine wpAnyH_take (i := 0) (oi := { dst := some 45, op := Op.move (Operand.tmp 7), type := 43, pos := _, after := #[], guard := none }) (v := ?_) rfl (by kernel_rfl) (by kernel_rfl) (by kernel_rfl) (fun _ _ _ h => h) (Or.inl ⟨by kernel_rfl, ?_⟩) (by assumption) ?_
            rotate_left
            · intro w hSw; subst hSw; go_simp; first | done | (with_reducible rfl) | (rw [if_neg (by omega)])
            try simp only [Act.put, List.setIfInBounds_toArray, List.set_cons_zero, List.set_cons_succ]
            refine wpAnyH_take (i := 1) (oi := { dst := some 46, op := Op.move (Operand.tmp 2), type := 3, pos := _, after := #[], guard := none }) (v := ?_) rfl (by kernel_rfl) (by kernel_rfl) (by kernel_rfl) (fun _ _ _ h => h) (Or.inl ⟨by kernel_rfl, ?_⟩) (by assumption) ?_
            rotate_left
            · intro w hSw; subst hSw; go_simp; first | done | (with_reducible rfl) | (rw [if_neg (by omega)])
            try simp only [Act.put, List.setIfInBounds_toArray, List.set_cons_zero, List.set_cons_succ]
            refine wpAnyH_take (i := 2) (oi := { dst := some 47, op := Op.slice 43 (Operand.tmp 45) none (some (Operand.tmp 46)) none, type := 43, pos := _, after := #[{ on := 0, ground := Ground.data }, { on := 1, ground := Ground.data }], guard := none }) (v := ?_) rfl (by kernel_rfl) (by kernel_rfl) (by kernel_rfl) (fun _ _ _ h => h) (Or.inl ⟨by kernel_rfl, ?_⟩) (by assumption) ?_
            rotate_left
            · intro w hSw; subst hSw; go_simp; first | done | (with_reducible rfl) | (rw [if_neg (by omega)])
            try simp only [Act.put, List.setIfInBounds_toArray, List.set_cons_zero, List.set_cons_succ]
            refine wpAnyH_take (i := 3) (oi := { dst := some 48, op := Op.fieldAddr 50 (Operand.tmp 8) 0, type := 0, pos := _, after := #[], guard := none }) (v := ?_) rfl (by kernel_rfl) (by kernel_rfl) (by kernel_rfl) (fun _ _ _ h => h) (Or.inl ⟨by kernel_rfl, ?_⟩) (by assumption) ?_
            rotate_left
            · intro w hSw; subst hSw; go_simp; first | done | (with_reducible rfl) | (rw [if_neg (by omega)])
            try simp only [Act.put, List.setIfInBounds_toArray, List.set_cons_zero, List.set_cons_succ]
            refine wpAnyH_take (i := 4) (oi := { dst := some 49, op := Op.load 3 (Operand.tmp 48), type := 3, pos := _, after := #[{ on := 3, ground := Ground.data }], guard := none }) (v := ?_) rfl (by kernel_rfl) (by kernel_rfl) (by kernel_rfl) (fun _ _ _ h => h) (Or.inl ⟨by kernel_rfl, ?_⟩) (by assumption) ?_
            rotate_left
            · intro w hSw; subst hSw; go_simp; first | done | (with_reducible rfl) | (rw [if_neg (by omega)])
            try simp only [Act.put, List.setIfInBounds_toArray, List.set_cons_zero, List.set_cons_succ]
            refine wpAnyH_ready (rs := [5]) (by kernel_rfl) (by simp) ?_
            refine AllReadyH.cons (o := { dst := some 50, op := Op.call { callee := Callee.value (Operand.func 37), args := #[Operand.tmp 47, Operand.tmp 49], argTypes := #[43, 3] }, type := 4, pos := _, after := #[{ on := 2, ground := Ground.data }, { on := 4, ground := Ground.data }], guard := none }) rfl (fun K hK => ?_) AllReadyH.nil
            rw [if_pos (by kernel_rfl)]
            go_simp
            go_at_call 37
            refine HC.mono ?_
            rintro e w' ⟨rfl, rfl⟩
            go_wp2_with fail
            refine hK.out _ _ rfl (fun hHeld2 => ?_)
            clear hK K
            try simp only [Act.put, List.setIfInBounds_toArray, List.set_cons_zero, List.set_cons_succ]
            refine wpAnyH_take (i := 6) (oi := { dst := some 44, op := Op.assign (Operand.tmp 50), type := 4, pos := _, after := #[{ on := 5, ground := Ground.data }, { on := 5, ground := Ground.chain }], guard := none }) (v := ?_) rfl (by kernel_rfl) (by kernel_rfl) (by kernel_rfl) (fun _ _ _ h => h) (Or.inl ⟨by kernel_rfl, ?_⟩) (by assumption) ?_
            rotate_left
            · intro w hSw; subst hSw; go_simp; first | done | (with_reducible rfl) | (rw [if_neg (by omega)])
            try simp only [Act.put, List.setIfInBounds_toArray, List.set_cons_zero, List.set_cons_succ]
            refine wpAnyH_done (by kernel_rfl) ?_ _
            skip
            go_wp2_with (first
              | (go_at_call 38; refine (cP_Kind _ _).mono ?_; rw [hK]; rintro e w' ⟨rfl, rfl⟩)
              | (go_at_call 39; refine (cP_Numeric _ _).mono ?_; rw [hN5]; rintro e w' ⟨rfl, rfl⟩))
            go_ret
            exact ⟨by rw [HE.out]; rfl, hb1.drew⟩
          · rcases hN5 : inB xk 1 5 with _ | _
            · rcases xp with _ | _
              · rcases xr with _ | _
                · rcases h8 : (xk == 8) with _ | _
                  · have n8 : ¬ xk = 8 := by simpa using h8
                    have mn8 : (xk != 8) = true := by simpa using n8
                    rcases h0 : (xf == 0) with _ | _
                    · have n0 : ¬ xf = 0 := by simpa using h0
                      have mn0 : (xf != 0) = true := by simpa using n0
                      have HE : Hid (fieldCode ms (I : Int) (J : Int) = 9) := Lib.hid (by rw [HX.out]; unfold fldCode; simp [hNO, hHN, hK, hN5, h8, h0])
                      clear HX
                      go_enter Try.func16, Try.ntmps16
                      go_wp2_with (first
                        | (go_at_call 31; refine (cP_in _ _ _ _).mono ?_; (first | rw [h1] | rw [h4]); rintro e w' ⟨rfl, rfl⟩)
                        | (go_at_call 36; refine (cP_NumberOk _ _).mono ?_; rw [hNO]; rintro e w' ⟨rfl, rfl⟩))
                      refine wp_region_held_drew (S := fun w' => w' = _) (by kernel_rfl) (rfl) (fun hHeld => ?_)
                      refine wpAnyH_take (i := 0) (oi := { dst := some 45, op := Op.move (Operand.tmp 7), type := 43, pos := _, after := #[], guard := none }) (v := ?_) rfl (by kernel_rfl) (by kernel_rfl) (by kernel_rfl) (fun _ _ _ h => h) (Or.inl ⟨by kernel_rfl, ?_⟩) (by assumption) ?_
                      rotate_left
                      · intro w hSw; subst hSw; go_simp; first | done | (with_reducible rfl) | (rw [if_neg (by omega)])
                      try simp only [Act.put, List.setIfInBounds_toArray, List.set_cons_zero, List.set_cons_succ]
                      refine wpAnyH_take (i := 1) (oi := { dst := some 46, op := Op.move (Operand.tmp 2), type := 3, pos := _, after := #[], guard := none }) (v := ?_) rfl (by kernel_rfl) (by kernel_rfl) (by kernel_rfl) (fun _ _ _ h => h) (Or.inl ⟨by kernel_rfl, ?_⟩) (by assumption) ?_
                      rotate_left
                      · intro w hSw; subst hSw; go_simp; first | done | (with_reducible rfl) | (rw [if_neg (by omega)])
                      try simp only [Act.put, List.setIfInBounds_toArray, List.set_cons_zero, List.set_cons_succ]
                      refine wpAnyH_take (i := 2) (oi := { dst := some 47, op := Op.slice 43 (Operand.tmp 45) none (some (Operand.tmp 46)) none, type := 43, pos := _, after := #[{ on := 0, ground := Ground.data }, { on := 1, ground := Ground.data }], guard := none }) (v := ?_) rfl (by kernel_rfl) (by kernel_rfl) (by kernel_rfl) (fun _ _ _ h => h) (Or.inl ⟨by kernel_rfl, ?_⟩) (by assumption) ?_
                      rotate_left
                      · intro w hSw; subst hSw; go_simp; first | done | (with_reducible rfl) | (rw [if_neg (by omega)])
                      try simp only [Act.put, List.setIfInBounds_toArray, List.set_cons_zero, List.set_cons_succ]
                      refine wpAnyH_take (i := 3) (oi := { dst := some 48, op := Op.fieldAddr 50 (Operand.tmp 8) 0, type := 0, pos := _, after := #[], guard := none }) (v := ?_) rfl (by kernel_rfl) (by kernel_rfl) (by kernel_rfl) (fun _ _ _ h => h) (Or.inl ⟨by kernel_rfl, ?_⟩) (by assumption) ?_
                      rotate_left
                      · intro w hSw; subst hSw; go_simp; first | done | (with_reducible rfl) | (rw [if_neg (by omega)])
                      try simp only [Act.put, List.setIfInBounds_toArray, List.set_cons_zero, List.set_cons_succ]
                      refine wpAnyH_take (i := 4) (oi := { dst := some 49, op := Op.load 3 (Operand.tmp 48), type := 3, pos := _, after := #[{ on := 3, ground := Ground.data }], guard := none }) (v := ?_) rfl (by kernel_rfl) (by kernel_rfl) (by kernel_rfl) (fun _ _ _ h => h) (Or.inl ⟨by kernel_rfl, ?_⟩) (by assumption) ?_
                      rotate_left
                      · intro w hSw; subst hSw; go_simp; first | done | (with_reducible rfl) | (rw [if_neg (by omega)])
                      try simp only [Act.put, List.setIfInBounds_toArray, List.set_cons_zero, List.set_cons_succ]
                      refine wpAnyH_ready (rs := [5]) (by kernel_rfl) (by simp) ?_
                      refine AllReadyH.cons (o := { dst := some 50, op := Op.call { callee := Callee.value (Operand.func 37), args := #[Operand.tmp 47, Operand.tmp 49], argTypes := #[43, 3] }, type := 4, pos := _, after := #[{ on := 2, ground := Ground.data }, { on := 4, ground := Ground.data }], guard := none }) rfl (fun K hK => ?_) AllReadyH.nil
                      rw [if_pos (by kernel_rfl)]
                      go_simp
                      go_at_call 37
                      refine HC.mono ?_
                      rintro e w' ⟨rfl, rfl⟩
                      go_wp2_with fail
                      refine hK.out _ _ rfl (fun hHeld2 => ?_)
                      clear hK K
                      try simp only [Act.put, List.setIfInBounds_toArray, List.set_cons_zero, List.set_cons_succ]
                      refine wpAnyH_take (i := 6) (oi := { dst := some 44, op := Op.assign (Operand.tmp 50), type := 4, pos := _, after := #[{ on := 5, ground := Ground.data }, { on := 5, ground := Ground.chain }], guard := none }) (v := ?_) rfl (by kernel_rfl) (by kernel_rfl) (by kernel_rfl) (fun _ _ _ h => h) (Or.inl ⟨by kernel_rfl, ?_⟩) (by assumption) ?_
                      rotate_left
                      · intro w hSw; subst hSw; go_simp; first | done | (with_reducible rfl) | (rw [if_neg (by omega)])
                      try simp only [Act.put, List.setIfInBounds_toArray, List.set_cons_zero, List.set_cons_succ]
                      refine wpAnyH_done (by kernel_rfl) ?_ _
                      skip
                      go_wp2_with (first
                        | (go_at_call 38; refine (cP_Kind _ _).mono ?_; rw [hK]; rintro e w' ⟨rfl, rfl⟩)
                        | (go_at_call 39; refine (cP_Numeric _ _).mono ?_; rw [hN5]; rintro e w' ⟨rfl, rfl⟩))
                      go_ret
                      exact ⟨by rw [HE.out]; rfl, hb1.drew⟩
                    · obtain rfl : xf = 0 := by simpa using h0
                      have HE : Hid (fieldCode ms (I : Int) (J : Int) = 0) := Lib.hid (by rw [HX.out]; unfold fldCode; simp [hNO, hHN, hK, hN5, h8, h0])
                      clear HX
                      go_enter Try.func16, Try.ntmps16
                      go_wp2_with (first
                        | (go_at_call 31; refine (cP_in _ _ _ _).mono ?_; (first | rw [h1] | rw [h4]); rintro e w' ⟨rfl, rfl⟩)
                        | (go_at_call 36; refine (cP_NumberOk _ _).mono ?_; rw [hNO]; rintro e w' ⟨rfl, rfl⟩))
                      refine wp_region_held_drew (S := fun w' => w' = _) (by kernel_rfl) (rfl) (fun hHeld => ?_)
                      refine wpAnyH_take (i := 0) (oi := { dst := some 45, op := Op.move (Operand.tmp 7), type := 43, pos := _, after := #[], guard := none }) (v := ?_) rfl (by kernel_rfl) (by kernel_rfl) (by kernel_rfl) (fun _ _ _ h => h) (Or.inl ⟨by kernel_rfl, ?_⟩) (by assumption) ?_
                      rotate_left
                      · intro w hSw; subst hSw; go_simp; first | done | (with_reducible rfl) | (rw [if_neg (by omega)])
                      try simp only [Act.put, List.setIfInBounds_toArray, List.set_cons_zero, List.set_cons_succ]
                      refine wpAnyH_take (i := 1) (oi := { dst := some 46, op := Op.move (Operand.tmp 2), type := 3, pos := _, after := #[], guard := none }) (v := ?_) rfl (by kernel_rfl) (by kernel_rfl) (by kernel_rfl) (fun _ _ _ h => h) (Or.inl ⟨by kernel_rfl, ?_⟩) (by assumption) ?_
                      rotate_left
                      · intro w hSw; subst hSw; go_simp; first | done | (with_reducible rfl) | (rw [if_neg (by omega)])
                      try simp only [Act.put, List.setIfInBounds_toArray, List.set_cons_zero, List.set_cons_succ]
                      refine wpAnyH_take (i := 2) (oi := { dst := some 47, op := Op.slice 43 (Operand.tmp 45) none (some (Operand.tmp 46)) none, type := 43, pos := _, after := #[{ on := 0, ground := Ground.data }, { on := 1, ground := Ground.data }], guard := none }) (v := ?_) rfl (by kernel_rfl) (by kernel_rfl) (by kernel_rfl) (fun _ _ _ h => h) (Or.inl ⟨by kernel_rfl, ?_⟩) (by assumption) ?_
                      rotate_left
                      · intro w hSw; subst hSw; go_simp; first | done | (with_reducible rfl) | (rw [if_neg (by omega)])
                      try simp only [Act.put, List.setIfInBounds_toArray, List.set_cons_zero, List.set_cons_succ]
                      refine wpAnyH_take (i := 3) (oi := { dst := some 48, op := Op.fieldAddr 50 (Operand.tmp 8) 0, type := 0, pos := _, after := #[], guard := none }) (v := ?_) rfl (by kernel_rfl) (by kernel_rfl) (by kernel_rfl) (fun _ _ _ h => h) (Or.inl ⟨by kernel_rfl, ?_⟩) (by assumption) ?_
                      rotate_left
                      · intro w hSw; subst hSw; go_simp; first | done | (with_reducible rfl) | (rw [if_neg (by omega)])
                      try simp only [Act.put, List.setIfInBounds_toArray, List.set_cons_zero, List.set_cons_succ]
                      refine wpAnyH_take (i := 4) (oi := { dst := some 49, op := Op.load 3 (Operand.tmp 48), type := 3, pos := _, after := #[{ on := 3, ground := Ground.data }], guard := none }) (v := ?_) rfl (by kernel_rfl) (by kernel_rfl) (by kernel_rfl) (fun _ _ _ h => h) (Or.inl ⟨by kernel_rfl, ?_⟩) (by assumption) ?_
                      rotate_left
                      · intro w hSw; subst hSw; go_simp; first | done | (with_reducible rfl) | (rw [if_neg (by omega)])
                      try simp only [Act.put, List.setIfInBounds_toArray, List.set_cons_zero, List.set_cons_succ]
                      refine wpAnyH_ready (rs := [5]) (by kernel_rfl) (by simp) ?_
                      refine AllReadyH.cons (o := { dst := some 50, op := Op.call { callee := Callee.value (Operand.func 37), args := #[Operand.tmp 47, Operand.tmp 49], argTypes := #[43, 3] }, type := 4, pos := _, after := #[{ on := 2, ground := Ground.data }, { on := 4, ground := Ground.data }], guard := none }) rfl (fun K hK => ?_) AllReadyH.nil
                      rw [if_pos (by kernel_rfl)]
                      go_simp
                      go_at_call 37
                      refine HC.mono ?_
                      rintro e w' ⟨rfl, rfl⟩
                      go_wp2_with fail
                      refine hK.out _ _ rfl (fun hHeld2 => ?_)
                      clear hK K
                      try simp only [Act.put, List.setIfInBounds_toArray, List.set_cons_zero, List.set_cons_succ]
                      refine wpAnyH_take (i := 6) (oi := { dst := some 44, op := Op.assign (Operand.tmp 50), type := 4, pos := _, after := #[{ on := 5, ground := Ground.data }, { on := 5, ground := Ground.chain }], guard := none }) (v := ?_) rfl (by kernel_rfl) (by kernel_rfl) (by kernel_rfl) (fun _ _ _ h => h) (Or.inl ⟨by kernel_rfl, ?_⟩) (by assumption) ?_
                      rotate_left
                      · intro w hSw; subst hSw; go_simp; first | done | (with_reducible rfl) | (rw [if_neg (by omega)])
                      try simp only [Act.put, List.setIfInBounds_toArray, List.set_cons_zero, List.set_cons_succ]
                      refine wpAnyH_done (by kernel_rfl) ?_ _
                      skip
                      go_wp2_with (first
                        | (go_at_call 38; refine (cP_Kind _ _).mono ?_; rw [hK]; rintro e w' ⟨rfl, rfl⟩)
                        | (go_at_call 39; refine (cP_Numeric _ _).mono ?_; rw [hN5]; rintro e w' ⟨rfl, rfl⟩))
                      go_ret
                      exact ⟨by rw [HE.out]; rfl, hb1.drew⟩
                  · obtain rfl : xk = 8 := by simpa using h8
                    have hT : ms.take n = ms := List.take_of_length_le (by omega)
                    rcases hH : hasId ms xf with _ | _
                    · have hH' : hasId (ms.take n) xf = false := by rw [hT]; exact hH
                      have HE : Hid (fieldCode ms (I : Int) (J : Int) = 9) := Lib.hid (by rw [HX.out]; unfold fldCode; simp [hNO, hHN, hK, hN5, h8, hH])
                      clear HX
                      go_enter Try.func16, Try.ntmps16
                      go_wp2_with (first
                        | (go_at_call 31; refine (cP_in _ _ _ _).mono ?_; (first | rw [h1] | rw [h4]); rintro e w' ⟨rfl, rfl⟩)
                        | (go_at_call 36; refine (cP_NumberOk _ _).mono ?_; rw [hNO]; rintro e w' ⟨rfl, rfl⟩))
                      refine wp_region_held_drew (S := fun w' => w' = _) (by kernel_rfl) (rfl) (fun hHeld => ?_)
                      refine wpAnyH_take (i := 0) (oi := { dst := some 45, op := Op.move (Operand.tmp 7), type := 43, pos := _, after := #[], guard := none }) (v := ?_) rfl (by kernel_rfl) (by kernel_rfl) (by kernel_rfl) (fun _ _ _ h => h) (Or.inl ⟨by kernel_rfl, ?_⟩) (by assumption) ?_
                      rotate_left
                      · intro w hSw; subst hSw; go_simp; first | done | (with_reducible rfl) | (rw [if_neg (by omega)])
                      try simp only [Act.put, List.setIfInBounds_toArray, List.set_cons_zero, List.set_cons_succ]
                      refine wpAnyH_take (i := 1) (oi := { dst := some 46, op := Op.move (Operand.tmp 2), type := 3, pos := _, after := #[], guard := none }) (v := ?_) rfl (by kernel_rfl) (by kernel_rfl) (by kernel_rfl) (fun _ _ _ h => h) (Or.inl ⟨by kernel_rfl, ?_⟩) (by assumption) ?_
                      rotate_left
                      · intro w hSw; subst hSw; go_simp; first | done | (with_reducible rfl) | (rw [if_neg (by omega)])
                      try simp only [Act.put, List.setIfInBounds_toArray, List.set_cons_zero, List.set_cons_succ]
                      refine wpAnyH_take (i := 2) (oi := { dst := some 47, op := Op.slice 43 (Operand.tmp 45) none (some (Operand.tmp 46)) none, type := 43, pos := _, after := #[{ on := 0, ground := Ground.data }, { on := 1, ground := Ground.data }], guard := none }) (v := ?_) rfl (by kernel_rfl) (by kernel_rfl) (by kernel_rfl) (fun _ _ _ h => h) (Or.inl ⟨by kernel_rfl, ?_⟩) (by assumption) ?_
                      rotate_left
                      · intro w hSw; subst hSw; go_simp; first | done | (with_reducible rfl) | (rw [if_neg (by omega)])
                      try simp only [Act.put, List.setIfInBounds_toArray, List.set_cons_zero, List.set_cons_succ]
                      refine wpAnyH_take (i := 3) (oi := { dst := some 48, op := Op.fieldAddr 50 (Operand.tmp 8) 0, type := 0, pos := _, after := #[], guard := none }) (v := ?_) rfl (by kernel_rfl) (by kernel_rfl) (by kernel_rfl) (fun _ _ _ h => h) (Or.inl ⟨by kernel_rfl, ?_⟩) (by assumption) ?_
                      rotate_left
                      · intro w hSw; subst hSw; go_simp; first | done | (with_reducible rfl) | (rw [if_neg (by omega)])
                      try simp only [Act.put, List.setIfInBounds_toArray, List.set_cons_zero, List.set_cons_succ]
                      refine wpAnyH_take (i := 4) (oi := { dst := some 49, op := Op.load 3 (Operand.tmp 48), type := 3, pos := _, after := #[{ on := 3, ground := Ground.data }], guard := none }) (v := ?_) rfl (by kernel_rfl) (by kernel_rfl) (by kernel_rfl) (fun _ _ _ h => h) (Or.inl ⟨by kernel_rfl, ?_⟩) (by assumption) ?_
                      rotate_left
                      · intro w hSw; subst hSw; go_simp; first | done | (with_reducible rfl) | (rw [if_neg (by omega)])
                      try simp only [Act.put, List.setIfInBounds_toArray, List.set_cons_zero, List.set_cons_succ]
                      refine wpAnyH_ready (rs := [5]) (by kernel_rfl) (by simp) ?_
                      refine AllReadyH.cons (o := { dst := some 50, op := Op.call { callee := Callee.value (Operand.func 37), args := #[Operand.tmp 47, Operand.tmp 49], argTypes := #[43, 3] }, type := 4, pos := _, after := #[{ on := 2, ground := Ground.data }, { on := 4, ground := Ground.data }], guard := none }) rfl (fun K hK => ?_) AllReadyH.nil
                      rw [if_pos (by kernel_rfl)]
                      go_simp
                      go_at_call 37
                      refine HC.mono ?_
                      rintro e w' ⟨rfl, rfl⟩
                      go_wp2_with fail
                      refine hK.out _ _ rfl (fun hHeld2 => ?_)
                      clear hK K
                      try simp only [Act.put, List.setIfInBounds_toArray, List.set_cons_zero, List.set_cons_succ]
                      refine wpAnyH_take (i := 6) (oi := { dst := some 44, op := Op.assign (Operand.tmp 50), type := 4, pos := _, after := #[{ on := 5, ground := Ground.data }, { on := 5, ground := Ground.chain }], guard := none }) (v := ?_) rfl (by kernel_rfl) (by kernel_rfl) (by kernel_rfl) (fun _ _ _ h => h) (Or.inl ⟨by kernel_rfl, ?_⟩) (by assumption) ?_
                      rotate_left
                      · intro w hSw; subst hSw; go_simp; first | done | (with_reducible rfl) | (rw [if_neg (by omega)])
                      try simp only [Act.put, List.setIfInBounds_toArray, List.set_cons_zero, List.set_cons_succ]
                      refine wpAnyH_done (by kernel_rfl) ?_ _
                      skip
                      go_wp2_with (first
                        | (go_at_call 38; refine (cP_Kind _ _).mono ?_; rw [hK]; rintro e w' ⟨rfl, rfl⟩)
                        | (go_at_call 39; refine (cP_Numeric _ _).mono ?_; rw [hN5]; rintro e w' ⟨rfl, rfl⟩)
                        | (go_at_call 32; refine (cP_l6HasId (some ⟨b, off, none⟩) n c ms xf n _ hn hle (Nat.le_refl _) (hf0.below hb1.drew)).mono ?_; rw [hH']; rintro e w3 ⟨rfl, hb3⟩; have R3 := R1.drew.all hb3; have S3 := S1.drew.all hb3; have t0 := S3.cell 0 rfl; have t1 := S3.cell 1 rfl; have t2 := S3.cell 2 rfl; have t3 := S3.cell 3 rfl; have t4 := S3.cell 4 rfl; have r3 := R3.cell 0 rfl))
                      go_ret
                      exact ⟨by rw [HE.out]; rfl, (hb1.drew.trans (hb3.mono hb1.drew.size))⟩
                    · have hH' : hasId (ms.take n) xf = true := by rw [hT]; exact hH
                      have HE : Hid (fieldCode ms (I : Int) (J : Int) = 0) := Lib.hid (by rw [HX.out]; unfold fldCode; simp [hNO, hHN, hK, hN5, h8, hH])
                      clear HX
                      go_enter Try.func16, Try.ntmps16
                      go_wp2_with (first
                        | (go_at_call 31; refine (cP_in _ _ _ _).mono ?_; (first | rw [h1] | rw [h4]); rintro e w' ⟨rfl, rfl⟩)
                        | (go_at_call 36; refine (cP_NumberOk _ _).mono ?_; rw [hNO]; rintro e w' ⟨rfl, rfl⟩))
                      refine wp_region_held_drew (S := fun w' => w' = _) (by kernel_rfl) (rfl) (fun hHeld => ?_)
                      refine wpAnyH_take (i := 0) (oi := { dst := some 45, op := Op.move (Operand.tmp 7), type := 43, pos := _, after := #[], guard := none }) (v := ?_) rfl (by kernel_rfl) (by kernel_rfl) (by kernel_rfl) (fun _ _ _ h => h) (Or.inl ⟨by kernel_rfl, ?_⟩) (by assumption) ?_
                      rotate_left
                      · intro w hSw; subst hSw; go_simp; first | done | (with_reducible rfl) | (rw [if_neg (by omega)])
                      try simp only [Act.put, List.setIfInBounds_toArray, List.set_cons_zero, List.set_cons_succ]
                      refine wpAnyH_take (i := 1) (oi := { dst := some 46, op := Op.move (Operand.tmp 2), type := 3, pos := _, after := #[], guard := none }) (v := ?_) rfl (by kernel_rfl) (by kernel_rfl) (by kernel_rfl) (fun _ _ _ h => h) (Or.inl ⟨by kernel_rfl, ?_⟩) (by assumption) ?_
                      rotate_left
                      · intro w hSw; subst hSw; go_simp; first | done | (with_reducible rfl) | (rw [if_neg (by omega)])
                      try simp only [Act.put, List.setIfInBounds_toArray, List.set_cons_zero, List.set_cons_succ]
                      refine wpAnyH_take (i := 2) (oi := { dst := some 47, op := Op.slice 43 (Operand.tmp 45) none (some (Operand.tmp 46)) none, type := 43, pos := _, after := #[{ on := 0, ground := Ground.data }, { on := 1, ground := Ground.data }], guard := none }) (v := ?_) rfl (by kernel_rfl) (by kernel_rfl) (by kernel_rfl) (fun _ _ _ h => h) (Or.inl ⟨by kernel_rfl, ?_⟩) (by assumption) ?_
                      rotate_left
                      · intro w hSw; subst hSw; go_simp; first | done | (with_reducible rfl) | (rw [if_neg (by omega)])
                      try simp only [Act.put, List.setIfInBounds_toArray, List.set_cons_zero, List.set_cons_succ]
                      refine wpAnyH_take (i := 3) (oi := { dst := some 48, op := Op.fieldAddr 50 (Operand.tmp 8) 0, type := 0, pos := _, after := #[], guard := none }) (v := ?_) rfl (by kernel_rfl) (by kernel_rfl) (by kernel_rfl) (fun _ _ _ h => h) (Or.inl ⟨by kernel_rfl, ?_⟩) (by assumption) ?_
                      rotate_left
                      · intro w hSw; subst hSw; go_simp; first | done | (with_reducible rfl) | (rw [if_neg (by omega)])
                      try simp only [Act.put, List.setIfInBounds_toArray, List.set_cons_zero, List.set_cons_succ]
                      refine wpAnyH_take (i := 4) (oi := { dst := some 49, op := Op.load 3 (Operand.tmp 48), type := 3, pos := _, after := #[{ on := 3, ground := Ground.data }], guard := none }) (v := ?_) rfl (by kernel_rfl) (by kernel_rfl) (by kernel_rfl) (fun _ _ _ h => h) (Or.inl ⟨by kernel_rfl, ?_⟩) (by assumption) ?_
                      rotate_left
                      · intro w hSw; subst hSw; go_simp; first | done | (with_reducible rfl) | (rw [if_neg (by omega)])
                      try simp only [Act.put, List.setIfInBounds_toArray, List.set_cons_zero, List.set_cons_succ]
                      refine wpAnyH_ready (rs := [5]) (by kernel_rfl) (by simp) ?_
                      refine AllReadyH.cons (o := { dst := some 50, op := Op.call { callee := Callee.value (Operand.func 37), args := #[Operand.tmp 47, Operand.tmp 49], argTypes := #[43, 3] }, type := 4, pos := _, after := #[{ on := 2, ground := Ground.data }, { on := 4, ground := Ground.data }], guard := none }) rfl (fun K hK => ?_) AllReadyH.nil
                      rw [if_pos (by kernel_rfl)]
                      go_simp
                      go_at_call 37
                      refine HC.mono ?_
                      rintro e w' ⟨rfl, rfl⟩
                      go_wp2_with fail
                      refine hK.out _ _ rfl (fun hHeld2 => ?_)
                      clear hK K
                      try simp only [Act.put, List.setIfInBounds_toArray, List.set_cons_zero, List.set_cons_succ]
                      refine wpAnyH_take (i := 6) (oi := { dst := some 44, op := Op.assign (Operand.tmp 50), type := 4, pos := _, after := #[{ on := 5, ground := Ground.data }, { on := 5, ground := Ground.chain }], guard := none }) (v := ?_) rfl (by kernel_rfl) (by kernel_rfl) (by kernel_rfl) (fun _ _ _ h => h) (Or.inl ⟨by kernel_rfl, ?_⟩) (by assumption) ?_
                      rotate_left
                      · intro w hSw; subst hSw; go_simp; first | done | (with_reducible rfl) | (rw [if_neg (by omega)])
                      try simp only [Act.put, List.setIfInBounds_toArray, List.set_cons_zero, List.set_cons_succ]
                      refine wpAnyH_done (by kernel_rfl) ?_ _
                      skip
                      go_wp2_with (first
                        | (go_at_call 38; refine (cP_Kind _ _).mono ?_; rw [hK]; rintro e w' ⟨rfl, rfl⟩)
                        | (go_at_call 39; refine (cP_Numeric _ _).mono ?_; rw [hN5]; rintro e w' ⟨rfl, rfl⟩)
                        | (go_at_call 32; refine (cP_l6HasId (some ⟨b, off, none⟩) n c ms xf n _ hn hle (Nat.le_refl _) (hf0.below hb1.drew)).mono ?_; rw [hH']; rintro e w3 ⟨rfl, hb3⟩; have R3 := R1.drew.all hb3; have S3 := S1.drew.all hb3; have t0 := S3.cell 0 rfl; have t1 := S3.cell 1 rfl; have t2 := S3.cell 2 rfl; have t3 := S3.cell 3 rfl; have t4 := S3.cell 4 rfl; have r3 := R3.cell 0 rfl))
                      go_ret
                      exact ⟨by rw [HE.out]; rfl, (hb1.drew.trans (hb3.mono hb1.drew.size))⟩
                · rcases h8 : (xk == 8) with _ | _
                  · have n8 : ¬ xk = 8 := by simpa using h8
                    have mn8 : (xk != 8) = true := by simpa using n8
                    rcases h0 : (xf == 0) with _ | _
                    · have n0 : ¬ xf = 0 := by simpa using h0
                      have mn0 : (xf != 0) = true := by simpa using n0
                      have HE : Hid (fieldCode ms (I : Int) (J : Int) = 9) := Lib.hid (by rw [HX.out]; unfold fldCode; simp [hNO, hHN, hK, hN5, h8, h0])
                      clear HX
                      go_enter Try.func16, Try.ntmps16
                      go_wp2_with (first
                        | (go_at_call 31; refine (cP_in _ _ _ _).mono ?_; (first | rw [h1] | rw [h4]); rintro e w' ⟨rfl, rfl⟩)
                        | (go_at_call 36; refine (cP_NumberOk _ _).mono ?_; rw [hNO]; rintro e w' ⟨rfl, rfl⟩))
                      refine wp_region_held_drew (S := fun w' => w' = _) (by kernel_rfl) (rfl) (fun hHeld => ?_)
                      refine wpAnyH_take (i := 0) (oi := { dst := some 45, op := Op.move (Operand.tmp 7), type := 43, pos := _, after := #[], guard := none }) (v := ?_) rfl (by kernel_rfl) (by kernel_rfl) (by kernel_rfl) (fun _ _ _ h => h) (Or.inl ⟨by kernel_rfl, ?_⟩) (by assumption) ?_
                      rotate_left
                      · intro w hSw; subst hSw; go_simp; first | done | (with_reducible rfl) | (rw [if_neg (by omega)])
                      try simp only [Act.put, List.setIfInBounds_toArray, List.set_cons_zero, List.set_cons_succ]
                      refine wpAnyH_take (i := 1) (oi := { dst := some 46, op := Op.move (Operand.tmp 2), type := 3, pos := _, after := #[], guard := none }) (v := ?_) rfl (by kernel_rfl) (by kernel_rfl) (by kernel_rfl) (fun _ _ _ h => h) (Or.inl ⟨by kernel_rfl, ?_⟩) (by assumption) ?_
                      rotate_left
                      · intro w hSw; subst hSw; go_simp; first | done | (with_reducible rfl) | (rw [if_neg (by omega)])
                      try simp only [Act.put, List.setIfInBounds_toArray, List.set_cons_zero, List.set_cons_succ]
                      refine wpAnyH_take (i := 2) (oi := { dst := some 47, op := Op.slice 43 (Operand.tmp 45) none (some (Operand.tmp 46)) none, type := 43, pos := _, after := #[{ on := 0, ground := Ground.data }, { on := 1, ground := Ground.data }], guard := none }) (v := ?_) rfl (by kernel_rfl) (by kernel_rfl) (by kernel_rfl) (fun _ _ _ h => h) (Or.inl ⟨by kernel_rfl, ?_⟩) (by assumption) ?_
                      rotate_left
                      · intro w hSw; subst hSw; go_simp; first | done | (with_reducible rfl) | (rw [if_neg (by omega)])
                      try simp only [Act.put, List.setIfInBounds_toArray, List.set_cons_zero, List.set_cons_succ]
                      refine wpAnyH_take (i := 3) (oi := { dst := some 48, op := Op.fieldAddr 50 (Operand.tmp 8) 0, type := 0, pos := _, after := #[], guard := none }) (v := ?_) rfl (by kernel_rfl) (by kernel_rfl) (by kernel_rfl) (fun _ _ _ h => h) (Or.inl ⟨by kernel_rfl, ?_⟩) (by assumption) ?_
                      rotate_left
                      · intro w hSw; subst hSw; go_simp; first | done | (with_reducible rfl) | (rw [if_neg (by omega)])
                      try simp only [Act.put, List.setIfInBounds_toArray, List.set_cons_zero, List.set_cons_succ]
                      refine wpAnyH_take (i := 4) (oi := { dst := some 49, op := Op.load 3 (Operand.tmp 48), type := 3, pos := _, after := #[{ on := 3, ground := Ground.data }], guard := none }) (v := ?_) rfl (by kernel_rfl) (by kernel_rfl) (by kernel_rfl) (fun _ _ _ h => h) (Or.inl ⟨by kernel_rfl, ?_⟩) (by assumption) ?_
                      rotate_left
                      · intro w hSw; subst hSw; go_simp; first | done | (with_reducible rfl) | (rw [if_neg (by omega)])
                      try simp only [Act.put, List.setIfInBounds_toArray, List.set_cons_zero, List.set_cons_succ]
                      refine wpAnyH_ready (rs := [5]) (by kernel_rfl) (by simp) ?_
                      refine AllReadyH.cons (o := { dst := some 50, op := Op.call { callee := Callee.value (Operand.func 37), args := #[Operand.tmp 47, Operand.tmp 49], argTypes := #[43, 3] }, type := 4, pos := _, after := #[{ on := 2, ground := Ground.data }, { on := 4, ground := Ground.data }], guard := none }) rfl (fun K hK => ?_) AllReadyH.nil
                      rw [if_pos (by kernel_rfl)]
                      go_simp
                      go_at_call 37
                      refine HC.mono ?_
                      rintro e w' ⟨rfl, rfl⟩
                      go_wp2_with fail
                      refine hK.out _ _ rfl (fun hHeld2 => ?_)
                      clear hK K
                      try simp only [Act.put, List.setIfInBounds_toArray, List.set_cons_zero, List.set_cons_succ]
                      refine wpAnyH_take (i := 6) (oi := { dst := some 44, op := Op.assign (Operand.tmp 50), type := 4, pos := _, after := #[{ on := 5, ground := Ground.data }, { on := 5, ground := Ground.chain }], guard := none }) (v := ?_) rfl (by kernel_rfl) (by kernel_rfl) (by kernel_rfl) (fun _ _ _ h => h) (Or.inl ⟨by kernel_rfl, ?_⟩) (by assumption) ?_
                      rotate_left
                      · intro w hSw; subst hSw; go_simp; first | done | (with_reducible rfl) | (rw [if_neg (by omega)])
                      try simp only [Act.put, List.setIfInBounds_toArray, List.set_cons_zero, List.set_cons_succ]
                      refine wpAnyH_done (by kernel_rfl) ?_ _
                      skip
                      go_wp2_with (first
                        | (go_at_call 38; refine (cP_Kind _ _).mono ?_; rw [hK]; rintro e w' ⟨rfl, rfl⟩)
                        | (go_at_call 39; refine (cP_Numeric _ _).mono ?_; rw [hN5]; rintro e w' ⟨rfl, rfl⟩))
                      go_ret
                      exact ⟨by rw [HE.out]; rfl, hb1.drew⟩
                    · obtain rfl : xf = 0 := by simpa using h0
                      have HE : Hid (fieldCode ms (I : Int) (J : Int) = 0) := Lib.hid (by rw [HX.out]; unfold fldCode; simp [hNO, hHN, hK, hN5, h8, h0])
                      clear HX
                      go_enter Try.func16, Try.ntmps16
                      go_wp2_with (first
                        | (go_at_call 31; refine (cP_in _ _ _ _).mono ?_; (first | rw [h1] | rw [h4]); rintro e w' ⟨rfl, rfl⟩)
                        | (go_at_call 36; refine (cP_NumberOk _ _).mono ?_; rw [hNO]; rintro e w' ⟨rfl, rfl⟩))
                      refine wp_region_held_drew (S := fun w' => w' = _) (by kernel_rfl) (rfl) (fun hHeld => ?_)
                      refine wpAnyH_take (i := 0) (oi := { dst := some 45, op := Op.move (Operand.tmp 7), type := 43, pos := _, after := #[], guard := none }) (v := ?_) rfl (by kernel_rfl) (by kernel_rfl) (by kernel_rfl) (fun _ _ _ h => h) (Or.inl ⟨by kernel_rfl, ?_⟩) (by assumption) ?_
                      rotate_left
                      · intro w hSw; subst hSw; go_simp; first | done | (with_reducible rfl) | (rw [if_neg (by omega)])
                      try simp only [Act.put, List.setIfInBounds_toArray, List.set_cons_zero, List.set_cons_succ]
                      refine wpAnyH_take (i := 1) (oi := { dst := some 46, op := Op.move (Operand.tmp 2), type := 3, pos := _, after := #[], guard := none }) (v := ?_) rfl (by kernel_rfl) (by kernel_rfl) (by kernel_rfl) (fun _ _ _ h => h) (Or.inl ⟨by kernel_rfl, ?_⟩) (by assumption) ?_
                      rotate_left
                      · intro w hSw; subst hSw; go_simp; first | done | (with_reducible rfl) | (rw [if_neg (by omega)])
                      try simp only [Act.put, List.setIfInBounds_toArray, List.set_cons_zero, List.set_cons_succ]
                      refine wpAnyH_take (i := 2) (oi := { dst := some 47, op := Op.slice 43 (Operand.tmp 45) none (some (Operand.tmp 46)) none, type := 43, pos := _, after := #[{ on := 0, ground := Ground.data }, { on := 1, ground := Ground.data }], guard := none }) (v := ?_) rfl (by kernel_rfl) (by kernel_rfl) (by kernel_rfl) (fun _ _ _ h => h) (Or.inl ⟨by kernel_rfl, ?_⟩) (by assumption) ?_
                      rotate_left
                      · intro w hSw; subst hSw; go_simp; first | done | (with_reducible rfl) | (rw [if_neg (by omega)])
                      try simp only [Act.put, List.setIfInBounds_toArray, List.set_cons_zero, List.set_cons_succ]
                      refine wpAnyH_take (i := 3) (oi := { dst := some 48, op := Op.fieldAddr 50 (Operand.tmp 8) 0, type := 0, pos := _, after := #[], guard := none }) (v := ?_) rfl (by kernel_rfl) (by kernel_rfl) (by kernel_rfl) (fun _ _ _ h => h) (Or.inl ⟨by kernel_rfl, ?_⟩) (by assumption) ?_
                      rotate_left
                      · intro w hSw; subst hSw; go_simp; first | done | (with_reducible rfl) | (rw [if_neg (by omega)])
                      try simp only [Act.put, List.setIfInBounds_toArray, List.set_cons_zero, List.set_cons_succ]
                      refine wpAnyH_take (i := 4) (oi := { dst := some 49, op := Op.load 3 (Operand.tmp 48), type := 3, pos := _, after := #[{ on := 3, ground := Ground.data }], guard := none }) (v := ?_) rfl (by kernel_rfl) (by kernel_rfl) (by kernel_rfl) (fun _ _ _ h => h) (Or.inl ⟨by kernel_rfl, ?_⟩) (by assumption) ?_
                      rotate_left
                      · intro w hSw; subst hSw; go_simp; first | done | (with_reducible rfl) | (rw [if_neg (by omega)])
                      try simp only [Act.put, List.setIfInBounds_toArray, List.set_cons_zero, List.set_cons_succ]
                      refine wpAnyH_ready (rs := [5]) (by kernel_rfl) (by simp) ?_
                      refine AllReadyH.cons (o := { dst := some 50, op := Op.call { callee := Callee.value (Operand.func 37), args := #[Operand.tmp 47, Operand.tmp 49], argTypes := #[43, 3] }, type := 4, pos := _, after := #[{ on := 2, ground := Ground.data }, { on := 4, ground := Ground.data }], guard := none }) rfl (fun K hK => ?_) AllReadyH.nil
                      rw [if_pos (by kernel_rfl)]
                      go_simp
                      go_at_call 37
                      refine HC.mono ?_
                      rintro e w' ⟨rfl, rfl⟩
                      go_wp2_with fail
                      refine hK.out _ _ rfl (fun hHeld2 => ?_)
                      clear hK K
                      try simp only [Act.put, List.setIfInBounds_toArray, List.set_cons_zero, List.set_cons_succ]
                      refine wpAnyH_take (i := 6) (oi := { dst := some 44, op := Op.assign (Operand.tmp 50), type := 4, pos := _, after := #[{ on := 5, ground := Ground.data }, { on := 5, ground := Ground.chain }], guard := none }) (v := ?_) rfl (by kernel_rfl) (by kernel_rfl) (by kernel_rfl) (fun _ _ _ h => h) (Or.inl ⟨by kernel_rfl, ?_⟩) (by assumption) ?_
                      rotate_left
                      · intro w hSw; subst hSw; go_simp; first | done | (with_reducible rfl) | (rw [if_neg (by omega)])
                      try simp only [Act.put, List.setIfInBounds_toArray, List.set_cons_zero, List.set_cons_succ]
                      refine wpAnyH_done (by kernel_rfl) ?_ _
                      skip
                      go_wp2_with (first
                        | (go_at_call 38; refine (cP_Kind _ _).mono ?_; rw [hK]; rintro e w' ⟨rfl, rfl⟩)
                        | (go_at_call 39; refine (cP_Numeric _ _).mono ?_; rw [hN5]; rintro e w' ⟨rfl, rfl⟩))
                      go_ret
                      exact ⟨by rw [HE.out]; rfl, hb1.drew⟩
                  · obtain rfl : xk = 8 := by simpa using h8
                    have hT : ms.take n = ms := List.take_of_length_le (by omega)
                    rcases hH : hasId ms xf with _ | _
                    · have hH' : hasId (ms.take n) xf = false := by rw [hT]; exact hH
                      have HE : Hid (fieldCode ms (I : Int) (J : Int) = 9) := Lib.hid (by rw [HX.out]; unfold fldCode; simp [hNO, hHN, hK, hN5, h8, hH])
                      clear HX
                      go_enter Try.func16, Try.ntmps16
                      go_wp2_with (first
                        | (go_at_call 31; refine (cP_in _ _ _ _).mono ?_; (first | rw [h1] | rw [h4]); rintro e w' ⟨rfl, rfl⟩)
                        | (go_at_call 36; refine (cP_NumberOk _ _).mono ?_; rw [hNO]; rintro e w' ⟨rfl, rfl⟩))
                      refine wp_region_held_drew (S := fun w' => w' = _) (by kernel_rfl) (rfl) (fun hHeld => ?_)
                      refine wpAnyH_take (i := 0) (oi := { dst := some 45, op := Op.move (Operand.tmp 7), type := 43, pos := _, after := #[], guard := none }) (v := ?_) rfl (by kernel_rfl) (by kernel_rfl) (by kernel_rfl) (fun _ _ _ h => h) (Or.inl ⟨by kernel_rfl, ?_⟩) (by assumption) ?_
                      rotate_left
                      · intro w hSw; subst hSw; go_simp; first | done | (with_reducible rfl) | (rw [if_neg (by omega)])
                      try simp only [Act.put, List.setIfInBounds_toArray, List.set_cons_zero, List.set_cons_succ]
                      refine wpAnyH_take (i := 1) (oi := { dst := some 46, op := Op.move (Operand.tmp 2), type := 3, pos := _, after := #[], guard := none }) (v := ?_) rfl (by kernel_rfl) (by kernel_rfl) (by kernel_rfl) (fun _ _ _ h => h) (Or.inl ⟨by kernel_rfl, ?_⟩) (by assumption) ?_
                      rotate_left
                      · intro w hSw; subst hSw; go_simp; first | done | (with_reducible rfl) | (rw [if_neg (by omega)])
                      try simp only [Act.put, List.setIfInBounds_toArray, List.set_cons_zero, List.set_cons_succ]
                      refine wpAnyH_take (i := 2) (oi := { dst := some 47, op := Op.slice 43 (Operand.tmp 45) none (some (Operand.tmp 46)) none, type := 43, pos := _, after := #[{ on := 0, ground := Ground.data }, { on := 1, ground := Ground.data }], guard := none }) (v := ?_) rfl (by kernel_rfl) (by kernel_rfl) (by kernel_rfl) (fun _ _ _ h => h) (Or.inl ⟨by kernel_rfl, ?_⟩) (by assumption) ?_
                      rotate_left
                      · intro w hSw; subst hSw; go_simp; first | done | (with_reducible rfl) | (rw [if_neg (by omega)])
                      try simp only [Act.put, List.setIfInBounds_toArray, List.set_cons_zero, List.set_cons_succ]
                      refine wpAnyH_take (i := 3) (oi := { dst := some 48, op := Op.fieldAddr 50 (Operand.tmp 8) 0, type := 0, pos := _, after := #[], guard := none }) (v := ?_) rfl (by kernel_rfl) (by kernel_rfl) (by kernel_rfl) (fun _ _ _ h => h) (Or.inl ⟨by kernel_rfl, ?_⟩) (by assumption) ?_
                      rotate_left
                      · intro w hSw; subst hSw; go_simp; first | done | (with_reducible rfl) | (rw [if_neg (by omega)])
                      try simp only [Act.put, List.setIfInBounds_toArray, List.set_cons_zero, List.set_cons_succ]
                      refine wpAnyH_take (i := 4) (oi := { dst := some 49, op := Op.load 3 (Operand.tmp 48), type := 3, pos := _, after := #[{ on := 3, ground := Ground.data }], guard := none }) (v := ?_) rfl (by kernel_rfl) (by kernel_rfl) (by kernel_rfl) (fun _ _ _ h => h) (Or.inl ⟨by kernel_rfl, ?_⟩) (by assumption) ?_
                      rotate_left
                      · intro w hSw; subst hSw; go_simp; first | done | (with_reducible rfl) | (rw [if_neg (by omega)])
                      try simp only [Act.put, List.setIfInBounds_toArray, List.set_cons_zero, List.set_cons_succ]
                      refine wpAnyH_ready (rs := [5]) (by kernel_rfl) (by simp) ?_
                      refine AllReadyH.cons (o := { dst := some 50, op := Op.call { callee := Callee.value (Operand.func 37), args := #[Operand.tmp 47, Operand.tmp 49], argTypes := #[43, 3] }, type := 4, pos := _, after := #[{ on := 2, ground := Ground.data }, { on := 4, ground := Ground.data }], guard := none }) rfl (fun K hK => ?_) AllReadyH.nil
                      rw [if_pos (by kernel_rfl)]
                      go_simp
                      go_at_call 37
                      refine HC.mono ?_
                      rintro e w' ⟨rfl, rfl⟩
                      go_wp2_with fail
                      refine hK.out _ _ rfl (fun hHeld2 => ?_)
                      clear hK K
                      try simp only [Act.put, List.setIfInBounds_toArray, List.set_cons_zero, List.set_cons_succ]
                      refine wpAnyH_take (i := 6) (oi := { dst := some 44, op := Op.assign (Operand.tmp 50), type := 4, pos := _, after := #[{ on := 5, ground := Ground.data }, { on := 5, ground := Ground.chain }], guard := none }) (v := ?_) rfl (by kernel_rfl) (by kernel_rfl) (by kernel_rfl) (fun _ _ _ h => h) (Or.inl ⟨by kernel_rfl, ?_⟩) (by assumption) ?_
                      rotate_left
                      · intro w hSw; subst hSw; go_simp; first | done | (with_reducible rfl) | (rw [if_neg (by omega)])
                      try simp only [Act.put, List.setIfInBounds_toArray, List.set_cons_zero, List.set_cons_succ]
                      refine wpAnyH_done (by kernel_rfl) ?_ _
                      skip
                      go_wp2_with (first
                        | (go_at_call 38; refine (cP_Kind _ _).mono ?_; rw [hK]; rintro e w' ⟨rfl, rfl⟩)
                        | (go_at_call 39; refine (cP_Numeric _ _).mono ?_; rw [hN5]; rintro e w' ⟨rfl, rfl⟩)
                        | (go_at_call 32; refine (cP_l6HasId (some ⟨b, off, none⟩) n c ms xf n _ hn hle (Nat.le_refl _) (hf0.below hb1.drew)).mono ?_; rw [hH']; rintro e w3 ⟨rfl, hb3⟩; have R3 := R1.drew.all hb3; have S3 := S1.drew.all hb3; have t0 := S3.cell 0 rfl; have t1 := S3.cell 1 rfl; have t2 := S3.cell 2 rfl; have t3 := S3.cell 3 rfl; have t4 := S3.cell 4 rfl; have r3 := R3.cell 0 rfl))
                      go_ret
                      exact ⟨by rw [HE.out]; rfl, (hb1.drew.trans (hb3.mono hb1.drew.size))⟩
                    · have hH' : hasId (ms.take n) xf = true := by rw [hT]; exact hH
                      have HE : Hid (fieldCode ms (I : Int) (J : Int) = 0) := Lib.hid (by rw [HX.out]; unfold fldCode; simp [hNO, hHN, hK, hN5, h8, hH])
                      clear HX
                      go_enter Try.func16, Try.ntmps16
                      go_wp2_with (first
                        | (go_at_call 31; refine (cP_in _ _ _ _).mono ?_; (first | rw [h1] | rw [h4]); rintro e w' ⟨rfl, rfl⟩)
                        | (go_at_call 36; refine (cP_NumberOk _ _).mono ?_; rw [hNO]; rintro e w' ⟨rfl, rfl⟩))
                      refine wp_region_held_drew (S := fun w' => w' = _) (by kernel_rfl) (rfl) (fun hHeld => ?_)
                      refine wpAnyH_take (i := 0) (oi := { dst := some 45, op := Op.move (Operand.tmp 7), type := 43, pos := _, after := #[], guard := none }) (v := ?_) rfl (by kernel_rfl) (by kernel_rfl) (by kernel_rfl) (fun _ _ _ h => h) (Or.inl ⟨by kernel_rfl, ?_⟩) (by assumption) ?_
                      rotate_left
                      · intro w hSw; subst hSw; go_simp; first | done | (with_reducible rfl) | (rw [if_neg (by omega)])
                      try simp only [Act.put, List.setIfInBounds_toArray, List.set_cons_zero, List.set_cons_succ]
                      refine wpAnyH_take (i := 1) (oi := { dst := some 46, op := Op.move (Operand.tmp 2), type := 3, pos := _, after := #[], guard := none }) (v := ?_) rfl (by kernel_rfl) (by kernel_rfl) (by kernel_rfl) (fun _ _ _ h => h) (Or.inl ⟨by kernel_rfl, ?_⟩) (by assumption) ?_
                      rotate_left
                      · intro w hSw; subst hSw; go_simp; first | done | (with_reducible rfl) | (rw [if_neg (by omega)])
                      try simp only [Act.put, List.setIfInBounds_toArray, List.set_cons_zero, List.set_cons_succ]
                      refine wpAnyH_take (i := 2) (oi := { dst := some 47, op := Op.slice 43 (Operand.tmp 45) none (some (Operand.tmp 46)) none, type := 43, pos := _, after := #[{ on := 0, ground := Ground.data }, { on := 1, ground := Ground.data }], guard := none }) (v := ?_) rfl (by kernel_rfl) (by kernel_rfl) (by kernel_rfl) (fun _ _ _ h => h) (Or.inl ⟨by kernel_rfl, ?_⟩) (by assumption) ?_
                      rotate_left
                      · intro w hSw; subst hSw; go_simp; first | done | (with_reducible rfl) | (rw [if_neg (by omega)])
                      try simp only [Act.put, List.setIfInBounds_toArray, List.set_cons_zero, List.set_cons_succ]
                      refine wpAnyH_take (i := 3) (oi := { dst := some 48, op := Op.fieldAddr 50 (Operand.tmp 8) 0, type := 0, pos := _, after := #[], guard := none }) (v := ?_) rfl (by kernel_rfl) (by kernel_rfl) (by kernel_rfl) (fun _ _ _ h => h) (Or.inl ⟨by kernel_rfl, ?_⟩) (by assumption) ?_
                      rotate_left
                      · intro w hSw; subst hSw; go_simp; first | done | (with_reducible rfl) | (rw [if_neg (by omega)])
                      try simp only [Act.put, List.setIfInBounds_toArray, List.set_cons_zero, List.set_cons_succ]
                      refine wpAnyH_take (i := 4) (oi := { dst := some 49, op := Op.load 3 (Operand.tmp 48), type := 3, pos := _, after := #[{ on := 3, ground := Ground.data }], guard := none }) (v := ?_) rfl (by kernel_rfl) (by kernel_rfl) (by kernel_rfl) (fun _ _ _ h => h) (Or.inl ⟨by kernel_rfl, ?_⟩) (by assumption) ?_
                      rotate_left
                      · intro w hSw; subst hSw; go_simp; first | done | (with_reducible rfl) | (rw [if_neg (by omega)])
                      try simp only [Act.put, List.setIfInBounds_toArray, List.set_cons_zero, List.set_cons_succ]
                      refine wpAnyH_ready (rs := [5]) (by kernel_rfl) (by simp) ?_
                      refine AllReadyH.cons (o := { dst := some 50, op := Op.call { callee := Callee.value (Operand.func 37), args := #[Operand.tmp 47, Operand.tmp 49], argTypes := #[43, 3] }, type := 4, pos := _, after := #[{ on := 2, ground := Ground.data }, { on := 4, ground := Ground.data }], guard := none }) rfl (fun K hK => ?_) AllReadyH.nil
                      rw [if_pos (by kernel_rfl)]
                      go_simp
                      go_at_call 37
                      refine HC.mono ?_
                      rintro e w' ⟨rfl, rfl⟩
                      go_wp2_with fail
                      refine hK.out _ _ rfl (fun hHeld2 => ?_)
                      clear hK K
                      try simp only [Act.put, List.setIfInBounds_toArray, List.set_cons_zero, List.set_cons_succ]
                      refine wpAnyH_take (i := 6) (oi := { dst := some 44, op := Op.assign (Operand.tmp 50), type := 4, pos := _, after := #[{ on := 5, ground := Ground.data }, { on := 5, ground := Ground.chain }], guard := none }) (v := ?_) rfl (by kernel_rfl) (by kernel_rfl) (by kernel_rfl) (fun _ _ _ h => h) (Or.inl ⟨by kernel_rfl, ?_⟩) (by assumption) ?_
                      rotate_left
                      · intro w hSw; subst hSw; go_simp; first | done | (with_reducible rfl) | (rw [if_neg (by omega)])
                      try simp only [Act.put, List.setIfInBounds_toArray, List.set_cons_zero, List.set_cons_succ]
                      refine wpAnyH_done (by kernel_rfl) ?_ _
                      skip
                      go_wp2_with (first
                        | (go_at_call 38; refine (cP_Kind _ _).mono ?_; rw [hK]; rintro e w' ⟨rfl, rfl⟩)
                        | (go_at_call 39; refine (cP_Numeric _ _).mono ?_; rw [hN5]; rintro e w' ⟨rfl, rfl⟩)
                        | (go_at_call 32; refine (cP_l6HasId (some ⟨b, off, none⟩) n c ms xf n _ hn hle (Nat.le_refl _) (hf0.below hb1.drew)).mono ?_; rw [hH']; rintro e w3 ⟨rfl, hb3⟩; have R3 := R1.drew.all hb3; have S3 := S1.drew.all hb3; have t0 := S3.cell 0 rfl; have t1 := S3.cell 1 rfl; have t2 := S3.cell 2 rfl; have t3 := S3.cell 3 rfl; have t4 := S3.cell 4 rfl; have r3 := R3.cell 0 rfl))
                      go_ret
                      exact ⟨by rw [HE.out]; rfl, (hb1.drew.trans (hb3.mono hb1.drew.size))⟩
              · rcases xr with _ | _
                · have HE : Hid (fieldCode ms (I : Int) (J : Int) = 8) := Lib.hid (by rw [HX.out]; unfold fldCode; simp [hNO, hHN, hK, hN5])
                  clear HX
                  go_enter Try.func16, Try.ntmps16
                  go_wp2_with (first
                    | (go_at_call 31; refine (cP_in _ _ _ _).mono ?_; (first | rw [h1] | rw [h4]); rintro e w' ⟨rfl, rfl⟩)
                    | (go_at_call 36; refine (cP_NumberOk _ _).mono ?_; rw [hNO]; rintro e w' ⟨rfl, rfl⟩))
                  refine wp_region_held_drew (S := fun w' => w' = _) (by kernel_rfl) (rfl) (fun hHeld => ?_)
                  refine wpAnyH_take (i := 0) (oi := { dst := some 45, op := Op.move (Operand.tmp 7), type := 43, pos := _, after := #[], guard := none }) (v := ?_) rfl (by kernel_rfl) (by kernel_rfl) (by kernel_rfl) (fun _ _ _ h => h) (Or.inl ⟨by kernel_rfl, ?_⟩) (by assumption) ?_
                  rotate_left
                  · intro w hSw; subst hSw; go_simp; first | done | (with_reducible rfl) | (rw [if_neg (by omega)])
                  try simp only [Act.put, List.setIfInBounds_toArray, List.set_cons_zero, List.set_cons_succ]
                  refine wpAnyH_take (i := 1) (oi := { dst := some 46, op := Op.move (Operand.tmp 2), type := 3, pos := _, after := #[], guard := none }) (v := ?_) rfl (by kernel_rfl) (by kernel_rfl) (by kernel_rfl) (fun _ _ _ h => h) (Or.inl ⟨by kernel_rfl, ?_⟩) (by assumption) ?_
                  rotate_left
                  · intro w hSw; subst hSw; go_simp; first | done | (with_reducible rfl) | (rw [if_neg (by omega)])
                  try simp only [Act.put, List.setIfInBounds_toArray, List.set_cons_zero, List.set_cons_succ]
                  refine wpAnyH_take (i := 2) (oi := { dst := some 47, op := Op.slice 43 (Operand.tmp 45) none (some (Operand.tmp 46)) none, type := 43, pos := _, after := #[{ on := 0, ground := Ground.data }, { on := 1, ground := Ground.data }], guard := none }) (v := ?_) rfl (by kernel_rfl) (by kernel_rfl) (by kernel_rfl) (fun _ _ _ h => h) (Or.inl ⟨by kernel_rfl, ?_⟩) (by assumption) ?_
                  rotate_left
                  · intro w hSw; subst hSw; go_simp; first | done | (with_reducible rfl) | (rw [if_neg (by omega)])
                  try simp only [Act.put, List.setIfInBounds_toArray, List.set_cons_zero, List.set_cons_succ]
                  refine wpAnyH_take (i := 3) (oi := { dst := some 48, op := Op.fieldAddr 50 (Operand.tmp 8) 0, type := 0, pos := _, after := #[], guard := none }) (v := ?_) rfl (by kernel_rfl) (by kernel_rfl) (by kernel_rfl) (fun _ _ _ h => h) (Or.inl ⟨by kernel_rfl, ?_⟩) (by assumption) ?_
                  rotate_left
                  · intro w hSw; subst hSw; go_simp; first | done | (with_reducible rfl) | (rw [if_neg (by omega)])
                  try simp only [Act.put, List.setIfInBounds_toArray, List.set_cons_zero, List.set_cons_succ]
                  refine wpAnyH_take (i := 4) (oi := { dst := some 49, op := Op.load 3 (Operand.tmp 48), type := 3, pos := _, after := #[{ on := 3, ground := Ground.data }], guard := none }) (v := ?_) rfl (by kernel_rfl) (by kernel_rfl) (by kernel_rfl) (fun _ _ _ h => h) (Or.inl ⟨by kernel_rfl, ?_⟩) (by assumption) ?_
                  rotate_left
                  · intro w hSw; subst hSw; go_simp; first | done | (with_reducible rfl) | (rw [if_neg (by omega)])
                  try simp only [Act.put, List.setIfInBounds_toArray, List.set_cons_zero, List.set_cons_succ]
                  refine wpAnyH_ready (rs := [5]) (by kernel_rfl) (by simp) ?_
                  refine AllReadyH.cons (o := { dst := some 50, op := Op.call { callee := Callee.value (Operand.func 37), args := #[Operand.tmp 47, Operand.tmp 49], argTypes := #[43, 3] }, type := 4, pos := _, after := #[{ on := 2, ground := Ground.data }, { on := 4, ground := Ground.data }], guard := none }) rfl (fun K hK => ?_) AllReadyH.nil
                  rw [if_pos (by kernel_rfl)]
                  go_simp
                  go_at_call 37
                  refine HC.mono ?_
                  rintro e w' ⟨rfl, rfl⟩
                  go_wp2_with fail
                  refine hK.out _ _ rfl (fun hHeld2 => ?_)
                  clear hK K
                  try simp only [Act.put, List.setIfInBounds_toArray, List.set_cons_zero, List.set_cons_succ]
                  refine wpAnyH_take (i := 6) (oi := { dst := some 44, op := Op.assign (Operand.tmp 50), type := 4, pos := _, after := #[{ on := 5, ground := Ground.data }, { on := 5, ground := Ground.chain }], guard := none }) (v := ?_) rfl (by kernel_rfl) (by kernel_rfl) (by kernel_rfl) (fun _ _ _ h => h) (Or.inl ⟨by kernel_rfl, ?_⟩) (by assumption) ?_
                  rotate_left
                  · intro w hSw; subst hSw; go_simp; first | done | (with_reducible rfl) | (rw [if_neg (by omega)])
                  try simp only [Act.put, List.setIfInBounds_toArray, List.set_cons_zero, List.set_cons_succ]
                  refine wpAnyH_done (by kernel_rfl) ?_ _
                  skip
                  go_wp2_with (first
                    | (go_at_call 38; refine (cP_Kind _ _).mono ?_; rw [hK]; rintro e w' ⟨rfl, rfl⟩)
                    | (go_at_call 39; refine (cP_Numeric _ _).mono ?_; rw [hN5]; rintro e w' ⟨rfl, rfl⟩))
                  go_ret
                  exact ⟨by rw [HE.out]; rfl, hb1.drew⟩
                · have HE : Hid (fieldCode ms (I : Int) (J : Int) = 8) := Lib.hid (by rw [HX.out]; unfold fldCode; simp [hNO, hHN, hK, hN5])
                  clear HX
                  go_enter Try.func16, Try.ntmps16
                  go_wp2_with (first
                    | (go_at_call 31; refine (cP_in _ _ _ _).mono ?_; (first | rw [h1] | rw [h4]); rintro e w' ⟨rfl, rfl⟩)
                    | (go_at_call 36; refine (cP_NumberOk _ _).mono ?_; rw [hNO]; rintro e w' ⟨rfl, rfl⟩))
                  refine wp_region_held_drew (S := fun w' => w' = _) (by kernel_rfl) (rfl) (fun hHeld => ?_)
                  refine wpAnyH_take (i := 0) (oi := { dst := some 45, op := Op.move (Operand.tmp 7), type := 43, pos := _, after := #[], guard := none }) (v := ?_) rfl (by kernel_rfl) (by kernel_rfl) (by kernel_rfl) (fun _ _ _ h => h) (Or.inl ⟨by kernel_rfl, ?_⟩) (by assumption) ?_
                  rotate_left
                  · intro w hSw; subst hSw; go_simp; first | done | (with_reducible rfl) | (rw [if_neg (by omega)])
                  try simp only [Act.put, List.setIfInBounds_toArray, List.set_cons_zero, List.set_cons_succ]
                  refine wpAnyH_take (i := 1) (oi := { dst := some 46, op := Op.move (Operand.tmp 2), type := 3, pos := _, after := #[], guard := none }) (v := ?_) rfl (by kernel_rfl) (by kernel_rfl) (by kernel_rfl) (fun _ _ _ h => h) (Or.inl ⟨by kernel_rfl, ?_⟩) (by assumption) ?_
                  rotate_left
                  · intro w hSw; subst hSw; go_simp; first | done | (with_reducible rfl) | (rw [if_neg (by omega)])
                  try simp only [Act.put, List.setIfInBounds_toArray, List.set_cons_zero, List.set_cons_succ]
                  refine wpAnyH_take (i := 2) (oi := { dst := some 47, op := Op.slice 43 (Operand.tmp 45) none (some (Operand.tmp 46)) none, type := 43, pos := _, after := #[{ on := 0, ground := Ground.data }, { on := 1, ground := Ground.data }], guard := none }) (v := ?_) rfl (by kernel_rfl) (by kernel_rfl) (by kernel_rfl) (fun _ _ _ h => h) (Or.inl ⟨by kernel_rfl, ?_⟩) (by assumption) ?_
                  rotate_left
                  · intro w hSw; subst hSw; go_simp; first | done | (with_reducible rfl) | (rw [if_neg (by omega)])
                  try simp only [Act.put, List.setIfInBounds_toArray, List.set_cons_zero, List.set_cons_succ]
                  refine wpAnyH_take (i := 3) (oi := { dst := some 48, op := Op.fieldAddr 50 (Operand.tmp 8) 0, type := 0, pos := _, after := #[], guard := none }) (v := ?_) rfl (by kernel_rfl) (by kernel_rfl) (by kernel_rfl) (fun _ _ _ h => h) (Or.inl ⟨by kernel_rfl, ?_⟩) (by assumption) ?_
                  rotate_left
                  · intro w hSw; subst hSw; go_simp; first | done | (with_reducible rfl) | (rw [if_neg (by omega)])
                  try simp only [Act.put, List.setIfInBounds_toArray, List.set_cons_zero, List.set_cons_succ]
                  refine wpAnyH_take (i := 4) (oi := { dst := some 49, op := Op.load 3 (Operand.tmp 48), type := 3, pos := _, after := #[{ on := 3, ground := Ground.data }], guard := none }) (v := ?_) rfl (by kernel_rfl) (by kernel_rfl) (by kernel_rfl) (fun _ _ _ h => h) (Or.inl ⟨by kernel_rfl, ?_⟩) (by assumption) ?_
                  rotate_left
                  · intro w hSw; subst hSw; go_simp; first | done | (with_reducible rfl) | (rw [if_neg (by omega)])
                  try simp only [Act.put, List.setIfInBounds_toArray, List.set_cons_zero, List.set_cons_succ]
                  refine wpAnyH_ready (rs := [5]) (by kernel_rfl) (by simp) ?_
                  refine AllReadyH.cons (o := { dst := some 50, op := Op.call { callee := Callee.value (Operand.func 37), args := #[Operand.tmp 47, Operand.tmp 49], argTypes := #[43, 3] }, type := 4, pos := _, after := #[{ on := 2, ground := Ground.data }, { on := 4, ground := Ground.data }], guard := none }) rfl (fun K hK => ?_) AllReadyH.nil
                  rw [if_pos (by kernel_rfl)]
                  go_simp
                  go_at_call 37
                  refine HC.mono ?_
                  rintro e w' ⟨rfl, rfl⟩
                  go_wp2_with fail
                  refine hK.out _ _ rfl (fun hHeld2 => ?_)
                  clear hK K
                  try simp only [Act.put, List.setIfInBounds_toArray, List.set_cons_zero, List.set_cons_succ]
                  refine wpAnyH_take (i := 6) (oi := { dst := some 44, op := Op.assign (Operand.tmp 50), type := 4, pos := _, after := #[{ on := 5, ground := Ground.data }, { on := 5, ground := Ground.chain }], guard := none }) (v := ?_) rfl (by kernel_rfl) (by kernel_rfl) (by kernel_rfl) (fun _ _ _ h => h) (Or.inl ⟨by kernel_rfl, ?_⟩) (by assumption) ?_
                  rotate_left
                  · intro w hSw; subst hSw; go_simp; first | done | (with_reducible rfl) | (rw [if_neg (by omega)])
                  try simp only [Act.put, List.setIfInBounds_toArray, List.set_cons_zero, List.set_cons_succ]
                  refine wpAnyH_done (by kernel_rfl) ?_ _
                  skip
                  go_wp2_with (first
                    | (go_at_call 38; refine (cP_Kind _ _).mono ?_; rw [hK]; rintro e w' ⟨rfl, rfl⟩)
                    | (go_at_call 39; refine (cP_Numeric _ _).mono ?_; rw [hN5]; rintro e w' ⟨rfl, rfl⟩))
                  go_ret
                  exact ⟨by rw [HE.out]; rfl, hb1.drew⟩
            · rcases xp with _ | _
              · rcases xr with _ | _
                · rcases h8 : (xk == 8) with _ | _
                  · have n8 : ¬ xk = 8 := by simpa using h8
                    have mn8 : (xk != 8) = true := by simpa using n8
                    rcases h0 : (xf == 0) with _ | _
                    · have n0 : ¬ xf = 0 := by simpa using h0
                      have mn0 : (xf != 0) = true := by simpa using n0
                      have HE : Hid (fieldCode ms (I : Int) (J : Int) = 9) := Lib.hid (by rw [HX.out]; unfold fldCode; simp [hNO, hHN, hK, hN5, h8, h0])
                      clear HX
                      go_enter Try.func16, Try.ntmps16
                      go_wp2_with (first
                        | (go_at_call 31; refine (cP_in _ _ _ _).mono ?_; (first | rw [h1] | rw [h4]); rintro e w' ⟨rfl, rfl⟩)
                        | (go_at_call 36; refine (cP_NumberOk _ _).mono ?_; rw [hNO]; rintro e w' ⟨rfl, rfl⟩))
                      refine wp_region_held_drew (S := fun w' => w' = _) (by kernel_rfl) (rfl) (fun hHeld => ?_)
                      refine wpAnyH_take (i := 0) (oi := { dst := some 45, op := Op.move (Operand.tmp 7), type := 43, pos := _, after := #[], guard := none }) (v := ?_) rfl (by kernel_rfl) (by kernel_rfl) (by kernel_rfl) (fun _ _ _ h => h) (Or.inl ⟨by kernel_rfl, ?_⟩) (by assumption) ?_
                      rotate_left
                      · intro w hSw; subst hSw; go_simp; first | done | (with_reducible rfl) | (rw [if_neg (by omega)])
                      try simp only [Act.put, List.setIfInBounds_toArray, List.set_cons_zero, List.set_cons_succ]
                      refine wpAnyH_take (i := 1) (oi := { dst := some 46, op := Op.move (Operand.tmp 2), type := 3, pos := _, after := #[], guard := none }) (v := ?_) rfl (by kernel_rfl) (by kernel_rfl) (by kernel_rfl) (fun _ _ _ h => h) (Or.inl ⟨by kernel_rfl, ?_⟩) (by assumption) ?_
                      rotate_left
                      · intro w hSw; subst hSw; go_simp; first | done | (with_reducible rfl) | (rw [if_neg (by omega)])
                      try simp only [Act.put, List.setIfInBounds_toArray, List.set_cons_zero, List.set_cons_succ]
                      refine wpAnyH_take (i := 2) (oi := { dst := some 47, op := Op.slice 43 (Operand.tmp 45) none (some (Operand.tmp 46)) none, type := 43, pos := _, after := #[{ on := 0, ground := Ground.data }, { on := 1, ground := Ground.data }], guard := none }) (v := ?_) rfl (by kernel_rfl) (by kernel_rfl) (by kernel_rfl) (fun _ _ _ h => h) (Or.inl ⟨by kernel_rfl, ?_⟩) (by assumption) ?_
                      rotate_left
                      · intro w hSw; subst hSw; go_simp; first | done | (with_reducible rfl) | (rw [if_neg (by omega)])
                      try simp only [Act.put, List.setIfInBounds_toArray, List.set_cons_zero, List.set_cons_succ]
                      refine wpAnyH_take (i := 3) (oi := { dst := some 48, op := Op.fieldAddr 50 (Operand.tmp 8) 0, type := 0, pos := _, after := #[], guard := none }) (v := ?_) rfl (by kernel_rfl) (by kernel_rfl) (by kernel_rfl) (fun _ _ _ h => h) (Or.inl ⟨by kernel_rfl, ?_⟩) (by assumption) ?_
                      rotate_left
                      · intro w hSw; subst hSw; go_simp; first | done | (with_reducible rfl) | (rw [if_neg (by omega)])
                      try simp only [Act.put, List.setIfInBounds_toArray, List.set_cons_zero, List.set_cons_succ]
                      refine wpAnyH_take (i := 4) (oi := { dst := some 49, op := Op.load 3 (Operand.tmp 48), type := 3, pos := _, after := #[{ on := 3, ground := Ground.data }], guard := none }) (v := ?_) rfl (by kernel_rfl) (by kernel_rfl) (by kernel_rfl) (fun _ _ _ h => h) (Or.inl ⟨by kernel_rfl, ?_⟩) (by assumption) ?_
                      rotate_left
                      · intro w hSw; subst hSw; go_simp; first | done | (with_reducible rfl) | (rw [if_neg (by omega)])
                      try simp only [Act.put, List.setIfInBounds_toArray, List.set_cons_zero, List.set_cons_succ]
                      refine wpAnyH_ready (rs := [5]) (by kernel_rfl) (by simp) ?_
                      refine AllReadyH.cons (o := { dst := some 50, op := Op.call { callee := Callee.value (Operand.func 37), args := #[Operand.tmp 47, Operand.tmp 49], argTypes := #[43, 3] }, type := 4, pos := _, after := #[{ on := 2, ground := Ground.data }, { on := 4, ground := Ground.data }], guard := none }) rfl (fun K hK => ?_) AllReadyH.nil
                      rw [if_pos (by kernel_rfl)]
                      go_simp
                      go_at_call 37
                      refine HC.mono ?_
                      rintro e w' ⟨rfl, rfl⟩
                      go_wp2_with fail
                      refine hK.out _ _ rfl (fun hHeld2 => ?_)
                      clear hK K
                      try simp only [Act.put, List.setIfInBounds_toArray, List.set_cons_zero, List.set_cons_succ]
                      refine wpAnyH_take (i := 6) (oi := { dst := some 44, op := Op.assign (Operand.tmp 50), type := 4, pos := _, after := #[{ on := 5, ground := Ground.data }, { on := 5, ground := Ground.chain }], guard := none }) (v := ?_) rfl (by kernel_rfl) (by kernel_rfl) (by kernel_rfl) (fun _ _ _ h => h) (Or.inl ⟨by kernel_rfl, ?_⟩) (by assumption) ?_
                      rotate_left
                      · intro w hSw; subst hSw; go_simp; first | done | (with_reducible rfl) | (rw [if_neg (by omega)])
                      try simp only [Act.put, List.setIfInBounds_toArray, List.set_cons_zero, List.set_cons_succ]
                      refine wpAnyH_done (by kernel_rfl) ?_ _
                      skip
                      go_wp2_with (first
                        | (go_at_call 38; refine (cP_Kind _ _).mono ?_; rw [hK]; rintro e w' ⟨rfl, rfl⟩)
                        | (go_at_call 39; refine (cP_Numeric _ _).mono ?_; rw [hN5]; rintro e w' ⟨rfl, rfl⟩))
                      go_ret
                      exact ⟨by rw [HE.out]; rfl, hb1.drew⟩
                    · obtain rfl : xf = 0 := by simpa using h0
                      have HE : Hid (fieldCode ms (I : Int) (J : Int) = 0) := Lib.hid (by rw [HX.out]; unfold fldCode; simp [hNO, hHN, hK, hN5, h8, h0])
                      clear HX
                      go_enter Try.func16, Try.ntmps16
                      go_wp2_with (first
                        | (go_at_call 31; refine (cP_in _ _ _ _).mono ?_; (first | rw [h1] | rw [h4]); rintro e w' ⟨rfl, rfl⟩)
                        | (go_at_call 36; refine (cP_NumberOk _ _).mono ?_; rw [hNO]; rintro e w' ⟨rfl, rfl⟩))
                      refine wp_region_held_drew (S := fun w' => w' = _) (by kernel_rfl) (rfl) (fun hHeld => ?_)
                      refine wpAnyH_take (i := 0) (oi := { dst := some 45, op := Op.move (Operand.tmp 7), type := 43, pos := _, after := #[], guard := none }) (v := ?_) rfl (by kernel_rfl) (by kernel_rfl) (by kernel_rfl) (fun _ _ _ h => h) (Or.inl ⟨by kernel_rfl, ?_⟩) (by assumption) ?_
                      rotate_left
                      · intro w hSw; subst hSw; go_simp; first | done | (with_reducible rfl) | (rw [if_neg (by omega)])
                      try simp only [Act.put, List.setIfInBounds_toArray, List.set_cons_zero, List.set_cons_succ]
                      refine wpAnyH_take (i := 1) (oi := { dst := some 46, op := Op.move (Operand.tmp 2), type := 3, pos := _, after := #[], guard := none }) (v := ?_) rfl (by kernel_rfl) (by kernel_rfl) (by kernel_rfl) (fun _ _ _ h => h) (Or.inl ⟨by kernel_rfl, ?_⟩) (by assumption) ?_
                      rotate_left
                      · intro w hSw; subst hSw; go_simp; first | done | (with_reducible rfl) | (rw [if_neg (by omega)])
                      try simp only [Act.put, List.setIfInBounds_toArray, List.set_cons_zero, List.set_cons_succ]
                      refine wpAnyH_take (i := 2) (oi := { dst := some 47, op := Op.slice 43 (Operand.tmp 45) none (some (Operand.tmp 46)) none, type := 43, pos := _, after := #[{ on := 0, ground := Ground.data }, { on := 1, ground := Ground.data }], guard := none }) (v := ?_) rfl (by kernel_rfl) (by kernel_rfl) (by kernel_rfl) (fun _ _ _ h => h) (Or.inl ⟨by kernel_rfl, ?_⟩) (by assumption) ?_
                      rotate_left
                      · intro w hSw; subst hSw; go_simp; first | done | (with_reducible rfl) | (rw [if_neg (by omega)])
                      try simp only [Act.put, List.setIfInBounds_toArray, List.set_cons_zero, List.set_cons_succ]
                      refine wpAnyH_take (i := 3) (oi := { dst := some 48, op := Op.fieldAddr 50 (Operand.tmp 8) 0, type := 0, pos := _, after := #[], guard := none }) (v := ?_) rfl (by kernel_rfl) (by kernel_rfl) (by kernel_rfl) (fun _ _ _ h => h) (Or.inl ⟨by kernel_rfl, ?_⟩) (by assumption) ?_
                      rotate_left
                      · intro w hSw; subst hSw; go_simp; first | done | (with_reducible rfl) | (rw [if_neg (by omega)])
                      try simp only [Act.put, List.setIfInBounds_toArray, List.set_cons_zero, List.set_cons_succ]
                      refine wpAnyH_take (i := 4) (oi := { dst := some 49, op := Op.load 3 (Operand.tmp 48), type := 3, pos := _, after := #[{ on := 3, ground := Ground.data }], guard := none }) (v := ?_) rfl (by kernel_rfl) (by kernel_rfl) (by kernel_rfl) (fun _ _ _ h => h) (Or.inl ⟨by kernel_rfl, ?_⟩) (by assumption) ?_
                      rotate_left
                      · intro w hSw; subst hSw; go_simp; first | done | (with_reducible rfl) | (rw [if_neg (by omega)])
                      try simp only [Act.put, List.setIfInBounds_toArray, List.set_cons_zero, List.set_cons_succ]
                      refine wpAnyH_ready (rs := [5]) (by kernel_rfl) (by simp) ?_
                      refine AllReadyH.cons (o := { dst := some 50, op := Op.call { callee := Callee.value (Operand.func 37), args := #[Operand.tmp 47, Operand.tmp 49], argTypes := #[43, 3] }, type := 4, pos := _, after := #[{ on := 2, ground := Ground.data }, { on := 4, ground := Ground.data }], guard := none }) rfl (fun K hK => ?_) AllReadyH.nil
                      rw [if_pos (by kernel_rfl)]
                      go_simp
                      go_at_call 37
                      refine HC.mono ?_
                      rintro e w' ⟨rfl, rfl⟩
                      go_wp2_with fail
                      refine hK.out _ _ rfl (fun hHeld2 => ?_)
                      clear hK K
                      try simp only [Act.put, List.setIfInBounds_toArray, List.set_cons_zero, List.set_cons_succ]
                      refine wpAnyH_take (i := 6) (oi := { dst := some 44, op := Op.assign (Operand.tmp 50), type := 4, pos := _, after := #[{ on := 5, ground := Ground.data }, { on := 5, ground := Ground.chain }], guard := none }) (v := ?_) rfl (by kernel_rfl) (by kernel_rfl) (by kernel_rfl) (fun _ _ _ h => h) (Or.inl ⟨by kernel_rfl, ?_⟩) (by assumption) ?_
                      rotate_left
                      · intro w hSw; subst hSw; go_simp; first | done | (with_reducible rfl) | (rw [if_neg (by omega)])
                      try simp only [Act.put, List.setIfInBounds_toArray, List.set_cons_zero, List.set_cons_succ]
                      refine wpAnyH_done (by kernel_rfl) ?_ _
                      skip
                      go_wp2_with (first
                        | (go_at_call 38; refine (cP_Kind _ _).mono ?_; rw [hK]; rintro e w' ⟨rfl, rfl⟩)
                        | (go_at_call 39; refine (cP_Numeric _ _).mono ?_; rw [hN5]; rintro e w' ⟨rfl, rfl⟩))
                      go_ret
                      exact ⟨by rw [HE.out]; rfl, hb1.drew⟩
                  · obtain rfl : xk = 8 := by simpa using h8
                    have hT : ms.take n = ms := List.take_of_length_le (by omega)
                    rcases hH : hasId ms xf with _ | _
                    · have hH' : hasId (ms.take n) xf = false := by rw [hT]; exact hH
                      have HE : Hid (fieldCode ms (I : Int) (J : Int) = 9) := Lib.hid (by rw [HX.out]; unfold fldCode; simp [hNO, hHN, hK, hN5, h8, hH])
                      clear HX
                      go_enter Try.func16, Try.ntmps16
                      go_wp2_with (first
                        | (go_at_call 31; refine (cP_in _ _ _ _).mono ?_; (first | rw [h1] | rw [h4]); rintro e w' ⟨rfl, rfl⟩)
                        | (go_at_call 36; refine (cP_NumberOk _ _).mono ?_; rw [hNO]; rintro e w' ⟨rfl, rfl⟩))
                      refine wp_region_held_drew (S := fun w' => w' = _) (by kernel_rfl) (rfl) (fun hHeld => ?_)
                      refine wpAnyH_take (i := 0) (oi := { dst := some 45, op := Op.move (Operand.tmp 7), type := 43, pos := _, after := #[], guard := none }) (v := ?_) rfl (by kernel_rfl) (by kernel_rfl) (by kernel_rfl) (fun _ _ _ h => h) (Or.inl ⟨by kernel_rfl, ?_⟩) (by assumption) ?_
                      rotate_left
                      · intro w hSw; subst hSw; go_simp; first | done | (with_reducible rfl) | (rw [if_neg (by omega)])
                      try simp only [Act.put, List.setIfInBounds_toArray, List.set_cons_zero, List.set_cons_succ]
                      refine wpAnyH_take (i := 1) (oi := { dst := some 46, op := Op.move (Operand.tmp 2), type := 3, pos := _, after := #[], guard := none }) (v := ?_) rfl (by kernel_rfl) (by kernel_rfl) (by kernel_rfl) (fun _ _ _ h => h) (Or.inl ⟨by kernel_rfl, ?_⟩) (by assumption) ?_
                      rotate_left
                      · intro w hSw; subst hSw; go_simp; first | done | (with_reducible rfl) | (rw [if_neg (by omega)])
                      try simp only [Act.put, List.setIfInBounds_toArray, List.set_cons_zero, List.set_cons_succ]
                      refine wpAnyH_take (i := 2) (oi := { dst := some 47, op := Op.slice 43 (Operand.tmp 45) none (some (Operand.tmp 46)) none, type := 43, pos := _, after := #[{ on := 0, ground := Ground.data }, { on := 1, ground := Ground.data }], guard := none }) (v := ?_) rfl (by kernel_rfl) (by kernel_rfl) (by kernel_rfl) (fun _ _ _ h => h) (Or.inl ⟨by kernel_rfl, ?_⟩) (by assumption) ?_
                      rotate_left
                      · intro w hSw; subst hSw; go_simp; first | done | (with_reducible rfl) | (rw [if_neg (by omega)])
                      try simp only [Act.put, List.setIfInBounds_toArray, List.set_cons_zero, List.set_cons_succ]
                      refine wpAnyH_take (i := 3) (oi := { dst := some 48, op := Op.fieldAddr 50 (Operand.tmp 8) 0, type := 0, pos := _, after := #[], guard := none }) (v := ?_) rfl (by kernel_rfl) (by kernel_rfl) (by kernel_rfl) (fun _ _ _ h => h) (Or.inl ⟨by kernel_rfl, ?_⟩) (by assumption) ?_
                      rotate_left
                      · intro w hSw; subst hSw; go_simp; first | done | (with_reducible rfl) | (rw [if_neg (by omega)])
                      try simp only [Act.put, List.setIfInBounds_toArray, List.set_cons_zero, List.set_cons_succ]
                      refine wpAnyH_take (i := 4) (oi := { dst := some 49, op := Op.load 3 (Operand.tmp 48), type := 3, pos := _, after := #[{ on := 3, ground := Ground.data }], guard := none }) (v := ?_) rfl (by kernel_rfl) (by kernel_rfl) (by kernel_rfl) (fun _ _ _ h => h) (Or.inl ⟨by kernel_rfl, ?_⟩) (by assumption) ?_
                      rotate_left
                      · intro w hSw; subst hSw; go_simp; first | done | (with_reducible rfl) | (rw [if_neg (by omega)])
                      try simp only [Act.put, List.setIfInBounds_toArray, List.set_cons_zero, List.set_cons_succ]
                      refine wpAnyH_ready (rs := [5]) (by kernel_rfl) (by simp) ?_
                      refine AllReadyH.cons (o := { dst := some 50, op := Op.call { callee := Callee.value (Operand.func 37), args := #[Operand.tmp 47, Operand.tmp 49], argTypes := #[43, 3] }, type := 4, pos := _, after := #[{ on := 2, ground := Ground.data }, { on := 4, ground := Ground.data }], guard := none }) rfl (fun K hK => ?_) AllReadyH.nil
                      rw [if_pos (by kernel_rfl)]
                      go_simp
                      go_at_call 37
                      refine HC.mono ?_
                      rintro e w' ⟨rfl, rfl⟩
                      go_wp2_with fail
                      refine hK.out _ _ rfl (fun hHeld2 => ?_)
                      clear hK K
                      try simp only [Act.put, List.setIfInBounds_toArray, List.set_cons_zero, List.set_cons_succ]
                      refine wpAnyH_take (i := 6) (oi := { dst := some 44, op := Op.assign (Operand.tmp 50), type := 4, pos := _, after := #[{ on := 5, ground := Ground.data }, { on := 5, ground := Ground.chain }], guard := none }) (v := ?_) rfl (by kernel_rfl) (by kernel_rfl) (by kernel_rfl) (fun _ _ _ h => h) (Or.inl ⟨by kernel_rfl, ?_⟩) (by assumption) ?_
                      rotate_left
                      · intro w hSw; subst hSw; go_simp; first | done | (with_reducible rfl) | (rw [if_neg (by omega)])
                      try simp only [Act.put, List.setIfInBounds_toArray, List.set_cons_zero, List.set_cons_succ]
                      refine wpAnyH_done (by kernel_rfl) ?_ _
                      skip
                      go_wp2_with (first
                        | (go_at_call 38; refine (cP_Kind _ _).mono ?_; rw [hK]; rintro e w' ⟨rfl, rfl⟩)
                        | (go_at_call 39; refine (cP_Numeric _ _).mono ?_; rw [hN5]; rintro e w' ⟨rfl, rfl⟩)
                        | (go_at_call 32; refine (cP_l6HasId (some ⟨b, off, none⟩) n c ms xf n _ hn hle (Nat.le_refl _) (hf0.below hb1.drew)).mono ?_; rw [hH']; rintro e w3 ⟨rfl, hb3⟩; have R3 := R1.drew.all hb3; have S3 := S1.drew.all hb3; have t0 := S3.cell 0 rfl; have t1 := S3.cell 1 rfl; have t2 := S3.cell 2 rfl; have t3 := S3.cell 3 rfl; have t4 := S3.cell 4 rfl; have r3 := R3.cell 0 rfl))
                      go_ret
                      exact ⟨by rw [HE.out]; rfl, (hb1.drew.trans (hb3.mono hb1.drew.size))⟩
                    · have hH' : hasId (ms.take n) xf = true := by rw [hT]; exact hH
                      have HE : Hid (fieldCode ms (I : Int) (J : Int) = 0) := Lib.hid (by rw [HX.out]; unfold fldCode; simp [hNO, hHN, hK, hN5, h8, hH])
                      clear HX
                      go_enter Try.func16, Try.ntmps16
                      go_wp2_with (first
                        | (go_at_call 31; refine (cP_in _ _ _ _).mono ?_; (first | rw [h1] | rw [h4]); rintro e w' ⟨rfl, rfl⟩)
                        | (go_at_call 36; refine (cP_NumberOk _ _).mono ?_; rw [hNO]; rintro e w' ⟨rfl, rfl⟩))
                      refine wp_region_held_drew (S := fun w' => w' = _) (by kernel_rfl) (rfl) (fun hHeld => ?_)
                      refine wpAnyH_take (i := 0) (oi := { dst := some 45, op := Op.move (Operand.tmp 7), type := 43, pos := _, after := #[], guard := none }) (v := ?_) rfl (by kernel_rfl) (by kernel_rfl) (by kernel_rfl) (fun _ _ _ h => h) (Or.inl ⟨by kernel_rfl, ?_⟩) (by assumption) ?_
                      rotate_left
                      · intro w hSw; subst hSw; go_simp; first | done | (with_reducible rfl) | (rw [if_neg (by omega)])
                      try simp only [Act.put, List.setIfInBounds_toArray, List.set_cons_zero, List.set_cons_succ]
                      refine wpAnyH_take (i := 1) (oi := { dst := some 46, op := Op.move (Operand.tmp 2), type := 3, pos := _, after := #[], guard := none }) (v := ?_) rfl (by kernel_rfl) (by kernel_rfl) (by kernel_rfl) (fun _ _ _ h => h) (Or.inl ⟨by kernel_rfl, ?_⟩) (by assumption) ?_
                      rotate_left
                      · intro w hSw; subst hSw; go_simp; first | done | (with_reducible rfl) | (rw [if_neg (by omega)])
                      try simp only [Act.put, List.setIfInBounds_toArray, List.set_cons_zero, List.set_cons_succ]
                      refine wpAnyH_take (i := 2) (oi := { dst := some 47, op := Op.slice 43 (Operand.tmp 45) none (some (Operand.tmp 46)) none, type := 43, pos := _, after := #[{ on := 0, ground := Ground.data }, { on := 1, ground := Ground.data }], guard := none }) (v := ?_) rfl (by kernel_rfl) (by kernel_rfl) (by kernel_rfl) (fun _ _ _ h => h) (Or.inl ⟨by kernel_rfl, ?_⟩) (by assumption) ?_
                      rotate_left
                      · intro w hSw; subst hSw; go_simp; first | done | (with_reducible rfl) | (rw [if_neg (by omega)])
                      try simp only [Act.put, List.setIfInBounds_toArray, List.set_cons_zero, List.set_cons_succ]
                      refine wpAnyH_take (i := 3) (oi := { dst := some 48, op := Op.fieldAddr 50 (Operand.tmp 8) 0, type := 0, pos := _, after := #[], guard := none }) (v := ?_) rfl (by kernel_rfl) (by kernel_rfl) (by kernel_rfl) (fun _ _ _ h => h) (Or.inl ⟨by kernel_rfl, ?_⟩) (by assumption) ?_
                      rotate_left
                      · intro w hSw; subst hSw; go_simp; first | done | (with_reducible rfl) | (rw [if_neg (by omega)])
                      try simp only [Act.put, List.setIfInBounds_toArray, List.set_cons_zero, List.set_cons_succ]
                      refine wpAnyH_take (i := 4) (oi := { dst := some 49, op := Op.load 3 (Operand.tmp 48), type := 3, pos := _, after := #[{ on := 3, ground := Ground.data }], guard := none }) (v := ?_) rfl (by kernel_rfl) (by kernel_rfl) (by kernel_rfl) (fun _ _ _ h => h) (Or.inl ⟨by kernel_rfl, ?_⟩) (by assumption) ?_
                      rotate_left
                      · intro w hSw; subst hSw; go_simp; first | done | (with_reducible rfl) | (rw [if_neg (by omega)])
                      try simp only [Act.put, List.setIfInBounds_toArray, List.set_cons_zero, List.set_cons_succ]
                      refine wpAnyH_ready (rs := [5]) (by kernel_rfl) (by simp) ?_
                      refine AllReadyH.cons (o := { dst := some 50, op := Op.call { callee := Callee.value (Operand.func 37), args := #[Operand.tmp 47, Operand.tmp 49], argTypes := #[43, 3] }, type := 4, pos := _, after := #[{ on := 2, ground := Ground.data }, { on := 4, ground := Ground.data }], guard := none }) rfl (fun K hK => ?_) AllReadyH.nil
                      rw [if_pos (by kernel_rfl)]
                      go_simp
                      go_at_call 37
                      refine HC.mono ?_
                      rintro e w' ⟨rfl, rfl⟩
                      go_wp2_with fail
                      refine hK.out _ _ rfl (fun hHeld2 => ?_)
                      clear hK K
                      try simp only [Act.put, List.setIfInBounds_toArray, List.set_cons_zero, List.set_cons_succ]
                      refine wpAnyH_take (i := 6) (oi := { dst := some 44, op := Op.assign (Operand.tmp 50), type := 4, pos := _, after := #[{ on := 5, ground := Ground.data }, { on := 5, ground := Ground.chain }], guard := none }) (v := ?_) rfl (by kernel_rfl) (by kernel_rfl) (by kernel_rfl) (fun _ _ _ h => h) (Or.inl ⟨by kernel_rfl, ?_⟩) (by assumption) ?_
                      rotate_left
                      · intro w hSw; subst hSw; go_simp; first | done | (with_reducible rfl) | (rw [if_neg (by omega)])
                      try simp only [Act.put, List.setIfInBounds_toArray, List.set_cons_zero, List.set_cons_succ]
                      refine wpAnyH_done (by kernel_rfl) ?_ _
                      skip
                      go_wp2_with (first
                        | (go_at_call 38; refine (cP_Kind _ _).mono ?_; rw [hK]; rintro e w' ⟨rfl, rfl⟩)
                        | (go_at_call 39; refine (cP_Numeric _ _).mono ?_; rw [hN5]; rintro e w' ⟨rfl, rfl⟩)
                        | (go_at_call 32; refine (cP_l6HasId (some ⟨b, off, none⟩) n c ms xf n _ hn hle (Nat.le_refl _) (hf0.below hb1.drew)).mono ?_; rw [hH']; rintro e w3 ⟨rfl, hb3⟩; have R3 := R1.drew.all hb3; have S3 := S1.drew.all hb3; have t0 := S3.cell 0 rfl; have t1 := S3.cell 1 rfl; have t2 := S3.cell 2 rfl; have t3 := S3.cell 3 rfl; have t4 := S3.cell 4 rfl; have r3 := R3.cell 0 rfl))
                      go_ret
                      exact ⟨by rw [HE.out]; rfl, (hb1.drew.trans (hb3.mono hb1.drew.size))⟩
                · rcases h8 : (xk == 8) with _ | _
                  · have n8 : ¬ xk = 8 := by simpa using h8
                    have mn8 : (xk != 8) = true := by simpa using n8
                    rcases h0 : (xf == 0) with _ | _
                    · have n0 : ¬ xf = 0 := by simpa using h0
                      have mn0 : (xf != 0) = true := by simpa using n0
                      have HE : Hid (fieldCode ms (I : Int) (J : Int) = 9) := Lib.hid (by rw [HX.out]; unfold fldCode; simp [hNO, hHN, hK, hN5, h8, h0])
                      clear HX
                      go_enter Try.func16, Try.ntmps16
                      go_wp2_with (first
                        | (go_at_call 31; refine (cP_in _ _ _ _).mono ?_; (first | rw [h1] | rw [h4]); rintro e w' ⟨rfl, rfl⟩)
                        | (go_at_call 36; refine (cP_NumberOk _ _).mono ?_; rw [hNO]; rintro e w' ⟨rfl, rfl⟩))
                      refine wp_region_held_drew (S := fun w' => w' = _) (by kernel_rfl) (rfl) (fun hHeld => ?_)
                      refine wpAnyH_take (i := 0) (oi := { dst := some 45, op := Op.move (Operand.tmp 7), type := 43, pos := _, after := #[], guard := none }) (v := ?_) rfl (by kernel_rfl) (by kernel_rfl) (by kernel_rfl) (fun _ _ _ h => h) (Or.inl ⟨by kernel_rfl, ?_⟩) (by assumption) ?_
                      rotate_left
                      · intro w hSw; subst hSw; go_simp; first | done | (with_reducible rfl) | (rw [if_neg (by omega)])
                      try simp only [Act.put, List.setIfInBounds_toArray, List.set_cons_zero, List.set_cons_succ]
                      refine wpAnyH_take (i := 1) (oi := { dst := some 46, op := Op.move (Operand.tmp 2), type := 3, pos := _, after := #[], guard := none }) (v := ?_) rfl (by kernel_rfl) (by kernel_rfl) (by kernel_rfl) (fun _ _ _ h => h) (Or.inl ⟨by kernel_rfl, ?_⟩) (by assumption) ?_
                      rotate_left
                      · intro w hSw; subst hSw; go_simp; first | done | (with_reducible rfl) | (rw [if_neg (by omega)])
                      try simp only [Act.put, List.setIfInBounds_toArray, List.set_cons_zero, List.set_cons_succ]
                      refine wpAnyH_take (i := 2) (oi := { dst := some 47, op := Op.slice 43 (Operand.tmp 45) none (some (Operand.tmp 46)) none, type := 43, pos := _, after := #[{ on := 0, ground := Ground.data }, { on := 1, ground := Ground.data }], guard := none }) (v := ?_) rfl (by kernel_rfl) (by kernel_rfl) (by kernel_rfl) (fun _ _ _ h => h) (Or.inl ⟨by kernel_rfl, ?_⟩) (by assumption) ?_
                      rotate_left
                      · intro w hSw; subst hSw; go_simp; first | done | (with_reducible rfl) | (rw [if_neg (by omega)])
                      try simp only [Act.put, List.setIfInBounds_toArray, List.set_cons_zero, List.set_cons_succ]
                      refine wpAnyH_take (i := 3) (oi := { dst := some 48, op := Op.fieldAddr 50 (Operand.tmp 8) 0, type := 0, pos := _, after := #[], guard := none }) (v := ?_) rfl (by kernel_rfl) (by kernel_rfl) (by kernel_rfl) (fun _ _ _ h => h) (Or.inl ⟨by kernel_rfl, ?_⟩) (by assumption) ?_
                      rotate_left
                      · intro w hSw; subst hSw; go_simp; first | done | (with_reducible rfl) | (rw [if_neg (by omega)])
                      try simp only [Act.put, List.setIfInBounds_toArray, List.set_cons_zero, List.set_cons_succ]
                      refine wpAnyH_take (i := 4) (oi := { dst := some 49, op := Op.load 3 (Operand.tmp 48), type := 3, pos := _, after := #[{ on := 3, ground := Ground.data }], guard := none }) (v := ?_) rfl (by kernel_rfl) (by kernel_rfl) (by kernel_rfl) (fun _ _ _ h => h) (Or.inl ⟨by kernel_rfl, ?_⟩) (by assumption) ?_
                      rotate_left
                      · intro w hSw; subst hSw; go_simp; first | done | (with_reducible rfl) | (rw [if_neg (by omega)])
                      try simp only [Act.put, List.setIfInBounds_toArray, List.set_cons_zero, List.set_cons_succ]
                      refine wpAnyH_ready (rs := [5]) (by kernel_rfl) (by simp) ?_
                      refine AllReadyH.cons (o := { dst := some 50, op := Op.call { callee := Callee.value (Operand.func 37), args := #[Operand.tmp 47, Operand.tmp 49], argTypes := #[43, 3] }, type := 4, pos := _, after := #[{ on := 2, ground := Ground.data }, { on := 4, ground := Ground.data }], guard := none }) rfl (fun K hK => ?_) AllReadyH.nil
                      rw [if_pos (by kernel_rfl)]
                      go_simp
                      go_at_call 37
                      refine HC.mono ?_
                      rintro e w' ⟨rfl, rfl⟩
                      go_wp2_with fail
                      refine hK.out _ _ rfl (fun hHeld2 => ?_)
                      clear hK K
                      try simp only [Act.put, List.setIfInBounds_toArray, List.set_cons_zero, List.set_cons_succ]
                      refine wpAnyH_take (i := 6) (oi := { dst := some 44, op := Op.assign (Operand.tmp 50), type := 4, pos := _, after := #[{ on := 5, ground := Ground.data }, { on := 5, ground := Ground.chain }], guard := none }) (v := ?_) rfl (by kernel_rfl) (by kernel_rfl) (by kernel_rfl) (fun _ _ _ h => h) (Or.inl ⟨by kernel_rfl, ?_⟩) (by assumption) ?_
                      rotate_left
                      · intro w hSw; subst hSw; go_simp; first | done | (with_reducible rfl) | (rw [if_neg (by omega)])
                      try simp only [Act.put, List.setIfInBounds_toArray, List.set_cons_zero, List.set_cons_succ]
                      refine wpAnyH_done (by kernel_rfl) ?_ _
                      skip
                      go_wp2_with (first
                        | (go_at_call 38; refine (cP_Kind _ _).mono ?_; rw [hK]; rintro e w' ⟨rfl, rfl⟩)
                        | (go_at_call 39; refine (cP_Numeric _ _).mono ?_; rw [hN5]; rintro e w' ⟨rfl, rfl⟩))
                      go_ret
                      exact ⟨by rw [HE.out]; rfl, hb1.drew⟩
                    · obtain rfl : xf = 0 := by simpa using h0
                      have HE : Hid (fieldCode ms (I : Int) (J : Int) = 0) := Lib.hid (by rw [HX.out]; unfold fldCode; simp [hNO, hHN, hK, hN5, h8, h0])
                      clear HX
                      go_enter Try.func16, Try.ntmps16
                      go_wp2_with (first
                        | (go_at_call 31; refine (cP_in _ _ _ _).mono ?_; (first | rw [h1] | rw [h4]); rintro e w' ⟨rfl, rfl⟩)
                        | (go_at_call 36; refine (cP_NumberOk _ _).mono ?_; rw [hNO]; rintro e w' ⟨rfl, rfl⟩))
                      refine wp_region_held_drew (S := fun w' => w' = _) (by kernel_rfl) (rfl) (fun hHeld => ?_)
                      refine wpAnyH_take (i := 0) (oi := { dst := some 45, op := Op.move (Operand.tmp 7), type := 43, pos := _, after := #[], guard := none }) (v := ?_) rfl (by kernel_rfl) (by kernel_rfl) (by kernel_rfl) (fun _ _ _ h => h) (Or.inl ⟨by kernel_rfl, ?_⟩) (by assumption) ?_
                      rotate_left
                      · intro w hSw; subst hSw; go_simp; first | done | (with_reducible rfl) | (rw [if_neg (by omega)])
                      try simp only [Act.put, List.setIfInBounds_toArray, List.set_cons_zero, List.set_cons_succ]
                      refine wpAnyH_take (i := 1) (oi := { dst := some 46, op := Op.move (Operand.tmp 2), type := 3, pos := _, after := #[], guard := none }) (v := ?_) rfl (by kernel_rfl) (by kernel_rfl) (by kernel_rfl) (fun _ _ _ h => h) (Or.inl ⟨by kernel_rfl, ?_⟩) (by assumption) ?_
                      rotate_left
                      · intro w hSw; subst hSw; go_simp; first | done | (with_reducible rfl) | (rw [if_neg (by omega)])
                      try simp only [Act.put, List.setIfInBounds_toArray, List.set_cons_zero, List.set_cons_succ]
                      refine wpAnyH_take (i := 2) (oi := { dst := some 47, op := Op.slice 43 (Operand.tmp 45) none (some (Operand.tmp 46)) none, type := 43, pos := _, after := #[{ on := 0, ground := Ground.data }, { on := 1, ground := Ground.data }], guard := none }) (v := ?_) rfl (by kernel_rfl) (by kernel_rfl) (by kernel_rfl) (fun _ _ _ h => h) (Or.inl ⟨by kernel_rfl, ?_⟩) (by assumption) ?_
                      rotate_left
                      · intro w hSw; subst hSw; go_simp; first | done | (with_reducible rfl) | (rw [if_neg (by omega)])
                      try simp only [Act.put, List.setIfInBounds_toArray, List.set_cons_zero, List.set_cons_succ]
                      refine wpAnyH_take (i := 3) (oi := { dst := some 48, op := Op.fieldAddr 50 (Operand.tmp 8) 0, type := 0, pos := _, after := #[], guard := none }) (v := ?_) rfl (by kernel_rfl) (by kernel_rfl) (by kernel_rfl) (fun _ _ _ h => h) (Or.inl ⟨by kernel_rfl, ?_⟩) (by assumption) ?_
                      rotate_left
                      · intro w hSw; subst hSw; go_simp; first | done | (with_reducible rfl) | (rw [if_neg (by omega)])
                      try simp only [Act.put, List.setIfInBounds_toArray, List.set_cons_zero, List.set_cons_succ]
                      refine wpAnyH_take (i := 4) (oi := { dst := some 49, op := Op.load 3 (Operand.tmp 48), type := 3, pos := _, after := #[{ on := 3, ground := Ground.data }], guard := none }) (v := ?_) rfl (by kernel_rfl) (by kernel_rfl) (by kernel_rfl) (fun _ _ _ h => h) (Or.inl ⟨by kernel_rfl, ?_⟩) (by assumption) ?_
                      rotate_left
                      · intro w hSw; subst hSw; go_simp; first | done | (with_reducible rfl) | (rw [if_neg (by omega)])
                      try simp only [Act.put, List.setIfInBounds_toArray, List.set_cons_zero, List.set_cons_succ]
                      refine wpAnyH_ready (rs := [5]) (by kernel_rfl) (by simp) ?_
                      refine AllReadyH.cons (o := { dst := some 50, op := Op.call { callee := Callee.value (Operand.func 37), args := #[Operand.tmp 47, Operand.tmp 49], argTypes := #[43, 3] }, type := 4, pos := _, after := #[{ on := 2, ground := Ground.data }, { on := 4, ground := Ground.data }], guard := none }) rfl (fun K hK => ?_) AllReadyH.nil
                      rw [if_pos (by kernel_rfl)]
                      go_simp
                      go_at_call 37
                      refine HC.mono ?_
                      rintro e w' ⟨rfl, rfl⟩
                      go_wp2_with fail
                      refine hK.out _ _ rfl (fun hHeld2 => ?_)
                      clear hK K
                      try simp only [Act.put, List.setIfInBounds_toArray, List.set_cons_zero, List.set_cons_succ]
                      refine wpAnyH_take (i := 6) (oi := { dst := some 44, op := Op.assign (Operand.tmp 50), type := 4, pos := _, after := #[{ on := 5, ground := Ground.data }, { on := 5, ground := Ground.chain }], guard := none }) (v := ?_) rfl (by kernel_rfl) (by kernel_rfl) (by kernel_rfl) (fun _ _ _ h => h) (Or.inl ⟨by kernel_rfl, ?_⟩) (by assumption) ?_
                      rotate_left
                      · intro w hSw; subst hSw; go_simp; first | done | (with_reducible rfl) | (rw [if_neg (by omega)])
                      try simp only [Act.put, List.setIfInBounds_toArray, List.set_cons_zero, List.set_cons_succ]
                      refine wpAnyH_done (by kernel_rfl) ?_ _
                      skip
                      go_wp2_with (first
                        | (go_at_call 38; refine (cP_Kind _ _).mono ?_; rw [hK]; rintro e w' ⟨rfl, rfl⟩)
                        | (go_at_call 39; refine (cP_Numeric _ _).mono ?_; rw [hN5]; rintro e w' ⟨rfl, rfl⟩))
                      go_ret
                      exact ⟨by rw [HE.out]; rfl, hb1.drew⟩
                  · obtain rfl : xk = 8 := by simpa using h8
                    have hT : ms.take n = ms := List.take_of_length_le (by omega)
                    rcases hH : hasId ms xf with _ | _
                    · have hH' : hasId (ms.take n) xf = false := by rw [hT]; exact hH
                      have HE : Hid (fieldCode ms (I : Int) (J : Int) = 9) := Lib.hid (by rw [HX.out]; unfold fldCode; simp [hNO, hHN, hK, hN5, h8, hH])
                      clear HX
                      go_enter Try.func16, Try.ntmps16
                      go_wp2_with (first
                        | (go_at_call 31; refine (cP_in _ _ _ _).mono ?_; (first | rw [h1] | rw [h4]); rintro e w' ⟨rfl, rfl⟩)
                        | (go_at_call 36; refine (cP_NumberOk _ _).mono ?_; rw [hNO]; rintro e w' ⟨rfl, rfl⟩))
                      refine wp_region_held_drew (S := fun w' => w' = _) (by kernel_rfl) (rfl) (fun hHeld => ?_)
                      refine wpAnyH_take (i := 0) (oi := { dst := some 45, op := Op.move (Operand.tmp 7), type := 43, pos := _, after := #[], guard := none }) (v := ?_) rfl (by kernel_rfl) (by kernel_rfl) (by kernel_rfl) (fun _ _ _ h => h) (Or.inl ⟨by kernel_rfl, ?_⟩) (by assumption) ?_
                      rotate_left
                      · intro w hSw; subst hSw; go_simp; first | done | (with_reducible rfl) | (rw [if_neg (by omega)])
                      try simp only [Act.put, List.setIfInBounds_toArray, List.set_cons_zero, List.set_cons_succ]
                      refine wpAnyH_take (i := 1) (oi := { dst := some 46, op := Op.move (Operand.tmp 2), type := 3, pos := _, after := #[], guard := none }) (v := ?_) rfl (by kernel_rfl) (by kernel_rfl) (by kernel_rfl) (fun _ _ _ h => h) (Or.inl ⟨by kernel_rfl, ?_⟩) (by assumption) ?_
                      rotate_left
                      · intro w hSw; subst hSw; go_simp; first | done | (with_reducible rfl) | (rw [if_neg (by omega)])
                      try simp only [Act.put, List.setIfInBounds_toArray, List.set_cons_zero, List.set_cons_succ]
                      refine wpAnyH_take (i := 2) (oi := { dst := some 47, op := Op.slice 43 (Operand.tmp 45) none (some (Operand.tmp 46)) none, type := 43, pos := _, after := #[{ on := 0, ground := Ground.data }, { on := 1, ground := Ground.data }], guard := none }) (v := ?_) rfl (by kernel_rfl) (by kernel_rfl) (by kernel_rfl) (fun _ _ _ h => h) (Or.inl ⟨by kernel_rfl, ?_⟩) (by assumption) ?_
                      rotate_left
                      · intro w hSw; subst hSw; go_simp; first | done | (with_reducible rfl) | (rw [if_neg (by omega)])
                      try simp only [Act.put, List.setIfInBounds_toArray, List.set_cons_zero, List.set_cons_succ]
                      refine wpAnyH_take (i := 3) (oi := { dst := some 48, op := Op.fieldAddr 50 (Operand.tmp 8) 0, type := 0, pos := _, after := #[], guard := none }) (v := ?_) rfl (by kernel_rfl) (by kernel_rfl) (by kernel_rfl) (fun _ _ _ h => h) (Or.inl ⟨by kernel_rfl, ?_⟩) (by assumption) ?_
                      rotate_left
                      · intro w hSw; subst hSw; go_simp; first | done | (with_reducible rfl) | (rw [if_neg (by omega)])
                      try simp only [Act.put, List.setIfInBounds_toArray, List.set_cons_zero, List.set_cons_succ]
                      refine wpAnyH_take (i := 4) (oi := { dst := some 49, op := Op.load 3 (Operand.tmp 48), type := 3, pos := _, after := #[{ on := 3, ground := Ground.data }], guard := none }) (v := ?_) rfl (by kernel_rfl) (by kernel_rfl) (by kernel_rfl) (fun _ _ _ h => h) (Or.inl ⟨by kernel_rfl, ?_⟩) (by assumption) ?_
                      rotate_left
                      · intro w hSw; subst hSw; go_simp; first | done | (with_reducible rfl) | (rw [if_neg (by omega)])
                      try simp only [Act.put, List.setIfInBounds_toArray, List.set_cons_zero, List.set_cons_succ]
                      refine wpAnyH_ready (rs := [5]) (by kernel_rfl) (by simp) ?_
                      refine AllReadyH.cons (o := { dst := some 50, op := Op.call { callee := Callee.value (Operand.func 37), args := #[Operand.tmp 47, Operand.tmp 49], argTypes := #[43, 3] }, type := 4, pos := _, after := #[{ on := 2, ground := Ground.data }, { on := 4, ground := Ground.data }], guard := none }) rfl (fun K hK => ?_) AllReadyH.nil
                      rw [if_pos (by kernel_rfl)]
                      go_simp
                      go_at_call 37
                      refine HC.mono ?_
                      rintro e w' ⟨rfl, rfl⟩
                      go_wp2_with fail
                      refine hK.out _ _ rfl (fun hHeld2 => ?_)
                      clear hK K
                      try simp only [Act.put, List.setIfInBounds_toArray, List.set_cons_zero, List.set_cons_succ]
                      refine wpAnyH_take (i := 6) (oi := { dst := some 44, op := Op.assign (Operand.tmp 50), type := 4, pos := _, after := #[{ on := 5, ground := Ground.data }, { on := 5, ground := Ground.chain }], guard := none }) (v := ?_) rfl (by kernel_rfl) (by kernel_rfl) (by kernel_rfl) (fun _ _ _ h => h) (Or.inl ⟨by kernel_rfl, ?_⟩) (by assumption) ?_
                      rotate_left
                      · intro w hSw; subst hSw; go_simp; first | done | (with_reducible rfl) | (rw [if_neg (by omega)])
                      try simp only [Act.put, List.setIfInBounds_toArray, List.set_cons_zero, List.set_cons_succ]
                      refine wpAnyH_done (by kernel_rfl) ?_ _
                      skip
                      go_wp2_with (first
                        | (go_at_call 38; refine (cP_Kind _ _).mono ?_; rw [hK]; rintro e w' ⟨rfl, rfl⟩)
                        | (go_at_call 39; refine (cP_Numeric _ _).mono ?_; rw [hN5]; rintro e w' ⟨rfl, rfl⟩)
                        | (go_at_call 32; refine (cP_l6HasId (some ⟨b, off, none⟩) n c ms xf n _ hn hle (Nat.le_refl _) (hf0.below hb1.drew)).mono ?_; rw [hH']; rintro e w3 ⟨rfl, hb3⟩; have R3 := R1.drew.all hb3; have S3 := S1.drew.all hb3; have t0 := S3.cell 0 rfl; have t1 := S3.cell 1 rfl; have t2 := S3.cell 2 rfl; have t3 := S3.cell 3 rfl; have t4 := S3.cell 4 rfl; have r3 := R3.cell 0 rfl))
                      go_ret
                      exact ⟨by rw [HE.out]; rfl, (hb1.drew.trans (hb3.mono hb1.drew.size))⟩
                    · have hH' : hasId (ms.take n) xf = true := by rw [hT]; exact hH
                      have HE : Hid (fieldCode ms (I : Int) (J : Int) = 0) := Lib.hid (by rw [HX.out]; unfold fldCode; simp [hNO, hHN, hK, hN5, h8, hH])
                      clear HX
                      go_enter Try.func16, Try.ntmps16
                      go_wp2_with (first
                        | (go_at_call 31; refine (cP_in _ _ _ _).mono ?_; (first | rw [h1] | rw [h4]); rintro e w' ⟨rfl, rfl⟩)
                        | (go_at_call 36; refine (cP_NumberOk _ _).mono ?_; rw [hNO]; rintro e w' ⟨rfl, rfl⟩))
                      refine wp_region_held_drew (S := fun w' => w' = _) (by kernel_rfl) (rfl) (fun hHeld => ?_)
                      refine wpAnyH_take (i := 0) (oi := { dst := some 45, op := Op.move (Operand.tmp 7), type := 43, pos := _, after := #[], guard := none }) (v := ?_) rfl (by kernel_rfl) (by kernel_rfl) (by kernel_rfl) (fun _ _ _ h => h) (Or.inl ⟨by kernel_rfl, ?_⟩) (by assumption) ?_
                      rotate_left
                      · intro w hSw; subst hSw; go_simp; first | done | (with_reducible rfl) | (rw [if_neg (by omega)])
                      try simp only [Act.put, List.setIfInBounds_toArray, List.set_cons_zero, List.set_cons_succ]
                      refine wpAnyH_take (i := 1) (oi := { dst := some 46, op := Op.move (Operand.tmp 2), type := 3, pos := _, after := #[], guard := none }) (v := ?_) rfl (by kernel_rfl) (by kernel_rfl) (by kernel_rfl) (fun _ _ _ h => h) (Or.inl ⟨by kernel_rfl, ?_⟩) (by assumption) ?_
                      rotate_left
                      · intro w hSw; subst hSw; go_simp; first | done | (with_reducible rfl) | (rw [if_neg (by omega)])
                      try simp only [Act.put, List.setIfInBounds_toArray, List.set_cons_zero, List.set_cons_succ]
                      refine wpAnyH_take (i := 2) (oi := { dst := some 47, op := Op.slice 43 (Operand.tmp 45) none (some (Operand.tmp 46)) none, type := 43, pos := _, after := #[{ on := 0, ground := Ground.data }, { on := 1, ground := Ground.data }], guard := none }) (v := ?_) rfl (by kernel_rfl) (by kernel_rfl) (by kernel_rfl) (fun _ _ _ h => h) (Or.inl ⟨by kernel_rfl, ?_⟩) (by assumption) ?_
                      rotate_left
                      · intro w hSw; subst hSw; go_simp; first | done | (with_reducible rfl) | (rw [if_neg (by omega)])
                      try simp only [Act.put, List.setIfInBounds_toArray, List.set_cons_zero, List.set_cons_succ]
                      refine wpAnyH_take (i := 3) (oi := { dst := some 48, op := Op.fieldAddr 50 (Operand.tmp 8) 0, type := 0, pos := _, after := #[], guard := none }) (v := ?_) rfl (by kernel_rfl) (by kernel_rfl) (by kernel_rfl) (fun _ _ _ h => h) (Or.inl ⟨by kernel_rfl, ?_⟩) (by assumption) ?_
                      rotate_left
                      · intro w hSw; subst hSw; go_simp; first | done | (with_reducible rfl) | (rw [if_neg (by omega)])
                      try simp only [Act.put, List.setIfInBounds_toArray, List.set_cons_zero, List.set_cons_succ]
                      refine wpAnyH_take (i := 4) (oi := { dst := some 49, op := Op.load 3 (Operand.tmp 48), type := 3, pos := _, after := #[{ on := 3, ground := Ground.data }], guard := none }) (v := ?_) rfl (by kernel_rfl) (by kernel_rfl) (by kernel_rfl) (fun _ _ _ h => h) (Or.inl ⟨by kernel_rfl, ?_⟩) (by assumption) ?_
                      rotate_left
                      · intro w hSw; subst hSw; go_simp; first | done | (with_reducible rfl) | (rw [if_neg (by omega)])
                      try simp only [Act.put, List.setIfInBounds_toArray, List.set_cons_zero, List.set_cons_succ]
                      refine wpAnyH_ready (rs := [5]) (by kernel_rfl) (by simp) ?_
                      refine AllReadyH.cons (o := { dst := some 50, op := Op.call { callee := Callee.value (Operand.func 37), args := #[Operand.tmp 47, Operand.tmp 49], argTypes := #[43, 3] }, type := 4, pos := _, after := #[{ on := 2, ground := Ground.data }, { on := 4, ground := Ground.data }], guard := none }) rfl (fun K hK => ?_) AllReadyH.nil
                      rw [if_pos (by kernel_rfl)]
                      go_simp
                      go_at_call 37
                      refine HC.mono ?_
                      rintro e w' ⟨rfl, rfl⟩
                      go_wp2_with fail
                      refine hK.out _ _ rfl (fun hHeld2 => ?_)
                      clear hK K
                      try simp only [Act.put, List.setIfInBounds_toArray, List.set_cons_zero, List.set_cons_succ]
                      refine wpAnyH_take (i := 6) (oi := { dst := some 44, op := Op.assign (Operand.tmp 50), type := 4, pos := _, after := #[{ on := 5, ground := Ground.data }, { on := 5, ground := Ground.chain }], guard := none }) (v := ?_) rfl (by kernel_rfl) (by kernel_rfl) (by kernel_rfl) (fun _ _ _ h => h) (Or.inl ⟨by kernel_rfl, ?_⟩) (by assumption) ?_
                      rotate_left
                      · intro w hSw; subst hSw; go_simp; first | done | (with_reducible rfl) | (rw [if_neg (by omega)])
                      try simp only [Act.put, List.setIfInBounds_toArray, List.set_cons_zero, List.set_cons_succ]
                      refine wpAnyH_done (by kernel_rfl) ?_ _
                      skip
                      go_wp2_with (first
                        | (go_at_call 38; refine (cP_Kind _ _).mono ?_; rw [hK]; rintro e w' ⟨rfl, rfl⟩)
                        | (go_at_call 39; refine (cP_Numeric _ _).mono ?_; rw [hN5]; rintro e w' ⟨rfl, rfl⟩)
                        | (go_at_call 32; refine (cP_l6HasId (some ⟨b, off, none⟩) n c ms xf n _ hn hle (Nat.le_refl _) (hf0.below hb1.drew)).mono ?_; rw [hH']; rintro e w3 ⟨rfl, hb3⟩; have R3 := R1.drew.all hb3; have S3 := S1.drew.all hb3; have t0 := S3.cell 0 rfl; have t1 := S3.cell 1 rfl; have t2 := S3.cell 2 rfl; have t3 := S3.cell 3 rfl; have t4 := S3.cell 4 rfl; have r3 := R3.cell 0 rfl))
                      go_ret
                      exact ⟨by rw [HE.out]; rfl, (hb1.drew.trans (hb3.mono hb1.drew.size))⟩
              · rcases xr with _ | _
                · have HE : Hid (fieldCode ms (I : Int) (J : Int) = 8) := Lib.hid (by rw [HX.out]; unfold fldCode; simp [hNO, hHN, hK, hN5])
                  clear HX
                  go_enter Try.func16, Try.ntmps16
                  go_wp2_with (first
                    | (go_at_call 31; refine (cP_in _ _ _ _).mono ?_; (first | rw [h1] | rw [h4]); rintro e w' ⟨rfl, rfl⟩)
                    | (go_at_call 36; refine (cP_NumberOk _ _).mono ?_; rw [hNO]; rintro e w' ⟨rfl, rfl⟩))
                  refine wp_region_held_drew (S := fun w' => w' = _) (by kernel_rfl) (rfl) (fun hHeld => ?_)
                  refine wpAnyH_take (i := 0) (oi := { dst := some 45, op := Op.move (Operand.tmp 7), type := 43, pos := _, after := #[], guard := none }) (v := ?_) rfl (by kernel_rfl) (by kernel_rfl) (by kernel_rfl) (fun _ _ _ h => h) (Or.inl ⟨by kernel_rfl, ?_⟩) (by assumption) ?_
                  rotate_left
                  · intro w hSw; subst hSw; go_simp; first | done | (with_reducible rfl) | (rw [if_neg (by omega)])
                  try simp only [Act.put, List.setIfInBounds_toArray, List.set_cons_zero, List.set_cons_succ]
                  refine wpAnyH_take (i := 1) (oi := { dst := some 46, op := Op.move (Operand.tmp 2), type := 3, pos := _, after := #[], guard := none }) (v := ?_) rfl (by kernel_rfl) (by kernel_rfl) (by kernel_rfl) (fun _ _ _ h => h) (Or.inl ⟨by kernel_rfl, ?_⟩) (by assumption) ?_
                  rotate_left
                  · intro w hSw; subst hSw; go_simp; first | done | (with_reducible rfl) | (rw [if_neg (by omega)])
                  try simp only [Act.put, List.setIfInBounds_toArray, List.set_cons_zero, List.set_cons_succ]
                  refine wpAnyH_take (i := 2) (oi := { dst := some 47, op := Op.slice 43 (Operand.tmp 45) none (some (Operand.tmp 46)) none, type := 43, pos := _, after := #[{ on := 0, ground := Ground.data }, { on := 1, ground := Ground.data }], guard := none }) (v := ?_) rfl (by kernel_rfl) (by kernel_rfl) (by kernel_rfl) (fun _ _ _ h => h) (Or.inl ⟨by kernel_rfl, ?_⟩) (by assumption) ?_
                  rotate_left
                  · intro w hSw; subst hSw; go_simp; first | done | (with_reducible rfl) | (rw [if_neg (by omega)])
                  try simp only [Act.put, List.setIfInBounds_toArray, List.set_cons_zero, List.set_cons_succ]
                  refine wpAnyH_take (i := 3) (oi := { dst := some 48, op := Op.fieldAddr 50 (Operand.tmp 8) 0, type := 0, pos := _, after := #[], guard := none }) (v := ?_) rfl (by kernel_rfl) (by kernel_rfl) (by kernel_rfl) (fun _ _ _ h => h) (Or.inl ⟨by kernel_rfl, ?_⟩) (by assumption) ?_
                  rotate_left
                  · intro w hSw; subst hSw; go_simp; first | done | (with_reducible rfl) | (rw [if_neg (by omega)])
                  try simp only [Act.put, List.setIfInBounds_toArray, List.set_cons_zero, List.set_cons_succ]
                  refine wpAnyH_take (i := 4) (oi := { dst := some 49, op := Op.load 3 (Operand.tmp 48), type := 3, pos := _, after := #[{ on := 3, ground := Ground.data }], guard := none }) (v := ?_) rfl (by kernel_rfl) (by kernel_rfl) (by kernel_rfl) (fun _ _ _ h => h) (Or.inl ⟨by kernel_rfl, ?_⟩) (by assumption) ?_
                  rotate_left
                  · intro w hSw; subst hSw; go_simp; first | done | (with_reducible rfl) | (rw [if_neg (by omega)])
                  try simp only [Act.put, List.setIfInBounds_toArray, List.set_cons_zero, List.set_cons_succ]
                  refine wpAnyH_ready (rs := [5]) (by kernel_rfl) (by simp) ?_
                  refine AllReadyH.cons (o := { dst := some 50, op := Op.call { callee := Callee.value (Operand.func 37), args := #[Operand.tmp 47, Operand.tmp 49], argTypes := #[43, 3] }, type := 4, pos := _, after := #[{ on := 2, ground := Ground.data }, { on := 4, ground := Ground.data }], guard := none }) rfl (fun K hK => ?_) AllReadyH.nil
                  rw [if_pos (by kernel_rfl)]
                  go_simp
                  go_at_call 37
                  refine HC.mono ?_
                  rintro e w' ⟨rfl, rfl⟩
                  go_wp2_with fail
                  refine hK.out _ _ rfl (fun hHeld2 => ?_)
                  clear hK K
                  try simp only [Act.put, List.setIfInBounds_toArray, List.set_cons_zero, List.set_cons_succ]
                  refine wpAnyH_take (i := 6) (oi := { dst := some 44, op := Op.assign (Operand.tmp 50), type := 4, pos := _, after := #[{ on := 5, ground := Ground.data }, { on := 5, ground := Ground.chain }], guard := none }) (v := ?_) rfl (by kernel_rfl) (by kernel_rfl) (by kernel_rfl) (fun _ _ _ h => h) (Or.inl ⟨by kernel_rfl, ?_⟩) (by assumption) ?_
                  rotate_left
                  · intro w hSw; subst hSw; go_simp; first | done | (with_reducible rfl) | (rw [if_neg (by omega)])
                  try simp only [Act.put, List.setIfInBounds_toArray, List.set_cons_zero, List.set_cons_succ]
                  refine wpAnyH_done (by kernel_rfl) ?_ _
                  skip
                  go_wp2_with (first
                    | (go_at_call 38; refine (cP_Kind _ _).mono ?_; rw [hK]; rintro e w' ⟨rfl, rfl⟩)
                    | (go_at_call 39; refine (cP_Numeric _ _).mono ?_; rw [hN5]; rintro e w' ⟨rfl, rfl⟩))
                  go_ret
                  exact ⟨by rw [HE.out]; rfl, hb1.drew⟩
                · rcases h8 : (xk == 8) with _ | _
                  · have n8 : ¬ xk = 8 := by simpa using h8
                    have mn8 : (xk != 8) = true := by simpa using n8
                    rcases h0 : (xf == 0) with _ | _
                    · have n0 : ¬ xf = 0 := by simpa using h0
                      have mn0 : (xf != 0) = true := by simpa using n0
                      have HE : Hid (fieldCode ms (I : Int) (J : Int) = 9) := Lib.hid (by rw [HX.out]; unfold fldCode; simp [hNO, hHN, hK, hN5, h8, h0])
                      clear HX
                      go_enter Try.func16, Try.ntmps16
                      go_wp2_with (first
                        | (go_at_call 31; refine (cP_in _ _ _ _).mono ?_; (first | rw [h1] | rw [h4]); rintro e w' ⟨rfl, rfl⟩)
                        | (go_at_call 36; refine (cP_NumberOk _ _).mono ?_; rw [hNO]; rintro e w' ⟨rfl, rfl⟩))
                      refine wp_region_held_drew (S := fun w' => w' = _) (by kernel_rfl) (rfl) (fun hHeld => ?_)
                      refine wpAnyH_take (i := 0) (oi := { dst := some 45, op := Op.move (Operand.tmp 7), type := 43, pos := _, after := #[], guard := none }) (v := ?_) rfl (by kernel_rfl) (by kernel_rfl) (by kernel_rfl) (fun _ _ _ h => h) (Or.inl ⟨by kernel_rfl, ?_⟩) (by assumption) ?_
                      rotate_left
                      · intro w hSw; subst hSw; go_simp; first | done | (with_reducible rfl) | (rw [if_neg (by omega)])
                      try simp only [Act.put, List.setIfInBounds_toArray, List.set_cons_zero, List.set_cons_succ]
                      refine wpAnyH_take (i := 1) (oi := { dst := some 46, op := Op.move (Operand.tmp 2), type := 3, pos := _, after := #[], guard := none }) (v := ?_) rfl (by kernel_rfl) (by kernel_rfl) (by kernel_rfl) (fun _ _ _ h => h) (Or.inl ⟨by kernel_rfl, ?_⟩) (by assumption) ?_
                      rotate_left
                      · intro w hSw; subst hSw; go_simp; first | done | (with_reducible rfl) | (rw [if_neg (by omega)])
                      try simp only [Act.put, List.setIfInBounds_toArray, List.set_cons_zero, List.set_cons_succ]
                      refine wpAnyH_take (i := 2) (oi := { dst := some 47, op := Op.slice 43 (Operand.tmp 45) none (some (Operand.tmp 46)) none, type := 43, pos := _, after := #[{ on := 0, ground := Ground.data }, { on := 1, ground := Ground.data }], guard := none }) (v := ?_) rfl (by kernel_rfl) (by kernel_rfl) (by kernel_rfl) (fun _ _ _ h => h) (Or.inl ⟨by kernel_rfl, ?_⟩) (by assumption) ?_
                      rotate_left
                      · intro w hSw; subst hSw; go_simp; first | done | (with_reducible rfl) | (rw [if_neg (by omega)])
                      try simp only [Act.put, List.setIfInBounds_toArray, List.set_cons_zero, List.set_cons_succ]
                      refine wpAnyH_take (i := 3) (oi := { dst := some 48, op := Op.fieldAddr 50 (Operand.tmp 8) 0, type := 0, pos := _, after := #[], guard := none }) (v := ?_) rfl (by kernel_rfl) (by kernel_rfl) (by kernel_rfl) (fun _ _ _ h => h) (Or.inl ⟨by kernel_rfl, ?_⟩) (by assumption) ?_
                      rotate_left
                      · intro w hSw; subst hSw; go_simp; first | done | (with_reducible rfl) | (rw [if_neg (by omega)])
                      try simp only [Act.put, List.setIfInBounds_toArray, List.set_cons_zero, List.set_cons_succ]
                      refine wpAnyH_take (i := 4) (oi := { dst := some 49, op := Op.load 3 (Operand.tmp 48), type := 3, pos := _, after := #[{ on := 3, ground := Ground.data }], guard := none }) (v := ?_) rfl (by kernel_rfl) (by kernel_rfl) (by kernel_rfl) (fun _ _ _ h => h) (Or.inl ⟨by kernel_rfl, ?_⟩) (by assumption) ?_
                      rotate_left
                      · intro w hSw; subst hSw; go_simp; first | done | (with_reducible rfl) | (rw [if_neg (by omega)])
                      try simp only [Act.put, List.setIfInBounds_toArray, List.set_cons_zero, List.set_cons_succ]
                      refine wpAnyH_ready (rs := [5]) (by kernel_rfl) (by simp) ?_
                      refine AllReadyH.cons (o := { dst := some 50, op := Op.call { callee := Callee.value (Operand.func 37), args := #[Operand.tmp 47, Operand.tmp 49], argTypes := #[43, 3] }, type := 4, pos := _, after := #[{ on := 2, ground := Ground.data }, { on := 4, ground := Ground.data }], guard := none }) rfl (fun K hK => ?_) AllReadyH.nil
                      rw [if_pos (by kernel_rfl)]
                      go_simp
                      go_at_call 37
                      refine HC.mono ?_
                      rintro e w' ⟨rfl, rfl⟩
                      go_wp2_with fail
                      refine hK.out _ _ rfl (fun hHeld2 => ?_)
                      clear hK K
                      try simp only [Act.put, List.setIfInBounds_toArray, List.set_cons_zero, List.set_cons_succ]
                      refine wpAnyH_take (i := 6) (oi := { dst := some 44, op := Op.assign (Operand.tmp 50), type := 4, pos := _, after := #[{ on := 5, ground := Ground.data }, { on := 5, ground := Ground.chain }], guard := none }) (v := ?_) rfl (by kernel_rfl) (by kernel_rfl) (by kernel_rfl) (fun _ _ _ h => h) (Or.inl ⟨by kernel_rfl, ?_⟩) (by assumption) ?_
                      rotate_left
                      · intro w hSw; subst hSw; go_simp; first | done | (with_reducible rfl) | (rw [if_neg (by omega)])
                      try simp only [Act.put, List.setIfInBounds_toArray, List.set_cons_zero, List.set_cons_succ]
                      refine wpAnyH_done (by kernel_rfl) ?_ _
                      skip
                      go_wp2_with (first
                        | (go_at_call 38; refine (cP_Kind _ _).mono ?_; rw [hK]; rintro e w' ⟨rfl, rfl⟩)
                        | (go_at_call 39; refine (cP_Numeric _ _).mono ?_; rw [hN5]; rintro e w' ⟨rfl, rfl⟩))
                      go_ret
                      exact ⟨by rw [HE.out]; rfl, hb1.drew⟩
                    · obtain rfl : xf = 0 := by simpa using h0
                      have HE : Hid (fieldCode ms (I : Int) (J : Int) = 0) := Lib.hid (by rw [HX.out]; unfold fldCode; simp [hNO, hHN, hK, hN5, h8, h0])
                      clear HX
                      go_enter Try.func16, Try.ntmps16
                      go_wp2_with (first
                        | (go_at_call 31; refine (cP_in _ _ _ _).mono ?_; (first | rw [h1] | rw [h4]); rintro e w' ⟨rfl, rfl⟩)
                        | (go_at_call 36; refine (cP_NumberOk _ _).mono ?_; rw [hNO]; rintro e w' ⟨rfl, rfl⟩))
                      refine wp_region_held_drew (S := fun w' => w' = _) (by kernel_rfl) (rfl) (fun hHeld => ?_)
                      refine wpAnyH_take (i := 0) (oi := { dst := some 45, op := Op.move (Operand.tmp 7), type := 43, pos := _, after := #[], guard := none }) (v := ?_) rfl (by kernel_rfl) (by kernel_rfl) (by kernel_rfl) (fun _ _ _ h => h) (Or.inl ⟨by kernel_rfl, ?_⟩) (by assumption) ?_
                      rotate_left
                      · intro w hSw; subst hSw; go_simp; first | done | (with_reducible rfl) | (rw [if_neg (by omega)])
                      try simp only [Act.put, List.setIfInBounds_toArray, List.set_cons_zero, List.set_cons_succ]
                      refine wpAnyH_take (i := 1) (oi := { dst := some 46, op := Op.move (Operand.tmp 2), type := 3, pos := _, after := #[], guard := none }) (v := ?_) rfl (by kernel_rfl) (by kernel_rfl) (by kernel_rfl) (fun _ _ _ h => h) (Or.inl ⟨by kernel_rfl, ?_⟩) (by assumption) ?_
                      rotate_left
                      · intro w hSw; subst hSw; go_simp; first | done | (with_reducible rfl) | (rw [if_neg (by omega)])
                      try simp only [Act.put, List.setIfInBounds_toArray, List.set_cons_zero, List.set_cons_succ]
                      refine wpAnyH_take (i := 2) (oi := { dst := some 47, op := Op.slice 43 (Operand.tmp 45) none (some (Operand.tmp 46)) none, type := 43, pos := _, after := #[{ on := 0, ground := Ground.data }, { on := 1, ground := Ground.data }], guard := none }) (v := ?_) rfl (by kernel_rfl) (by kernel_rfl) (by kernel_rfl) (fun _ _ _ h => h) (Or.inl ⟨by kernel_rfl, ?_⟩) (by assumption) ?_
                      rotate_left
                      · intro w hSw; subst hSw; go_simp; first | done | (with_reducible rfl) | (rw [if_neg (by omega)])
                      try simp only [Act.put, List.setIfInBounds_toArray, List.set_cons_zero, List.set_cons_succ]
                      refine wpAnyH_take (i := 3) (oi := { dst := some 48, op := Op.fieldAddr 50 (Operand.tmp 8) 0, type := 0, pos := _, after := #[], guard := none }) (v := ?_) rfl (by kernel_rfl) (by kernel_rfl) (by kernel_rfl) (fun _ _ _ h => h) (Or.inl ⟨by kernel_rfl, ?_⟩) (by assumption) ?_
                      rotate_left
                      · intro w hSw; subst hSw; go_simp; first | done | (with_reducible rfl) | (rw [if_neg (by omega)])
                      try simp only [Act.put, List.setIfInBounds_toArray, List.set_cons_zero, List.set_cons_succ]
                      refine wpAnyH_take (i := 4) (oi := { dst := some 49, op := Op.load 3 (Operand.tmp 48), type := 3, pos := _, after := #[{ on := 3, ground := Ground.data }], guard := none }) (v := ?_) rfl (by kernel_rfl) (by kernel_rfl) (by kernel_rfl) (fun _ _ _ h => h) (Or.inl ⟨by kernel_rfl, ?_⟩) (by assumption) ?_
                      rotate_left
                      · intro w hSw; subst hSw; go_simp; first | done | (with_reducible rfl) | (rw [if_neg (by omega)])
                      try simp only [Act.put, List.setIfInBounds_toArray, List.set_cons_zero, List.set_cons_succ]
                      refine wpAnyH_ready (rs := [5]) (by kernel_rfl) (by simp) ?_
                      refine AllReadyH.cons (o := { dst := some 50, op := Op.call { callee := Callee.value (Operand.func 37), args := #[Operand.tmp 47, Operand.tmp 49], argTypes := #[43, 3] }, type := 4, pos := _, after := #[{ on := 2, ground := Ground.data }, { on := 4, ground := Ground.data }], guard := none }) rfl (fun K hK => ?_) AllReadyH.nil
                      rw [if_pos (by kernel_rfl)]
                      go_simp
                      go_at_call 37
                      refine HC.mono ?_
                      rintro e w' ⟨rfl, rfl⟩
                      go_wp2_with fail
                      refine hK.out _ _ rfl (fun hHeld2 => ?_)
                      clear hK K
                      try simp only [Act.put, List.setIfInBounds_toArray, List.set_cons_zero, List.set_cons_succ]
                      refine wpAnyH_take (i := 6) (oi := { dst := some 44, op := Op.assign (Operand.tmp 50), type := 4, pos := _, after := #[{ on := 5, ground := Ground.data }, { on := 5, ground := Ground.chain }], guard := none }) (v := ?_) rfl (by kernel_rfl) (by kernel_rfl) (by kernel_rfl) (fun _ _ _ h => h) (Or.inl ⟨by kernel_rfl, ?_⟩) (by assumption) ?_
                      rotate_left
                      · intro w hSw; subst hSw; go_simp; first | done | (with_reducible rfl) | (rw [if_neg (by omega)])
                      try simp only [Act.put, List.setIfInBounds_toArray, List.set_cons_zero, List.set_cons_succ]
                      refine wpAnyH_done (by kernel_rfl) ?_ _
                      skip
                      go_wp2_with (first
                        | (go_at_call 38; refine (cP_Kind _ _).mono ?_; rw [hK]; rintro e w' ⟨rfl, rfl⟩)
                        | (go_at_call 39; refine (cP_Numeric _ _).mono ?_; rw [hN5]; rintro e w' ⟨rfl, rfl⟩))
                      go_ret
                      exact ⟨by rw [HE.out]; rfl, hb1.drew⟩
                  · obtain rfl : xk = 8 := by simpa using h8
                    have hT : ms.take n = ms := List.take_of_length_le (by omega)
                    rcases hH : hasId ms xf with _ | _
                    · have hH' : hasId (ms.take n) xf = false := by rw [hT]; exact hH
                      have HE : Hid (fieldCode ms (I : Int) (J : Int) = 9) := Lib.hid (by rw [HX.out]; unfold fldCode; simp [hNO, hHN, hK, hN5, h8, hH])
                      clear HX
                      go_enter Try.func16, Try.ntmps16
                      go_wp2_with (first
                        | (go_at_call 31; refine (cP_in _ _ _ _).mono ?_; (first | rw [h1] | rw [h4]); rintro e w' ⟨rfl, rfl⟩)
                        | (go_at_call 36; refine (cP_NumberOk _ _).mono ?_; rw [hNO]; rintro e w' ⟨rfl, rfl⟩))
                      refine wp_region_held_drew (S := fun w' => w' = _) (by kernel_rfl) (rfl) (fun hHeld => ?_)
                      refine wpAnyH_take (i := 0) (oi := { dst := some 45, op := Op.move (Operand.tmp 7), type := 43, pos := _, after := #[], guard := none }) (v := ?_) rfl (by kernel_rfl) (by kernel_rfl) (by kernel_rfl) (fun _ _ _ h => h) (Or.inl ⟨by kernel_rfl, ?_⟩) (by assumption) ?_
                      rotate_left
                      · intro w hSw; subst hSw; go_simp; first | done | (with_reducible rfl) | (rw [if_neg (by omega)])
                      try simp only [Act.put, List.setIfInBounds_toArray, List.set_cons_zero, List.set_cons_succ]
                      refine wpAnyH_take (i := 1) (oi := { dst := some 46, op := Op.move (Operand.tmp 2), type := 3, pos := _, after := #[], guard := none }) (v := ?_) rfl (by kernel_rfl) (by kernel_rfl) (by kernel_rfl) (fun _ _ _ h => h) (Or.inl ⟨by kernel_rfl, ?_⟩) (by assumption) ?_
                      rotate_left
                      · intro w hSw; subst hSw; go_simp; first | done | (with_reducible rfl) | (rw [if_neg (by omega)])
                      try simp only [Act.put, List.setIfInBounds_toArray, List.set_cons_zero, List.set_cons_succ]
                      refine wpAnyH_take (i := 2) (oi := { dst := some 47, op := Op.slice 43 (Operand.tmp 45) none (some (Operand.tmp 46)) none, type := 43, pos := _, after := #[{ on := 0, ground := Ground.data }, { on := 1, ground := Ground.data }], guard := none }) (v := ?_) rfl (by kernel_rfl) (by kernel_rfl) (by kernel_rfl) (fun _ _ _ h => h) (Or.inl ⟨by kernel_rfl, ?_⟩) (by assumption) ?_
                      rotate_left
                      · intro w hSw; subst hSw; go_simp; first | done | (with_reducible rfl) | (rw [if_neg (by omega)])
                      try simp only [Act.put, List.setIfInBounds_toArray, List.set_cons_zero, List.set_cons_succ]
                      refine wpAnyH_take (i := 3) (oi := { dst := some 48, op := Op.fieldAddr 50 (Operand.tmp 8) 0, type := 0, pos := _, after := #[], guard := none }) (v := ?_) rfl (by kernel_rfl) (by kernel_rfl) (by kernel_rfl) (fun _ _ _ h => h) (Or.inl ⟨by kernel_rfl, ?_⟩) (by assumption) ?_
                      rotate_left
                      · intro w hSw; subst hSw; go_simp; first | done | (with_reducible rfl) | (rw [if_neg (by omega)])
                      try simp only [Act.put, List.setIfInBounds_toArray, List.set_cons_zero, List.set_cons_succ]
                      refine wpAnyH_take (i := 4) (oi := { dst := some 49, op := Op.load 3 (Operand.tmp 48), type := 3, pos := _, after := #[{ on := 3, ground := Ground.data }], guard := none }) (v := ?_) rfl (by kernel_rfl) (by kernel_rfl) (by kernel_rfl) (fun _ _ _ h => h) (Or.inl ⟨by kernel_rfl, ?_⟩) (by assumption) ?_
                      rotate_left
                      · intro w hSw; subst hSw; go_simp; first | done | (with_reducible rfl) | (rw [if_neg (by omega)])
                      try simp only [Act.put, List.setIfInBounds_toArray, List.set_cons_zero, List.set_cons_succ]
                      refine wpAnyH_ready (rs := [5]) (by kernel_rfl) (by simp) ?_
                      refine AllReadyH.cons (o := { dst := some 50, op := Op.call { callee := Callee.value (Operand.func 37), args := #[Operand.tmp 47, Operand.tmp 49], argTypes := #[43, 3] }, type := 4, pos := _, after := #[{ on := 2, ground := Ground.data }, { on := 4, ground := Ground.data }], guard := none }) rfl (fun K hK => ?_) AllReadyH.nil
                      rw [if_pos (by kernel_rfl)]
                      go_simp
                      go_at_call 37
                      refine HC.mono ?_
                      rintro e w' ⟨rfl, rfl⟩
                      go_wp2_with fail
                      refine hK.out _ _ rfl (fun hHeld2 => ?_)
                      clear hK K
                      try simp only [Act.put, List.setIfInBounds_toArray, List.set_cons_zero, List.set_cons_succ]
                      refine wpAnyH_take (i := 6) (oi := { dst := some 44, op := Op.assign (Operand.tmp 50), type := 4, pos := _, after := #[{ on := 5, ground := Ground.data }, { on := 5, ground := Ground.chain }], guard := none }) (v := ?_) rfl (by kernel_rfl) (by kernel_rfl) (by kernel_rfl) (fun _ _ _ h => h) (Or.inl ⟨by kernel_rfl, ?_⟩) (by assumption) ?_
                      rotate_left
                      · intro w hSw; subst hSw; go_simp; first | done | (with_reducible rfl) | (rw [if_neg (by omega)])
                      try simp only [Act.put, List.setIfInBounds_toArray, List.set_cons_zero, List.set_cons_succ]
                      refine wpAnyH_done (by kernel_rfl) ?_ _
                      skip
                      go_wp2_with (first
                        | (go_at_call 38; refine (cP_Kind _ _).mono ?_; rw [hK]; rintro e w' ⟨rfl, rfl⟩)
                        | (go_at_call 39; refine (cP_Numeric _ _).mono ?_; rw [hN5]; rintro e w' ⟨rfl, rfl⟩)
                        | (go_at_call 32; refine (cP_l6HasId (some ⟨b, off, none⟩) n c ms xf n _ hn hle (Nat.le_refl _) (hf0.below hb1.drew)).mono ?_; rw [hH']; rintro e w3 ⟨rfl, hb3⟩; have R3 := R1.drew.all hb3; have S3 := S1.drew.all hb3; have t0 := S3.cell 0 rfl; have t1 := S3.cell 1 rfl; have t2 := S3.cell 2 rfl; have t3 := S3.cell 3 rfl; have t4 := S3.cell 4 rfl; have r3 := R3.cell 0 rfl))
                      go_ret
                      exact ⟨by rw [HE.out]; rfl, (hb1.drew.trans (hb3.mono hb1.drew.size))⟩
                    · have hH' : hasId (ms.take n) xf = true := by rw [hT]; exact hH
                      have HE : Hid (fieldCode ms (I : Int) (J : Int) = 0) := Lib.hid (by rw [HX.out]; unfold fldCode; simp [hNO, hHN, hK, hN5, h8, hH])
                      clear HX
                      go_enter Try.func16, Try.ntmps16
                      go_wp2_with (first
                        | (go_at_call 31; refine (cP_in _ _ _ _).mono ?_; (first | rw [h1] | rw [h4]); rintro e w' ⟨rfl, rfl⟩)
                        | (go_at_call 36; refine (cP_NumberOk _ _).mono ?_; rw [hNO]; rintro e w' ⟨rfl, rfl⟩))
                      refine wp_region_held_drew (S := fun w' => w' = _) (by kernel_rfl) (rfl) (fun hHeld => ?_)
                      refine wpAnyH_take (i := 0) (oi := { dst := some 45, op := Op.move (Operand.tmp 7), type := 43, pos := _, after := #[], guard := none }) (v := ?_) rfl (by kernel_rfl) (by kernel_rfl) (by kernel_rfl) (fun _ _ _ h => h) (Or.inl ⟨by kernel_rfl, ?_⟩) (by assumption) ?_
                      rotate_left
                      · intro w hSw; subst hSw; go_simp; first | done | (with_reducible rfl) | (rw [if_neg (by omega)])
                      try simp only [Act.put, List.setIfInBounds_toArray, List.set_cons_zero, List.set_cons_succ]
                      refine wpAnyH_take (i := 1) (oi := { dst := some 46, op := Op.move (Operand.tmp 2), type := 3, pos := _, after := #[], guard := none }) (v := ?_) rfl (by kernel_rfl) (by kernel_rfl) (by kernel_rfl) (fun _ _ _ h => h) (Or.inl ⟨by kernel_rfl, ?_⟩) (by assumption) ?_
                      rotate_left
                      · intro w hSw; subst hSw; go_simp; first | done | (with_reducible rfl) | (rw [if_neg (by omega)])
                      try simp only [Act.put, List.setIfInBounds_toArray, List.set_cons_zero, List.set_cons_succ]
                      refine wpAnyH_take (i := 2) (oi := { dst := some 47, op := Op.slice 43 (Operand.tmp 45) none (some (Operand.tmp 46)) none, type := 43, pos := _, after := #[{ on := 0, ground := Ground.data }, { on := 1, ground := Ground.data }], guard := none }) (v := ?_) rfl (by kernel_rfl) (by kernel_rfl) (by kernel_rfl) (fun _ _ _ h => h) (Or.inl ⟨by kernel_rfl, ?_⟩) (by assumption) ?_
                      rotate_left
                      · intro w hSw; subst hSw; go_simp; first | done | (with_reducible rfl) | (rw [if_neg (by omega)])
                      try simp only [Act.put, List.setIfInBounds_toArray, List.set_cons_zero, List.set_cons_succ]
                      refine wpAnyH_take (i := 3) (oi := { dst := some 48, op := Op.fieldAddr 50 (Operand.tmp 8) 0, type := 0, pos := _, after := #[], guard := none }) (v := ?_) rfl (by kernel_rfl) (by kernel_rfl) (by kernel_rfl) (fun _ _ _ h => h) (Or.inl ⟨by kernel_rfl, ?_⟩) (by assumption) ?_
                      rotate_left
                      · intro w hSw; subst hSw; go_simp; first | done | (with_reducible rfl) | (rw [if_neg (by omega)])
                      try simp only [Act.put, List.setIfInBounds_toArray, List.set_cons_zero, List.set_cons_succ]
                      refine wpAnyH_take (i := 4) (oi := { dst := some 49, op := Op.load 3 (Operand.tmp 48), type := 3, pos := _, after := #[{ on := 3, ground := Ground.data }], guard := none }) (v := ?_) rfl (by kernel_rfl) (by kernel_rfl) (by kernel_rfl) (fun _ _ _ h => h) (Or.inl ⟨by kernel_rfl, ?_⟩) (by assumption) ?_
                      rotate_left
                      · intro w hSw; subst hSw; go_simp; first | done | (with_reducible rfl) | (rw [if_neg (by omega)])
                      try simp only [Act.put, List.setIfInBounds_toArray, List.set_cons_zero, List.set_cons_succ]
                      refine wpAnyH_ready (rs := [5]) (by kernel_rfl) (by simp) ?_
                      refine AllReadyH.cons (o := { dst := some 50, op := Op.call { callee := Callee.value (Operand.func 37), args := #[Operand.tmp 47, Operand.tmp 49], argTypes := #[43, 3] }, type := 4, pos := _, after := #[{ on := 2, ground := Ground.data }, { on := 4, ground := Ground.data }], guard := none }) rfl (fun K hK => ?_) AllReadyH.nil
                      rw [if_pos (by kernel_rfl)]
                      go_simp
                      go_at_call 37
                      refine HC.mono ?_
                      rintro e w' ⟨rfl, rfl⟩
                      go_wp2_with fail
                      refine hK.out _ _ rfl (fun hHeld2 => ?_)
                      clear hK K
                      try simp only [Act.put, List.setIfInBounds_toArray, List.set_cons_zero, List.set_cons_succ]
                      refine wpAnyH_take (i := 6) (oi := { dst := some 44, op := Op.assign (Operand.tmp 50), type := 4, pos := _, after := #[{ on := 5, ground := Ground.data }, { on := 5, ground := Ground.chain }], guard := none }) (v := ?_) rfl (by kernel_rfl) (by kernel_rfl) (by kernel_rfl) (fun _ _ _ h => h) (Or.inl ⟨by kernel_rfl, ?_⟩) (by assumption) ?_
                      rotate_left
                      · intro w hSw; subst hSw; go_simp; first | done | (with_reducible rfl) | (rw [if_neg (by omega)])
                      try simp only [Act.put, List.setIfInBounds_toArray, List.set_cons_zero, List.set_cons_succ]
                      refine wpAnyH_done (by kernel_rfl) ?_ _
                      skip
                      go_wp2_with (first
                        | (go_at_call 38; refine (cP_Kind _ _).mono ?_; rw [hK]; rintro e w' ⟨rfl, rfl⟩)
                        | (go_at_call 39; refine (cP_Numeric _ _).mono ?_; rw [hN5]; rintro e w' ⟨rfl, rfl⟩)
                        | (go_at_call 32; refine (cP_l6HasId (some ⟨b, off, none⟩) n c ms xf n _ hn hle (Nat.le_refl _) (hf0.below hb1.drew)).mono ?_; rw [hH']; rintro e w3 ⟨rfl, hb3⟩; have R3 := R1.drew.all hb3; have S3 := S1.drew.all hb3; have t0 := S3.cell 0 rfl; have t1 := S3.cell 1 rfl; have t2 := S3.cell 2 rfl; have t3 := S3.cell 3 rfl; have t4 := S3.cell 4 rfl; have r3 := R3.cell 0 rfl))
                      go_ret
                      exact ⟨by rw [HE.out]; rfl, (hb1.drew.trans (hb3.mono hb1.drew.size))⟩
        · rw [hHN] at HC
          have HE : Hid (fieldCode ms (I : Int) (J : Int) = 6) := Lib.hid (by rw [HX.out]; unfold fldCode; simp [hNO, hHN])
          clear HX
          go_enter Try.func16, Try.ntmps16
          go_wp2_with (first
            | (go_at_call 31; refine (cP_in _ _ _ _).mono ?_; (first | rw [h1] | rw [h4]); rintro e w' ⟨rfl, rfl⟩)
            | (go_at_call 36; refine (cP_NumberOk _ _).mono ?_; rw [hNO]; rintro e w' ⟨rfl, rfl⟩))
          refine wp_region_held_drew (S := fun w' => w' = _) (by kernel_rfl) (rfl) (fun hHeld => ?_)
          refine wpAnyH_take (i := 0) (oi := { dst := some 45, op := Op.move (Operand.tmp 7), type := 43, pos := _, after := #[], guard := none }) (v := ?_) rfl (by kernel_rfl) (by kernel_rfl) (by kernel_rfl) (fun _ _ _ h => h) (Or.inl ⟨by kernel_rfl, ?_⟩) (by assumption) ?_
          rotate_left
          · intro w hSw; subst hSw; go_simp; first | done | (with_reducible rfl) | (rw [if_neg (by omega)])
          try simp only [Act.put, List.setIfInBounds_toArray, List.set_cons_zero, List.set_cons_succ]
          refine wpAnyH_take (i := 1) (oi := { dst := some 46, op := Op.move (Operand.tmp 2), type := 3, pos := _, after := #[], guard := none }) (v := ?_) rfl (by kernel_rfl) (by kernel_rfl) (by kernel_rfl) (fun _ _ _ h => h) (Or.inl ⟨by kernel_rfl, ?_⟩) (by assumption) ?_
          rotate_left
          · intro w hSw; subst hSw; go_simp; first | done | (with_reducible rfl) | (rw [if_neg (by omega)])
          try simp only [Act.put, List.setIfInBounds_toArray, List.set_cons_zero, List.set_cons_succ]
          refine wpAnyH_take (i := 2) (oi := { dst := some 47, op := Op.slice 43 (Operand.tmp 45) none (some (Operand.tmp 46)) none, type := 43, pos := _, after := #[{ on := 0, ground := Ground.data }, { on := 1, ground := Ground.data }], guard := none }) (v := ?_) rfl (by kernel_rfl) (by kernel_rfl) (by kernel_rfl) (fun _ _ _ h => h) (Or.inl ⟨by kernel_rfl, ?_⟩) (by assumption) ?_
          rotate_left
          · intro w hSw; subst hSw; go_simp; first | done | (with_reducible rfl) | (rw [if_neg (by omega)])
          try simp only [Act.put, List.setIfInBounds_toArray, List.set_cons_zero, List.set_cons_succ]
          refine wpAnyH_take (i := 3) (oi := { dst := some 48, op := Op.fieldAddr 50 (Operand.tmp 8) 0, type := 0, pos := _, after := #[], guard := none }) (v := ?_) rfl (by kernel_rfl) (by kernel_rfl) (by kernel_rfl) (fun _ _ _ h => h) (Or.inl ⟨by kernel_rfl, ?_⟩) (by assumption) ?_
          rotate_left
          · intro w hSw; subst hSw; go_simp; first | done | (with_reducible rfl) | (rw [if_neg (by omega)])
          try simp only [Act.put, List.setIfInBounds_toArray, List.set_cons_zero, List.set_cons_succ]
          refine wpAnyH_take (i := 4) (oi := { dst := some 49, op := Op.load 3 (Operand.tmp 48), type := 3, pos := _, after := #[{ on := 3, ground := Ground.data }], guard := none }) (v := ?_) rfl (by kernel_rfl) (by kernel_rfl) (by kernel_rfl) (fun _ _ _ h => h) (Or.inl ⟨by kernel_rfl, ?_⟩) (by assumption) ?_
          rotate_left
          · intro w hSw; subst hSw; go_simp; first | done | (with_reducible rfl) | (rw [if_neg (by omega)])
          try simp only [Act.put, List.setIfInBounds_toArray, List.set_cons_zero, List.set_cons_succ]
          refine wpAnyH_ready (rs := [5]) (by kernel_rfl) (by simp) ?_
          refine AllReadyH.cons (o := { dst := some 50, op := Op.call { callee := Callee.value (Operand.func 37), args := #[Operand.tmp 47, Operand.tmp 49], argTypes := #[43, 3] }, type := 4, pos := _, after := #[{ on := 2, ground := Ground.data }, { on := 4, ground := Ground.data }], guard := none }) rfl (fun K hK => ?_) AllReadyH.nil
          rw [if_pos (by kernel_rfl)]
          go_simp
          go_at_call 37
          refine HC.mono ?_
          rintro e w' ⟨rfl, rfl⟩
          go_wp2_with fail
          refine hK.out _ _ rfl (fun hHeld2 => ?_)
          clear hK K
          try simp only [Act.put, List.setIfInBounds_toArray, List.set_cons_zero, List.set_cons_succ]
          refine wpAnyH_take (i := 6) (oi := { dst := some 44, op := Op.assign (Operand.tmp 50), type := 4, pos := _, after := #[{ on := 5, ground := Ground.data }, { on := 5, ground := Ground.chain }], guard := none }) (v := ?_) rfl (by kernel_rfl) (by kernel_rfl) (by kernel_rfl) (fun _ _ _ h => h) (Or.inl ⟨by kernel_rfl, ?_⟩) (by assumption) ?_
          rotate_left
          · intro w hSw; subst hSw; go_simp; first | done | (with_reducible rfl) | (rw [if_neg (by omega)])
          try simp only [Act.put, List.setIfInBounds_toArray, List.set_cons_zero, List.set_cons_succ]
          refine wpAnyH_done (by kernel_rfl) ?_ _
          skip
          go_wp2_with (first
            | (go_at_call 38; refine (cP_Kind _ _).mono ?_; rw [hK]; rintro e w' ⟨rfl, rfl⟩)
            | (go_at_call 39; refine (cP_Numeric _ _).mono ?_; rw [hN5]; rintro e w' ⟨rfl, rfl⟩))
          go_ret
          exact ⟨by rw [HE.out]; rfl, hb1.drew⟩
end Go.Proofs.Ytcoghgpgfaifaaa
