/- Contracts of FixByte, and the walks of three exact laws. Conditions: integers fit their kinds. -/
import Derived.Test.YtdoiaddjeifckaaGetFixC
namespace Go.Proofs.Ytdoiaddjeifckaa
open Go.RowKit Plain
set_option linter.unusedVariables false
set_option linter.unusedSimpArgs false
def fbOver (h x : Int) : Bool := !(inB h 0 7) || !(inB x 0 255)
def fbBits (b h x : Int) : Int := if fbOver h x = true then b else (b + x * 2 ^ (8 * h).toNat) % 18446744073709551616
def fbHave (h x : Int) : Int := if fbOver h x = true then h else h + 1
theorem fb_yes {b h x : Int} (k : fbOver h x = true) : b = fbBits b h x ∧ h = fbHave h x := by simp [fbBits, fbHave, k]
theorem fb_no {b h x : Int} (k : fbOver h x = false) : (b + x * 2 ^ (8 * h).toNat) % 18446744073709551616 = fbBits b h x ∧ h + 1 = fbHave h x := by simp [fbBits, fbHave, k]
theorem fb_wrap (b y : Int) : IntKind.u64.wrap (b + IntKind.u64.wrap y) = (b + y) % 18446744073709551616 := by simp only [IntKind.wrap_u64]; omega
theorem ret_fb {b h x B H : Int} (e1 : B = fbBits b h x) (e2 : H = fbHave h x) :
    Ending.returned (.agg #[.int .u64 B, .int .i64 H]) = .returned (.agg #[.int .u64 (fbBits b h x), .int .i64 (fbHave h x)]) := by rw [e1, e2]
theorem isByte_d (n : Int) (w : World) : Calls Try.prog 55 #[.int .i64 n] w fun e w' => e = .returned (.bool (inB n 0 255)) ∧ w = w' := by
  go_enter Try.func55, Try.ntmps55
  go_wp2_with (go_at_call 52; refine (cI_within _ _ _ _).mono ?_; rintro e w' ⟨rfl, rfl⟩)
  go_ret
  exact ⟨rfl, rfl⟩
set_option maxRecDepth 20000 in
set_option maxHeartbeats 1000000 in
theorem cP_FixByte (b h x : Int) (w : World) (h0 : 0 ≤ b) (h1 : b ≤ 18446744073709551615) : Calls Try.prog 25 #[.agg #[.int .u64 b, .int .i64 h], .int .i64 x] w fun e w' => e = .returned (.agg #[.int .u64 (fbBits b h x), .int .i64 (fbHave h x)]) ∧ Below w.heap.size w w' := by
  rcases hin : inB h 0 7 with _ | _
  · have HO := Lib.hid (fb_yes (b := b) (h := h) (x := x) (by simp [fbOver, hin]))
    go_enter Try.func25, Try.ntmps25
    go_wp2_with (first | (go_at_call 51; refine (cP_in _ _ _ _).mono ?_; rintro e w' ⟨rfl, rfl⟩))
    exact bodyPost_ret (v := .agg #[.int .u64 b, .int .i64 h]) (by simp [results, Try.results25, go_sem]) rfl ⟨ret_fb HO.out.1 HO.out.2, by repeat (first | exact Below.refl _ _ | refine Below.alloc ?_ (by simp; omega) _ | refine Below.alloc ?_ (by simp) _)⟩
  · rcases hix : inB x 0 255 with _ | _
    · have HO := Lib.hid (fb_yes (b := b) (h := h) (x := x) (by simp [fbOver, hix]))
      go_enter Try.func25, Try.ntmps25
      go_wp2_with (first | (go_at_call 51; refine (cP_in _ _ _ _).mono ?_; rintro e w' ⟨rfl, rfl⟩))
      exact bodyPost_ret (v := .agg #[.int .u64 b, .int .i64 h]) (by simp [results, Try.results25, go_sem]) rfl ⟨ret_fb HO.out.1 HO.out.2, by repeat (first | exact Below.refl _ _ | refine Below.alloc ?_ (by simp; omega) _ | refine Below.alloc ?_ (by simp) _)⟩
    · obtain ⟨hk1, hk2⟩ := inB_yes hin
      obtain ⟨hx1, hx2⟩ := inB_yes hix
      have HO := Lib.hid (fb_no (b := b) (h := h) (x := x) (by simp [fbOver, hin, hix]))
      go_enter Try.func25, Try.ntmps25
      go_wp2_with (first | (go_at_call 51; refine (cP_in _ _ _ _).mono ?_; rintro e w' ⟨rfl, rfl⟩))
      exact bodyPost_ret (v := .agg #[.int .u64 (IntKind.u64.wrap (b + IntKind.u64.wrap (x * 2 ^ (8 * h).toNat))), .int .i64 (h + 1)]) (by simp [results, Try.results25, go_sem]) rfl ⟨ret_fb ((fb_wrap _ _).trans HO.out.1) HO.out.2, by repeat (first | exact Below.refl _ _ | refine Below.alloc ?_ (by simp; omega) _ | refine Below.alloc ?_ (by simp) _)⟩
set_option maxRecDepth 20000 in
set_option maxHeartbeats 1000000 in
theorem cI_FixByte (b h x : Int) (w : World) (h0 : 0 ≤ b) (h1 : b ≤ 18446744073709551615) : Calls Try.prog 27 #[.agg #[.int .u64 b, .int .i64 h], .int .i64 x] w fun e w' => e = .returned (.agg #[.int .u64 (fbBits b h x), .int .i64 (fbHave h x)]) ∧ Below w.heap.size w w' := by
  rcases hin : inB h 0 7 with _ | _
  · have HO := Lib.hid (fb_yes (b := b) (h := h) (x := x) (by simp [fbOver, hin]))
    go_enter Try.func27, Try.ntmps27
    go_wp2_with (first | (go_at_call 52; refine (cI_within _ _ _ _).mono ?_; rintro e w' ⟨rfl, rfl⟩) | (go_at_call 55; refine (isByte_d _ _).mono ?_; rintro e w' ⟨rfl, rfl⟩))
    exact bodyPost_ret (v := .agg #[.int .u64 b, .int .i64 h]) (by simp [results, Try.results27, go_sem]) rfl ⟨ret_fb HO.out.1 HO.out.2, by repeat (first | exact Below.refl _ _ | refine Below.alloc ?_ (by simp; omega) _ | refine Below.alloc ?_ (by simp) _)⟩
  · rcases hix : inB x 0 255 with _ | _
    · have HO := Lib.hid (fb_yes (b := b) (h := h) (x := x) (by simp [fbOver, hix]))
      go_enter Try.func27, Try.ntmps27
      go_wp2_with (first | (go_at_call 52; refine (cI_within _ _ _ _).mono ?_; rintro e w' ⟨rfl, rfl⟩) | (go_at_call 55; refine (isByte_d _ _).mono ?_; rintro e w' ⟨rfl, rfl⟩))
      exact bodyPost_ret (v := .agg #[.int .u64 b, .int .i64 h]) (by simp [results, Try.results27, go_sem]) rfl ⟨ret_fb HO.out.1 HO.out.2, by repeat (first | exact Below.refl _ _ | refine Below.alloc ?_ (by simp; omega) _ | refine Below.alloc ?_ (by simp) _)⟩
    · obtain ⟨hk1, hk2⟩ := inB_yes hin
      obtain ⟨hx1, hx2⟩ := inB_yes hix
      have HO := Lib.hid (fb_no (b := b) (h := h) (x := x) (by simp [fbOver, hin, hix]))
      go_enter Try.func27, Try.ntmps27
      go_wp2_with (first | (go_at_call 52; refine (cI_within _ _ _ _).mono ?_; rintro e w' ⟨rfl, rfl⟩) | (go_at_call 55; refine (isByte_d _ _).mono ?_; rintro e w' ⟨rfl, rfl⟩))
      exact bodyPost_ret (v := .agg #[.int .u64 (IntKind.u64.wrap (b + IntKind.u64.wrap (x * 2 ^ (8 * h).toNat))), .int .i64 (h + 1)]) (by simp [results, Try.results27, go_sem]) rfl ⟨ret_fb ((fb_wrap _ _).trans HO.out.1) HO.out.2, by repeat (first | exact Below.refl _ _ | refine Below.alloc ?_ (by simp; omega) _ | refine Below.alloc ?_ (by simp) _)⟩
theorem walkFnExactPutFix (u k : Int) (w : World) (h : (Lit.int .u64 u).wf = true) (hk : (Lit.int .i64 k).wf = true) : Calls Try.prog 5 #[.int .u64 u, .int .i64 k] w fun e w' => e = .returned (.bool true) ∧ Below w.heap.size w w' := by
  obtain ⟨h0, h1⟩ := u64_bd h
  clear h hk
  go_enter Try.func5, Try.ntmps5
  go_wp2_with fail
  refine (cP_PutFix _ _ _ h0 h1).mono ?_
  rintro e w1 ⟨rfl, hb1⟩
  go_wp2_with fail
  refine (cI_PutFix _ _ _ h0 h1).mono ?_
  rintro e w2 ⟨rfl, hb2⟩
  go_wp2
  go_ret
  exact ⟨rfl, hb1.trans (hb2.mono hb1.size)⟩
theorem walkFnExactGetFix (s : ByteArray) (a k : Int) (w : World) (hs : s.size ≤ maxLen) (ha : (Lit.int .i64 a).wf = true) (hk : (Lit.int .i64 k).wf = true) : Calls Try.prog 6 #[.string s, .int .i64 a, .int .i64 k] w fun e w' => e = .returned (.bool true) ∧ Below w.heap.size w w' := by
  obtain ⟨h0, h1⟩ := i64_bd ha
  clear ha hk
  by_cases hbig : 1048576 < s.size
  · go_enter Try.func6, Try.ntmps6
    go_wp2
    go_ret
    exact ⟨rfl, Below.refl _ _⟩
  · go_enter Try.func6, Try.ntmps6
    go_wp2_with fail
    refine (cP_GetFix _ _ _ _ (by omega) h0 h1).mono ?_
    rintro e w1 ⟨rfl, rfl⟩
    go_wp2_with fail
    refine (cI_GetFix _ _ _ _ (by omega) h0 h1).mono ?_
    rintro e w2 ⟨rfl, rfl⟩
    go_wp2
    go_ret
    exact ⟨rfl, Below.refl _ _⟩
theorem cL_toScan (b h : Int) (w : World) : Calls Try.prog 26 #[.agg #[.int .u64 b, .int .i64 h]] w fun e w' => e = .returned (.agg #[.int .u64 b, .int .i64 h]) ∧ Below w.heap.size w w' := by
  go_enter Try.func26, Try.ntmps26
  go_wp2
  exact bodyPost_ret (v := .agg #[.int .u64 b, .int .i64 h]) (by simp [results, Try.results26, go_sem]) rfl ⟨rfl, by repeat (first | exact Below.refl _ _ | refine Below.setCell ?_ (by simp) _ | refine Below.alloc ?_ (by simp; omega) _ | refine Below.alloc ?_ (by simp) _)⟩
theorem cL_eqScan (b h : Int) (w : World) : Calls Try.prog 28 #[.agg #[.int .u64 b, .int .i64 h], .agg #[.int .u64 b, .int .i64 h]] w fun e w' => e = .returned (.bool true) ∧ Below w.heap.size w w' := by
  go_enter Try.func28, Try.ntmps28
  go_wp2
  go_ret
  exact ⟨rfl, by repeat (first | exact Below.refl _ _ | refine Below.setCell ?_ (by simp) _ | refine Below.alloc ?_ (by simp; omega) _ | refine Below.alloc ?_ (by simp) _)⟩
theorem walkFnExactFixByte (b h x : Int) (w : World) (hb : (Lit.int .u64 b).wf = true) (hh : (Lit.int .i64 h).wf = true) (hx : (Lit.int .i64 x).wf = true) : Calls Try.prog 8 #[.agg #[.int .u64 b, .int .i64 h], .int .i64 x] w fun e w' => e = .returned (.bool true) ∧ Below w.heap.size w w' := by
  obtain ⟨h0, h1⟩ := u64_bd hb
  clear hb hh hx
  go_enter Try.func8, Try.ntmps8
  go_wp2_with fail
  refine (cL_toScan _ _ _).mono ?_
  rintro e w1 ⟨rfl, hb1⟩
  have X1 := (Box.new w 32 #[.int .u64 b, .int .i64 h]).all hb1
  have s1 : w.heap.size < w1.heap.size := X1.lt
  have c1 := X1.cell 0 rfl; have d1 := X1.cell 1 rfl
  go_wp2_with fail
  refine (cP_FixByte _ _ _ _ h0 h1).mono ?_
  rintro e w2 ⟨rfl, hb2⟩
  have X2 := X1.all hb2
  have s2 : w.heap.size < w2.heap.size := X2.lt
  have c2 := X2.cell 0 rfl; have d2 := X2.cell 1 rfl
  go_wp2_with fail
  refine (cL_toScan _ _ _).mono ?_
  rintro e w3 ⟨rfl, hb3⟩
  have Y3 := (Box.new w2 33 #[.int .u64 (fbBits b h x), .int .i64 (fbHave h x)]).all hb3
  have s3 : w2.heap.size < w3.heap.size := Y3.lt
  have e3 := Y3.cell 0 rfl; have f3 := Y3.cell 1 rfl
  go_wp2_with fail
  refine (cI_FixByte _ _ _ _ h0 h1).mono ?_
  rintro e w4 ⟨rfl, hb4⟩
  have Y4 := Y3.all hb4
  have s4 : w2.heap.size < w4.heap.size := Y4.lt
  have e4 := Y4.cell 0 rfl; have f4 := Y4.cell 1 rfl
  go_wp2_with fail
  refine (cL_eqScan _ _ _).mono ?_
  rintro e w5 ⟨rfl, hb5⟩
  go_wp2
  go_ret
  have B1 := ((Below.refl w.heap.size w).alloc (Nat.le_refl _) _).trans (hb1.mono (by simp))
  have B2 := B1.trans (hb2.mono B1.size)
  have B3 := (B2.alloc B2.size _).trans (hb3.mono (by simp; have := B2.size; omega))
  have B4 := B3.trans (hb4.mono B3.size)
  have B5 := (B4.alloc B4.size _).trans (hb5.mono (by simp; have := B4.size; omega))
  exact ⟨rfl, B5⟩
end Go.Proofs.Ytdoiaddjeifckaa
