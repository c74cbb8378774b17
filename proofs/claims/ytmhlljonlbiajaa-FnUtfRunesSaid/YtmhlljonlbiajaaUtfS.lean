/- Contracts of RuneText, and the walks of two laws over it. Conditions: integers fit their kinds. -/
import Derived.Test.YtmhlljonlbiajaaRow
import Derived.Test.YtmhlljonlbiajaaUtfR
import Derived.Test.YtmhlljonlbiajaaNum
namespace Go.Proofs.Ytmhlljonlbiajaa
open Go.RowKit Plain
set_option linter.unusedVariables false
set_option linter.unusedSimpArgs false
theorem encode_encR {n : Int} (hs : scalar n = true) : Utf8.encode n = bs (encR n) := by
  obtain ⟨h0, h1, h2⟩ := scalar_iff.1 hs
  have hv : Utf8.valid n = true := by
    rw [validRune_eq]; unfold validRune; rw [decide_eq_true_eq]; omega
  unfold Utf8.encode
  simp only [hv, if_true]
  by_cases a1 : n < 128
  · rw [if_pos (by omega), encR_1 h0 a1]; rfl
  · rw [if_neg (by omega)]
    by_cases a2 : n < 2048
    · rw [if_pos (by omega), encR_2 (by omega) a2]; rfl
    · rw [if_neg (by omega)]
      by_cases a3 : n < 65536
      · rw [if_pos (by omega), encR_3 hs (by omega) a3]; rfl
      · rw [if_neg (by omega), encR_4 hs (by omega)]; rfl
theorem scalar_no {n : Int} (h : scalar n = false) : (n < 0 ∨ 1114111 < n) ∨ (0 ≤ n ∧ n ≤ 1114111 ∧ 55296 ≤ n ∧ n ≤ 57343) := by
  simp only [scalar, decide_eq_false_iff_not] at h; omega
theorem rune_split (n : Int) : (encR n = [] ∧ inB n 0 1114111 = false) ∨ (encR n = [] ∧ inB n 0 1114111 = true ∧ inB n 55296 57343 = true) ∨ (scalar n = true ∧ 0 ≤ n ∧ n ≤ 1114111 ∧ inB n 0 1114111 = true ∧ inB n 55296 57343 = false) := by
  cases hs : scalar n
  · rcases scalar_no hs with h | ⟨h1, h2, h3, h4⟩
    · exact .inl ⟨encR_no hs, inB_mk_no h⟩
    · exact .inr (.inl ⟨encR_no hs, inB_mk h1 h2, inB_mk h3 h4⟩)
  · obtain ⟨h0, h1, h2⟩ := scalar_iff.1 hs
    exact .inr (.inr ⟨rfl, h0, h1, inB_mk h0 h1, inB_mk_no (by omega)⟩)
set_option maxHeartbeats 1000000 in
theorem cI_RuneText (n : Int) (w : World) (h1 : -9223372036854775808 ≤ n) (h2 : n ≤ 9223372036854775807) : Calls Try.prog 14 #[.int .i64 n] w fun e w' => e = .returned (.string (bs (encR n))) ∧ w = w' := by
  rcases rune_split n with ⟨e, q1⟩ | ⟨e, q1, q2⟩ | ⟨hs, n0, n1, q1, q2⟩
  · rw [e]; clear e
    go_enter Try.func14, Try.ntmps14
    go_wp2_with (go_at_call 33; refine (cI_within _ _ _ _).mono ?_; rintro e w' ⟨rfl, rfl⟩)
    go_ret
    exact ⟨rfl, rfl⟩
  · rw [e]; clear e
    go_enter Try.func14, Try.ntmps14
    go_wp2_with (go_at_call 33; refine (cI_within _ _ _ _).mono ?_; rintro e w' ⟨rfl, rfl⟩)
    go_ret
    exact ⟨rfl, rfl⟩
  · have HE := Lib.hid (encode_encR hs)
    have hw : IntKind.i32.wrap n = n := by unfold IntKind.wrap; simp [IntKind.bits, IntKind.signed]; omega
    clear hs
    go_enter Try.func14, Try.ntmps14
    go_wp2_with (go_at_call 33; refine (cI_within _ _ _ _).mono ?_; rintro e w' ⟨rfl, rfl⟩)
    go_ret
    exact ⟨by rw [← HE.out]; first | rfl | simp [HE.out, hw], rfl⟩
theorem u8r : U8s Try.prog 34 5 9 :=
  ⟨Try.underlying34, Try.underlying5, Try.underlying9, info_parts (show (Try.prog.info? 5).map (fun i => (i.zero, i.size, i.bytes)) = some (some (.int .u8 0), 1, 1) by kernel_rfl)⟩
theorem news (w : World) (e : TypeId) (l : List Nat) (vs : List Int) (hl : l.length ≤ maxLen) (hv : vs = l.map fun n : Nat => (n : Int)) : RowAt (w.alloc (.cells (vs.map fun v => Value.int .u8 v).toArray e)) w.heap.size l.length l := by
  subst hv
  have h := RowAt.new w ((l.map fun n : Nat => (n : Int)).map fun v => Value.int .u8 v).toArray e l (fun j hj => by simp [hj, List.getD]) (by simp) (by simpa using hl)
  simpa using h
theorem conv_lit (w : World) (vs : List Int) (l : List Nat) (hv : vs = l.map fun n : Nat => (n : Int)) (k : Nat) (hk : l.length = k) (hle : k ≤ maxLen) :
    (convert 34 9 (.slice (some ⟨w.heap.size, 0, none⟩) k k)).run Try.prog (w.alloc (.cells (vs.map fun v => Value.int .u8 v).toArray 5)) = .ok (.string (bs l)) (w.alloc (.cells (vs.map fun v => Value.int .u8 v).toArray 5)) := by
  have hr := news w 5 l vs (by omega) hv
  rw [hk] at hr
  exact run_string_of_row' u8r hr k hk
set_option maxRecDepth 20000 in
set_option maxHeartbeats 1000000 in
theorem cP_RuneText (n : Int) (w : World) (h1 : -9223372036854775808 ≤ n) (h2 : n ≤ 9223372036854775807) : Calls Try.prog 13 #[.int .i64 n] w fun e w' => e = .returned (.string (bs (encR n))) ∧ Below w.heap.size w w' := by
  rcases rune_split n with ⟨e, q1⟩ | ⟨e, q1, q2⟩ | ⟨hs, n0, n1, q1, q2⟩
  · rw [e]; clear e
    go_enter Try.func13, Try.ntmps13
    go_wp2_with (go_at_call 32; refine (cP_in _ _ _ _).mono ?_; rintro e w' ⟨rfl, rfl⟩)
    go_ret
    exact ⟨rfl, Below.refl _ _⟩
  · rw [e]; clear e
    go_enter Try.func13, Try.ntmps13
    go_wp2_with (go_at_call 32; refine (cP_in _ _ _ _).mono ?_; rintro e w' ⟨rfl, rfl⟩)
    go_ret
    exact ⟨rfl, Below.refl _ _⟩
  · by_cases a1 : n < 128
    · rw [encR_1 n0 a1]
      have hcv : ∀ w : World, (convert 34 9 (.slice (some ⟨w.heap.size, 0, none⟩) 1 1)).run Try.prog (w.alloc (.cells #[.int .u8 (n)] 5)) = .ok (.string (bs [n.toNat])) (w.alloc (.cells #[.int .u8 (n)] 5)) := fun w => conv_lit w [n] [n.toNat] (by simp only [List.map_cons, List.map_nil, List.cons.injEq, and_true]; omega) 1 rfl (by decide)
      clear hs
      go_enter Try.func13, Try.ntmps13
      go_wp2_with (go_at_call 32; refine (cP_in _ _ _ _).mono ?_; rintro e w' ⟨rfl, rfl⟩)
      go_ret
      exact ⟨rfl, (Below.refl _ _).alloc (Nat.le_refl _) _⟩
    · by_cases a2 : n < 2048
      · rw [encR_2 (by omega) a2]
        have hcv : ∀ w : World, (convert 34 9 (.slice (some ⟨w.heap.size, 0, none⟩) 2 2)).run Try.prog (w.alloc (.cells #[.int .u8 (192 + n / 64), .int .u8 (128 + n % 64)] 5)) = .ok (.string (bs [192 + n.toNat / 64, 128 + n.toNat % 64])) (w.alloc (.cells #[.int .u8 (192 + n / 64), .int .u8 (128 + n % 64)] 5)) := fun w => conv_lit w [192 + n / 64, 128 + n % 64] [192 + n.toNat / 64, 128 + n.toNat % 64] (by simp only [List.map_cons, List.map_nil, List.cons.injEq, and_true]; omega) 2 rfl (by decide)
        clear hs
        go_enter Try.func13, Try.ntmps13
        go_wp2_with (go_at_call 32; refine (cP_in _ _ _ _).mono ?_; rintro e w' ⟨rfl, rfl⟩)
        go_ret
        exact ⟨rfl, (Below.refl _ _).alloc (Nat.le_refl _) _⟩
      · by_cases a3 : n < 65536
        · rw [encR_3 hs (by omega) a3]
          have hcv : ∀ w : World, (convert 34 9 (.slice (some ⟨w.heap.size, 0, none⟩) 3 3)).run Try.prog (w.alloc (.cells #[.int .u8 (224 + n / 4096), .int .u8 (128 + n / 64 % 64), .int .u8 (128 + n % 64)] 5)) = .ok (.string (bs [224 + n.toNat / 4096, 128 + n.toNat / 64 % 64, 128 + n.toNat % 64])) (w.alloc (.cells #[.int .u8 (224 + n / 4096), .int .u8 (128 + n / 64 % 64), .int .u8 (128 + n % 64)] 5)) := fun w => conv_lit w [224 + n / 4096, 128 + n / 64 % 64, 128 + n % 64] [224 + n.toNat / 4096, 128 + n.toNat / 64 % 64, 128 + n.toNat % 64] (by simp only [List.map_cons, List.map_nil, List.cons.injEq, and_true]; omega) 3 rfl (by decide)
          clear hs
          go_enter Try.func13, Try.ntmps13
          go_wp2_with (go_at_call 32; refine (cP_in _ _ _ _).mono ?_; rintro e w' ⟨rfl, rfl⟩)
          go_ret
          exact ⟨rfl, (Below.refl _ _).alloc (Nat.le_refl _) _⟩
        · rw [encR_4 hs (by omega)]
          have hcv : ∀ w : World, (convert 34 9 (.slice (some ⟨w.heap.size, 0, none⟩) 4 4)).run Try.prog (w.alloc (.cells #[.int .u8 (240 + n / 262144), .int .u8 (128 + n / 4096 % 64), .int .u8 (128 + n / 64 % 64), .int .u8 (128 + n % 64)] 5)) = .ok (.string (bs [240 + n.toNat / 262144, 128 + n.toNat / 4096 % 64, 128 + n.toNat / 64 % 64, 128 + n.toNat % 64])) (w.alloc (.cells #[.int .u8 (240 + n / 262144), .int .u8 (128 + n / 4096 % 64), .int .u8 (128 + n / 64 % 64), .int .u8 (128 + n % 64)] 5)) := fun w => conv_lit w [240 + n / 262144, 128 + n / 4096 % 64, 128 + n / 64 % 64, 128 + n % 64] [240 + n.toNat / 262144, 128 + n.toNat / 4096 % 64, 128 + n.toNat / 64 % 64, 128 + n.toNat % 64] (by simp only [List.map_cons, List.map_nil, List.cons.injEq, and_true]; omega) 4 rfl (by decide)
          clear hs
          go_enter Try.func13, Try.ntmps13
          go_wp2_with (go_at_call 32; refine (cP_in _ _ _ _).mono ?_; rintro e w' ⟨rfl, rfl⟩)
          go_ret
          exact ⟨rfl, (Below.refl _ _).alloc (Nat.le_refl _) _⟩
theorem walkFnExactRuneText (n : Int) (w : World) (h : (Lit.int .i64 n).wf = true) : Calls Try.prog 3 #[.int .i64 n] w fun e w' => e = .returned (.bool true) ∧ Below w.heap.size w w' := by
  obtain ⟨h1, h2⟩ := i64_bd h
  clear h
  go_enter Try.func3, Try.ntmps3
  go_wp2_with fail
  refine (cP_RuneText _ _ h1 h2).mono ?_
  rintro e w1 ⟨rfl, hb1⟩
  go_wp2_with fail
  refine (cI_RuneText _ _ h1 h2).mono ?_
  rintro e w2 ⟨rfl, rfl⟩
  go_wp2
  go_ret
  exact ⟨rfl, hb1⟩
end Go.Proofs.Ytmhlljonlbiajaa
