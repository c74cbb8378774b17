/- The walk of FnFix. Conditions: the code's bytes can be read. -/
import Derived.Test.YtigmncilanejlaaLawY2
import Derived.StillTailTactics
import Derived.Deep.RegionHeld3
import Derived.Deep.RegionWith
import Derived.Deep.RegionLaw
import Derived.Deep.DeepCutAuto
import Derived.Deep.LoopGhost
namespace Go.Proofs.Ytigmncilanejlaa
open Go.RowKit Plain
set_option linter.unusedVariables false
set_option linter.unusedSimpArgs false
def abc : ByteArray := ⟨#[97, 98, 99, 100, 101, 102, 103, 104]⟩
theorem fix_split (u : Nat) (k : Int) (hu : u < 18446744073709551616) :
    (bs (putFix u k) = ⟨#[]⟩ ∧ ((k = 4 ∧ fixOk (bl abc) 0 4 = true) ∨ ((k == 4) = false ∧ (k == 8) = false ∧ fixOk (bl abc) 0 k = false))) ∨
    ∃ n : Nat, k = n ∧ (n = 4 ∨ n = 8) ∧ u < 256 ^ n ∧ putFix u k = fixL n u := by
  by_cases h8 : k = 8
  · subst h8; exact .inr ⟨8, rfl, .inr rfl, by omega, putFix8 u⟩
  · by_cases h4 : k = 4
    · subst h4
      by_cases hs : u < 4294967296
      · exact .inr ⟨4, rfl, .inl rfl, by omega, putFix4 hs⟩
      · exact .inl ⟨by rw [putFix_no (by omega) (.inr (by omega))]; rfl, .inl ⟨rfl, by decide⟩⟩
    · exact .inl ⟨by rw [putFix_no h8 (.inl h4)]; rfl, .inr ⟨by simp [h4], by simp [h8], (fix_out (.inl (by omega))).1⟩⟩
theorem fb_step {l : List Nat} {n i : Nat} (h256 : ∀ b ∈ l, b < 256) (hll : l.length = n) (hn : n ≤ 8) (hi : i < n) :
    fbBits (valL (l.take i) : Nat) i (l.getD i 0 : Nat) = (valL (l.take (i + 1)) : Nat) ∧ fbHave i (l.getD i 0 : Nat) = ((i + 1 : Nat) : Int) := by
  have hx : l.getD i 0 < 256 := h256 _ (by rw [List.getD, List.getElem?_eq_getElem (by omega)]; exact List.getElem_mem _)
  have ho : fbOver i (l.getD i 0 : Nat) = false := by
    unfold fbOver; rw [inB_mk (by omega) (by omega), inB_mk (by omega) (by omega)]; rfl
  obtain ⟨e1, e2⟩ := fb_no (b := (valL (l.take i) : Nat)) ho
  rw [← e1, ← e2]
  refine ⟨?_, by omega⟩
  have hs : valL (l.take (i + 1)) = valL (l.take i) + l.getD i 0 * 256 ^ i := by
    rw [take_snoc' (by omega), valL_snoc, List.length_take, Nat.min_eq_left (by omega)]
  have hlt := valL_lt (l.take (i + 1)) (fun b hb => h256 b (List.mem_of_mem_take hb))
  rw [List.length_take, Nat.min_eq_left (by omega)] at hlt
  have hle := pow_le8 (n := i + 1) (by omega)
  have hp : ((2 : Int) ^ (8 * (i : Int)).toNat) = ((256 ^ i : Nat) : Int) := by
    rw [show (8 * (i : Int)).toNat = 8 * i by omega, pow8, cast_pow]
  rw [hp, hs]
  rw [hs] at hlt
  have hc : ((l.getD i 0 : Nat) : Int) * ((256 ^ i : Nat) : Int) = ((l.getD i 0 * 256 ^ i : Nat) : Int) := by simp
  rw [hc]
  generalize l.getD i 0 * 256 ^ i = y at hlt ⊢
  omega
set_option maxHeartbeats 2000000 in
theorem walkFnFix (a : Option Addr) (len cap : Nat) (z : List Int) (w : World) (hr : IsRow .u8 w a len cap z) : Calls Try.prog 5 #[.slice a len cap] w fun e w' => e = .returned (.bool true) ∧ Below w.heap.size w w' := by
  have hcode := Lib.hid (code_of_row hr)
  clear hr
  rcases hbig : decide (1048576 < len) with _ | _
  · have hl : len ≤ 1048576 := by simp at hbig; omega
    go_enter Try.func5, Try.ntmps5
    go_wp2_with (go_at_call 7; refine (c_big _ _ _ _).mono ?_; rintro e w' ⟨rfl, rfl⟩; rw [hbig])
    refine (d_DrawPutFix _ hl hcode.out).mono ?_
    rintro e w1 ⟨u, k, u0, u1, k0, k1, rfl, hb1⟩
    have hI := fun w => cI_PutFix u k w u0 u1
    have hP := fun w => cP_PutFix u k w u0 u1
    rcases fix_split u.toNat k (by omega) with ⟨e1, h⟩ | ⟨n, rfl, hn, hu, e1⟩
    · rw [e1] at hI hP
      have hG := fun w => cI_GetFix abc 0 k w (by decide) (by omega) (by omega)
      rcases h with ⟨rfl, e2⟩ | ⟨e2, e3, e4⟩
      · rw [e2] at hG
        generalize fixV (bl abc) 0 4 = v at hG
        unfold abc at hG
        clear e1 e2
        go_wp2_with fail
        refine (hI _).mono ?_
        rintro e w2 ⟨rfl, hb2⟩
        go_wp2_with fail
        refine (hP _).mono ?_
        rintro e w3 ⟨rfl, hb3⟩
        go_wp2_with fail
        refine (hG _).mono ?_
        rintro e w4 ⟨rfl, rfl⟩
        go_wp2
        go_ret
        have B2 := hb1.trans (hb2.mono hb1.size)
        exact ⟨rfl, B2.trans (hb3.mono B2.size)⟩
      · rw [e4] at hG
        generalize fixV (bl abc) 0 k = v at hG
        unfold abc at hG
        clear e1 e4
        go_wp2_with fail
        refine (hI _).mono ?_
        rintro e w2 ⟨rfl, hb2⟩
        go_wp2_with fail
        refine (hP _).mono ?_
        rintro e w3 ⟨rfl, hb3⟩
        go_wp2_with fail
        refine (hG _).mono ?_
        rintro e w4 ⟨rfl, rfl⟩
        go_wp2
        go_ret
        have B2 := hb1.trans (hb2.mono hb1.size)
        exact ⟨ret_bool (by first | rfl | simp [e2, e3]), B2.trans (hb3.mono B2.size)⟩
    · rw [e1] at hI hP
      have hsz : (bs (fixL n u.toNat)).size = n := by rw [bs_size, fixL_length]
      have hbl : bl (bs (fixL n u.toNat)) = fixL n u.toNat := bl_bs _ (fixL_lt _ _)
      have hv := valL_fixL n u.toNat hu
      obtain ⟨l, hL⟩ : ∃ l, l = fixL n u.toNat := ⟨_, rfl⟩
      rw [← hL] at hI hP hsz hbl hv
      obtain ⟨s, hS⟩ : ∃ s, s = bs l := ⟨_, rfl⟩
      rw [← hS] at hI hP hsz hbl
      have hl256 : ∀ b ∈ l, b < 256 := by rw [hL]; exact fixL_lt _ _
      have hll : l.length = n := by rw [hL]; exact fixL_length _ _
      clear hL hS e1
      have hne : s.toList.isEmpty = false := by
        rw [ByteArray.toList_eq]
        have h1 : s.data.toList.length = n := by rw [Array.length_toList]; exact hsz
        cases h2 : s.data.toList with
        | nil => rw [h2] at h1; simp at h1; omega
        | cons x r => rfl
      have hcat : bl ((⟨#[97]⟩ : ByteArray) ++ s) = 97 :: l := by rw [bl_append, hbl]; rfl
      have hG := fun w => cI_GetFix ((⟨#[97]⟩ : ByteArray) ++ s) 1 n w (by rw [ByteArray.size_append, hsz, show ((⟨#[97]⟩ : ByteArray)).size = 1 from rfl]; omega) (by omega) (by omega)
      rw [hcat] at hG
      have hgo : fixOk (97 :: l) 1 n = true ∧ fixV (97 :: l) 1 n = u.toNat := by
        have h1 := fix_in (l := 97 :: l) (m := 1) (n := n) hn (by simp only [List.length_cons]; omega)
        refine ⟨h1.1, h1.2.trans ?_⟩
        have h2 : win (97 :: l) 1 n = l := by
          unfold win
          rw [List.drop_succ_cons, List.drop_zero, List.take_of_length_le (by omega)]
        rw [h2, hv]
      rw [hgo.1, hgo.2] at hG
      simp only [Int.toNat_of_nonneg u0] at hG
      have hN := fun w => cI_GetFix s 1 n w (by omega) (by omega) (by omega)
      have hno : fixOk (bl s) 1 n = false ∧ fixV (bl s) 1 n = 0 := fix_out (.inr (.inr (by rw [hbl]; omega)))
      rw [hno.1, hno.2] at hN
      clear hno hgo hcat
      go_wp2_with fail
      refine (hI _).mono ?_
      rintro e w2 ⟨rfl, hb2⟩
      go_wp2_with fail
      refine (hP _).mono ?_
      rintro e w3 ⟨rfl, hb3⟩
      go_wp2_with fail
      refine (hG _).mono ?_
      rintro e w4 ⟨rfl, rfl⟩
      go_wp2_with fail
      have B2 := hb1.trans (hb2.mono hb1.size)
      have B3 := B2.trans (hb3.mono B2.size)
      have X0 := Box.new w3 38 #[.int .u64 0, .int .i64 0]
      have B4 := B3.alloc B3.size (.cells #[.int .u64 0, .int .i64 0] 38)
      have hstep := Lib.hid (fun i (hi : i < n) => fb_step (l := l) (n := n) (i := i) hl256 hll (by omega) hi)
      have hvb := Lib.hid (fun i => Nat.lt_of_lt_of_le (valL_lt (l.take i) (fun b hb => hl256 b (List.mem_of_mem_take hb))) (pow_le8 (n := (l.take i).length) (by rw [List.length_take]; omega)))
      have hend : Hid (valL (l.take n) = u.toNat) := Lib.hid (by rw [List.take_of_length_le (by omega), hv])
      have hget := Lib.hid (fun i (hi : i < s.size) => (bl_get s i hi).symm.trans (by rw [hbl]))
      have B3' := Lib.hid B3
      have hn8 : n ≤ 8 := by omega
      obtain ⟨g, hg⟩ : ∃ g, g = w3.heap.size := ⟨_, rfl⟩
      have hgw : w.heap.size ≤ g := by rw [hg]; exact B3.size
      rw [← hg] at X0 ⊢
      clear hG hbl hv hl256 hll B3 B2 hn hu hb1 hb2 hb3 hg hI hP
      go_loopw [11] (fun c wr => ∃ i : Nat, i ≤ n ∧ c = .int .i64 i ∧ Box wr g 38 #[.int .u64 (valL (l.take i) : Nat), .int .i64 i] ∧ Below w.heap.size w wr) (fun c _ => n - (intOf c).toNat)
      case atStart => exact ⟨0, Nat.zero_le _, rfl, by simpa [valL] using X0, B4⟩
      case round =>
        obtain ⟨i, hi, rfl, X, hbel⟩ := hrel
        have hv0 := hvb.out i
        obtain ⟨v, hV⟩ : ∃ v, v = valL (l.take i) := ⟨_, rfl⟩
        rw [← hV] at X hv0
        have xc0 : wr.cell? ⟨g, 0, none⟩ = some (.int .u64 v) := X.cell 0 rfl
        have xc1 : wr.cell? ⟨g, 1, none⟩ = some (.int .i64 i) := X.cell 1 rfl
        have xf0 := X.free 0; have xf1 := X.free 1
        have HV := Lib.hid hV
        clear hV
        by_cases hlt : i < n
        · have hk0 : (0 : Int) ≤ (i : Int) := by omega
          have hk1 : (i : Int) < (s.size : Int) := by omega
          have hks : i < s.size := by omega
          have hx : (s[i]).toNat < 256 := (s[i]).toNat_lt
          have hvi0 : (0 : Int) ≤ (v : Int) := by omega
          have hvi1 : (v : Int) ≤ 18446744073709551615 := by omega
          have h7 := hstep.out i hlt
          rw [← HV.out, ← hget.out i hks] at h7
          have H7 := Lib.hid h7
          clear h7
          go_wp2_with fail
          go_region_law ((go_simp; go_at_call 21; refine (cI_FixByte _ _ _ _ hvi0 hvi1).mono ?_; rintro e w4 ⟨rfl, hbc⟩; have XX := (X.drew).all hbc; have BB := hbel.drew.trans (hbc.mono hbel.drew.size); have q0 : w4.cell? ⟨g, 0, none⟩ = some (.int .u64 v) := XX.cell 0 rfl; have q1 : w4.cell? ⟨g, 1, none⟩ = some (.int .i64 i) := XX.cell 1 rfl; have f0 := XX.free 0; have f1 := XX.free 1))
          all_goals go_wp2_with fail
          all_goals go_roundw
          all_goals first | (exact ⟨i + 1, by omega, by go_num, by have h9 := ((XX.set_ 0 (.int .u64 (fbBits v i (s[i]).toNat))).set_ 1 (.int .i64 (fbHave i (s[i]).toNat))); rw [H7.out.1, H7.out.2] at h9; rw [H7.out.1, H7.out.2]; exact h9, (BB.setCell hgw _).setCell hgw _⟩) | (simp [intOf]; omega)
        · obtain rfl : i = n := by omega
          have h7 : (v : Int) = u := by rw [HV.out, hend.out]; omega
          rw [h7] at xc0
          go_wp2_with fail
          refine (hN _).mono ?_
          rintro e w4 ⟨rfl, rfl⟩
          go_outline
          go_wp2
          go_ret
          exact ⟨rfl, hbel⟩
  · go_enter Try.func5, Try.ntmps5
    go_wp2_with (go_at_call 7; refine (c_big _ _ _ _).mono ?_; rintro e w' ⟨rfl, rfl⟩; rw [hbig])
    go_ret
    exact ⟨rfl, Below.refl _ _⟩
end Go.Proofs.Ytigmncilanejlaa
