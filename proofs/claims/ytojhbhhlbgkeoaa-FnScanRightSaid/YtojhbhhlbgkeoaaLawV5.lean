/- The walk of FnScanCut. Conditions: the code's bytes can be read. -/
import Derived.Test.YtojhbhhlbgkeoaaLawV4
import Derived.Deep.DeepCutAuto
namespace Go.Proofs.Ytojhbhhlbgkeoaa
open Go.RowKit Plain
set_option linter.unusedVariables false
set_option linter.unusedSimpArgs false
theorem scanL_append (l1 l2 : List Nat) (b h : Int) (hc : (scanL l1 b h).2.2.2 = 0) :
    scanL (l1 ++ l2) b h = ((scanL l2 (scanL l1 b h).1 (scanL l1 b h).2.1).1, (scanL l2 (scanL l1 b h).1 (scanL l1 b h).2.1).2.1, (scanL l1 b h).2.2.1 + (scanL l2 (scanL l1 b h).1 (scanL l1 b h).2.1).2.2.1, (scanL l2 (scanL l1 b h).1 (scanL l1 b h).2.1).2.2.2) := by
  induction l1 generalizing b h with
  | nil => simp [scanL]
  | cons x r ih =>
    simp only [List.cons_append, scanL] at hc ⊢
    by_cases h0 : sbCode b h x = 0
    · rw [if_pos h0] at hc ⊢
      rw [if_pos h0, ih _ _ hc]
      simp only [Prod.mk.injEq, true_and, and_true]; omega
    · rw [if_neg h0] at hc
      exact absurd hc h0
/-- a whole varint, scanned -/
theorem scan_put (n : Nat) (hn : n < 18446744073709551616) : scanL (pad (vlen n) n) 0 0 = ((n : Int), ((vlen n : Nat) : Int), vlen n, 1) := by
  have hv := vlen_le n
  have h1 := gv_pad (vlen n) n 0 0 [] (vlen_pos n) (by omega) (vlen_fits n hn) (by simpa using hn)
  simp only [List.append_nil, Nat.zero_add, Nat.mul_zero, Nat.pow_zero, Nat.mul_one] at h1
  rcases scan_gv (pad (vlen n) n) 0 0 (by omega) (by simp) (pad_lt _ _) with ⟨v, m, g1, g2, g3⟩ | ⟨v, g1, g2⟩ | ⟨v, g1, g2, g3, g4⟩
  · rw [h1] at g1
    simp only [Prod.mk.injEq, Nat.zero_add, and_true] at g1
    obtain ⟨e1, e2⟩ := g1
    rw [← e1, ← e2, Nat.zero_add] at g2
    exact g2
  · rw [h1] at g1; simp at g1
  · rw [h1] at g1; simp at g1
theorem scan_cut (n k : Nat) (hk : k < vlen n) : ∃ v : Nat, scanL ((pad (vlen n) n).take k) 0 0 = ((v : Int), (k : Int), k, 0) ∧ v < 2 ^ (7 * k) ∧ k ≤ 9 := by
  have hv := vlen_le n
  have h1 := gv_cut (vlen n) n 0 0 k hk (by omega)
  have hl : ((pad (vlen n) n).take k).length = k := by rw [List.length_take, pad_length]; omega
  rcases scan_gv ((pad (vlen n) n).take k) 0 0 (by omega) (by simp) (fun b hb => pad_lt _ _ b (List.mem_of_mem_take hb)) with ⟨v, m, g1, g2, g3⟩ | ⟨v, g1, g2⟩ | ⟨v, g1, g2, g3, g4⟩
  · rw [h1] at g1; simp at g1
  · rw [h1] at g1; simp at g1
  · rw [hl, Nat.zero_add] at g2 g3 g4
    exact ⟨v, g2, g4, g3⟩
theorem scan_rest (n k v : Nat) (hn : n < 18446744073709551616) (hk : k < vlen n) (h : scanL ((pad (vlen n) n).take k) 0 0 = ((v : Int), (k : Int), k, 0)) :
    scanL ((pad (vlen n) n).drop k) (v : Int) (k : Int) = ((n : Int), ((vlen n : Nat) : Int), vlen n - k, 1) := by
  have h1 := scanL_append ((pad (vlen n) n).take k) ((pad (vlen n) n).drop k) 0 0 (by rw [h])
  rw [List.take_append_drop, scan_put n hn, h] at h1
  simp only [Prod.mk.injEq] at h1
  obtain ⟨e1, e2, e3, e4⟩ := h1
  ext1
  · exact e1.symm
  ext1
  · exact e2.symm
  ext1
  · show _ = vlen n - k
    omega
  · exact e4.symm
set_option maxHeartbeats 1000000 in
theorem d_at0 {a : Option Addr} {len cap : Nat} {z : List Int} (w : World) (hl : len ≤ 1048576) (hc : CodeAt w w.heap.size a len z) (hz : ∀ i, i < len → 0 ≤ z.getD i 0 ∧ z.getD i 0 ≤ 255) :
    Calls Try.prog 28 #[.slice a len cap, .int .i64 2] w (DInt .i64 0 255 w) := by
  by_cases h2 : 2 < len
  · obtain ⟨b, off, rfl, hb, hcell⟩ := hc (by omega)
    have c3 := hcell 2 h2
    have hb3 := hz 2 h2
    generalize z.getD 2 0 = y at c3 hb3
    obtain ⟨q0, q1⟩ := hb3
    have hn1 : (2 : Int) < (len : Int) := by omega
    clear hcell hc hz
    go_enter Try.func28, Try.ntmps28
    go_wp2
    go_ret
    exact ⟨y, q0, q1, rfl, Below.refl _ _⟩
  · have hn1 : ¬ (2 : Int) < (len : Int) := by omega
    go_enter Try.func28, Try.ntmps28
    go_wp2
    go_ret
    exact ⟨_, by omega, by omega, rfl, Below.refl _ _⟩
theorem code_bd {w : World} {a : Option Addr} {len cap : Nat} {z : List Int} (h : IsRow .u8 w a len cap z) : ∀ i, i < len → 0 ≤ z.getD i 0 ∧ z.getD i 0 ≤ 255 := by
  intro i hi
  rcases h with ⟨_, h0, _⟩ | ⟨x, rfl, hle, _, hz, hc, hw⟩
  · omega
  · have hm : z.getD i 0 ∈ z := by
      have hl : i < z.length := by omega
      simp [List.getD, List.getElem?_eq_getElem hl]
    exact u8_bd (hw _ hm)
set_option maxRecDepth 20000 in
set_option maxHeartbeats 1000000 in
theorem walkFnScanCut (a : Option Addr) (len cap : Nat) (z : List Int) (w : World) (hr : IsRow .u8 w a len cap z) : Calls Try.prog 8 #[.slice a len cap] w fun e w' => e = .returned (.bool true) ∧ Below w.heap.size w w' := by
  have hcode := Lib.hid (code_of_row hr)
  have hbd := Lib.hid (code_bd hr)
  clear hr
  rcases hbig : decide (1048576 < len) with _ | _
  · have hl : len ≤ 1048576 := by simp at hbig; omega
    go_enter Try.func8, Try.ntmps8
    go_wp2_with (go_at_call 26; refine (c_big _ _ _ _).mono ?_; rintro e w' ⟨rfl, rfl⟩; rw [hbig])
    refine (d_DrawPutVar _ hl hcode.out).mono ?_
    rintro e w1 ⟨u, hu0, hu1, rfl, hb1⟩
    go_wp2_with fail
    refine (cP_PutVar _ _ hu0 hu1).mono ?_
    rintro e w2 ⟨rfl, hb2⟩
    obtain ⟨n, rfl⟩ := Int.eq_ofNat_of_zero_le hu0
    simp only [Int.toNat_natCast]
    have hn : n < 18446744073709551616 := by omega
    have hB2 := hb1.trans (hb2.mono hb1.size)
    have hsz : (bs (put n)).size = vlen n := bs_size _
    have hbl : bl (bs (put n)) = pad (vlen n) n := by rw [bl_bs _ (put_lt n hn)]; exact put_pad n hn
    generalize bs (put n) = s at hsz hbl
    have HB := Lib.hid hbl
    have HS := Lib.hid hsz
    have hs10 : s.size ≤ 10 := by rw [hsz]; exact vlen_le n
    clear hbl hsz
    go_wp2_with fail
    refine (d_at0 _ hl (hcode.out.keep (fun k hk => hB2.block k hk) |> fun h => (fun hl' => by obtain ⟨b, off, e, hb, hc⟩ := h hl'; exact ⟨b, off, e, Nat.lt_of_lt_of_le hb hB2.size, hc⟩)) hbd.out).mono ?_
    rintro e w3 ⟨x, hx0, hx1, rfl, hb3⟩
    have hB3 := hB2.trans (hb3.mono hB2.size)
    have hkk := tmod_bd hx0 (show 1 ≤ (s.size : Int) + 1 by omega)
    go_wp2_with fail
    obtain ⟨k, hk⟩ := Int.eq_ofNat_of_zero_le hkk.1
    rw [hk, Int.toNat_natCast]
    have hks : k ≤ s.size := by have := hkk.2; omega
    clear hkk hk hx0 hx1
    have HX : Hid (bl (s.extract 0 k) = (pad (vlen n) n).take k) := Lib.hid (by rw [bl_extract, HB.out]; simp)
    refine (cI_ScanText _ _ _ _ (by omega) (by omega) (Nat.le_trans (extract_le _ _ _) (by omega))).mono ?_
    rintro e w4 ⟨rfl, hb4⟩
    have hB4 := hB3.trans (hb4.mono hB3.size)
    rw [HX.out]
    by_cases hlt : k < s.size
    · obtain ⟨v, hv, hv2, hk9⟩ := scan_cut n k (by rw [← HS.out]; exact hlt)
      have HR := Lib.hid (scan_rest n k v hn (by rw [← HS.out]; exact hlt) hv)
      have hv63 : v < 9223372036854775808 := Nat.lt_of_lt_of_le hv2 (Nat.le_trans (Nat.pow_le_pow_right (show 0 < 2 by omega) (show 7 * k ≤ 63 by omega)) (by decide))
      rw [hv]
      have HV := Lib.hid hv
      have HY : Hid (bl (s.extract k s.size) = (pad (vlen n) n).drop k) := Lib.hid (by rw [bl_extract, HB.out, HS.out, List.take_of_length_le (by rw [pad_length]; exact Nat.le_refl _)])
      have hdk : ((vlen n - k : Nat) : Int) = (s.size : Int) - (k : Int) := by have := HS.out; omega
      have HDK := Lib.hid hdk
      clear hv hv2 hdk
      go_wp2_with fail
      have X := Box.new w4 32 #[.int .u64 v, .int .i64 k]
      have hbel := hB4.alloc hB4.size (.cells #[.int .u64 v, .int .i64 k] 32)
      have x0 : (w4.alloc (.cells #[.int .u64 v, .int .i64 k] 32)).cell? ⟨w4.heap.size, 0, none⟩ = some (.int .u64 v) := X.cell 0 rfl
      have x1 : (w4.alloc (.cells #[.int .u64 v, .int .i64 k] 32)).cell? ⟨w4.heap.size, 1, none⟩ = some (.int .i64 k) := X.cell 1 rfl
      have hk0 : (0 : Int) ≤ (k : Int) := by omega
      have hk1 : (k : Int) ≤ (s.size : Int) := by omega
      have BN : Box ((w4.alloc (.cells #[.int .u64 v, .int .i64 k] 32)).alloc (.cells #[.int .u64 0, .int .i64 0] 32)) (w4.heap.size + 1) 32 #[.int .u64 0, .int .i64 0] := by simpa using Box.new (w4.alloc (.cells #[.int .u64 v, .int .i64 k] 32)) 32 #[.int .u64 0, .int .i64 0]
      have hE := extract_le s k s.size
      have hCT := cI_ScanText (v : Int) (k : Int) (s.extract k s.size)
      rw [HY.out, HR.out] at hCT
      have HCT := Lib.hid hCT
      clear hCT
      go_cut [8, 9, 10] (fun p q r wx => ∃ g2 : Nat, p = .pointer (some ⟨g2, 0, none⟩) ∧ q = .int .i64 (vlen n - k : Nat) ∧ r = .int .i64 1 ∧ Box wx g2 32 #[.int .u64 n, .int .i64 (vlen n : Nat)] ∧ Below w.heap.size w wx)
      case first =>
        go_region_held3 (fun w' => w'.cell? ⟨w4.heap.size, 0, none⟩ = some (.int .u64 v) ∧ w'.cell? ⟨w4.heap.size, 1, none⟩ = some (.int .i64 k) ∧ SInv w w4.heap.size w4.heap.size 32 (.int .u64 v) (.int .i64 k) (.int .u64 v) (.int .i64 k) w') (first | exact S_of ⟨X.drew, X.drew, hbel.drew⟩ | exact S_drew (by assumption) | exact S_alloc (by assumption) _ | exact S_call (by assumption) hbc | exact S_drew (S_alloc (S_of ⟨X, X, hbel⟩) _) | exact S_alloc (S_call (S_of ⟨X.drew, X.drew, hbel.drew⟩) hbc) _ | exact S_set (S_set (by assumption) (by simp) (by simp) (by have := hB4.size; simp; omega) _) (by simp) (by simp) (by have := hB4.size; simp; omega) _)
          (first | (go_at_call 25; refine (HCT.out _ (by omega) (by omega) (by omega)).mono ?_; rintro e w5 ⟨rfl, hbc⟩; obtain ⟨hcc, hff⟩ := bcell hbc; have hsz5 := hbc.size; simp at hsz5))
        all_goals go_wp2_with fail
        all_goals go_meet
        · exact ⟨_, rfl, rfl, rfl, Box.new _ _ _, (by assumption : _ ∧ _ ∧ SInv _ _ _ _ _ _ _ _ _).2.2.2.2⟩
        all_goals exact ⟨_, rfl, rfl, rfl, ((BN.drew.all hbc).set_ 0 _).set_ 1 _, (by assumption : _ ∧ _ ∧ SInv _ _ _ _ _ _ _ _ _).2.2.2.2⟩
      case rest =>
        obtain ⟨g2, rfl, rfl, rfl, Z, hbelc⟩ := hcut
        go_wp2_with fail
        refine (cI_ScanText _ _ _ _ (by omega) (by omega) (by omega)).mono ?_
        rintro e w6 ⟨rfl, hb6⟩
        rw [HB.out, scan_put n hn]
        have Z6 := Z.all hb6
        have zl := Z6.lt
        have z0 : w6.cell? ⟨g2, 0, none⟩ = some (.int .u64 n) := Z6.cell 0 rfl
        have z1 : w6.cell? ⟨g2, 1, none⟩ = some (.int .i64 (vlen n : Nat)) := Z6.cell 1 rfl
        have hdb : (((vlen n - k : Nat) : Int) == (s.size : Int) - (k : Int)) = true := by rw [HDK.out]; simp
        generalize ((vlen n - k : Nat) : Int) = D at hdb ⊢
        go_wp2
        go_ret
        have hB6 := hbelc.trans (hb6.mono hbelc.size)
        exact ⟨rfl, by repeat (first | exact hB6 | refine Below.alloc ?_ (by have := hB6.size; simp; omega) _)⟩
    · obtain rfl : k = s.size := by omega
      rw [List.take_of_length_le (by rw [pad_length, HS.out]; exact Nat.le_refl _), scan_put n hn]
      have hde : (((vlen n : Nat) : Int) == (s.size : Int)) = true := by rw [HS.out]; simp
      go_wp2
      go_ret
      exact ⟨ret_bool (by first | rfl | simp), by repeat (first | exact hB3 | refine Below.alloc ?_ (by have := hB3.size; have := hb4.size; simp; omega) _ | refine Below.trans ?_ (hb4.mono (by have := hB3.size; simp; omega)))⟩
  · go_enter Try.func8, Try.ntmps8
    go_wp2_with (go_at_call 26; refine (c_big _ _ _ _).mono ?_; rintro e w' ⟨rfl, rfl⟩; rw [hbig])
    go_ret
    exact ⟨rfl, Below.refl _ _⟩
end Go.Proofs.Ytojhbhhlbgkeoaa
