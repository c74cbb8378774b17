/- The walk of FnExactParts. Conditions: the library's variable MaxLen holds some number. -/
import Derived.Test.YtmfeheglpfndpaaDoorSplD
namespace Go.Proofs.YtmfeheglpfndpaaDoor
open Go.RowKit
set_option linter.unusedVariables false
set_option linter.unusedSimpArgs false
set_option maxHeartbeats 1000000 in
theorem walkFnExactParts (s : ByteArray) (b : Int) (w : World) (hs : s.size ≤ maxLen) (hb : (Lit.int .u8 b).wf = true) (hm : ML w) :
    Calls Tryd.prog 4 #[.string s, .int .u8 b] w fun e w' => e = .returned (.bool true) ∧ Below w.heap.size w w' := by
  obtain ⟨b0, b1⟩ := u8_bd hb
  clear hb
  obtain ⟨B, rfl⟩ := Int.eq_ofNat_of_zero_le b0
  by_cases hbig : 1048576 < s.size
  · have hb' : (1048576 : Int) < (s.size : Int) := by omega
    go_enter Tryd.func4, Tryd.ntmps4
    go_wp2
    go_ret
    exact ⟨rfl, Below.refl _ _⟩
  · have hb' : (s.size : Int) ≤ 1048576 := by omega
    have cP := fun w => cP_Parts s B (by omega) (by omega) w
    have cI := fun w hm => cI_Parts s B (by omega) (by omega) w hm
    have hl := sp_length (UInt8.ofNat B) s
    have hc := count_le (UInt8.ofNat B) s
    generalize sp (UInt8.ofNat B) s = L at cP cI hl
    obtain ⟨n, hn⟩ : ∃ n, L.length = n := ⟨_, rfl⟩
    have hn1 : n ≤ 1048577 := by omega
    unfold PartsPost at cP
    unfold PartsPostI at cI
    rw [hn] at cP cI
    have HN := Lib.hid hn
    clear hl hc hn b0 b1
    go_enter Tryd.func4, Tryd.ntmps4
    go_wp2_with fail
    refine (cP _).mono ?_
    rintro e w1 ⟨g1, cap1, rfl, hS1, hg1, hb1⟩
    go_wp2_with fail
    refine (cI _ (hm.below hb1)).mono ?_
    rintro e w2 ⟨g2, rfl, hB2, hg2, hb2⟩
    have B2 := hb1.trans (hb2.mono hb1.size)
    have hS2 := hS1.below hb2
    have hl1 := hS1.1
    go_wp2_with fail
    refine (cL_eqStringS g2 g1 n n cap1 L _ HN.out (by omega) (SBox.at_ hB2) hS2).mono ?_
    rintro e w3 ⟨rfl, hb3⟩
    have B3 := B2.trans (hb3.mono B2.size)
    have hB3 := hB2.all hb3
    have hS3 := hS2.below hb3
    go_wp2_with fail
    refine (cL_markStringS g2 n (L.map Value.string).toArray 1 _ (by omega) (by omega) (by simp [HN.out]) hB3).mono ?_
    rintro e w4 ⟨arr, rfl, hB4, hM, hgr4⟩
    have hsz2 := hb1.size
    have B4 := bgrown B3 hgr4 (fun k hk => by cases hk; omega) B3.size
    have hS4 : SAt w4 g1 L := hS3.keep (hgr4.block g1 hS3.1 (by simp; omega)) hgr4.size
    go_wp2_with fail
    refine (cL_heldStringS g2 n arr 1 _ (by omega) (by omega) hB4 hM).mono ?_
    rintro e w5 ⟨rfl, hb5⟩
    have B5 := B4.trans (hb5.mono B4.size)
    have hB5 := hB4.all hb5
    have hS5 := hS4.below hb5
    have hq0 : (0 : Int) ≤ ((1 + n : Nat) : Int) := by omega
    generalize hqd : ((1 + n : Nat) : Int) = q at hq0
    go_wp2_with fail
    refine (cI _ (hm.below B5)).mono ?_
    rintro e w6 ⟨g6, rfl, hB6, hg6, hb6⟩
    have B6 := B5.trans (hb6.mono B5.size)
    have hS6 := hS5.below hb6
    have hB56 := hB5.all hb6
    go_wp2_with fail
    refine (cL_eqStringS g6 g1 n n cap1 L _ HN.out (by omega) (SBox.at_ hB6) hS6).mono ?_
    rintro e w7 ⟨rfl, hb7⟩
    have B7 := B6.trans (hb7.mono B6.size)
    have hB57 := hB56.all hb7
    go_wp2_with fail
    refine (cL_heldStringS g2 n arr 1 _ (by omega) (by omega) hB57 hM).mono ?_
    rintro e w8 ⟨rfl, hb8⟩
    have B8 := B7.trans (hb8.mono B7.size)
    rw [hqd]
    go_wp2
    go_ret
    exact ⟨rfl, B8⟩
end Go.Proofs.YtmfeheglpfndpaaDoor
