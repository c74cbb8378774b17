/- The walk of FnScanRight. Conditions: the code's bytes can be read. -/
import Derived.Test.YtojhbhhlbgkeoaaLawV5
import Derived.Deep.RegionLaw
import Derived.Deep.LoopGhost
namespace Go.Proofs.Ytojhbhhlbgkeoaa
open Go.RowKit Plain
set_option linter.unusedVariables false
set_option linter.unusedSimpArgs false
theorem sbHave_bd {b h x : Int} (h1 : -9223372036854775808 ≤ h) (h2 : h ≤ 9223372036854775807) : -9223372036854775808 ≤ sbHave b h x ∧ sbHave b h x ≤ 9223372036854775807 := by
  rcases ho : sbOver b h x with _ | _
  · rw [← (no_eqs ho).2.1]
    simp only [sbOver, Bool.or_eq_false_iff, Bool.not_eq_false'] at ho
    have := (scanOk_yes ho.1.1).1
    omega
  · rw [← (over_eqs ho).2.1]; exact ⟨h1, h2⟩
/-- the state that the draw has built so far -/
def SI (w0 : World) (B g : Nat) (a : Option Addr) (len cap : Nat) (z : List Int) (b h : Int) (w : World) : Prop :=
  (0 ≤ b ∧ b ≤ 18446744073709551615 ∧ -9223372036854775808 ≤ h ∧ h ≤ 9223372036854775807) ∧ g < w0.heap.size ∧ Box w (w0.heap.size + 1) 32 #[.int .u64 b, .int .i64 h] ∧ Box w w0.heap.size 32 #[.int .u64 0, .int .i64 0] ∧ Cur w B g a len cap z ∧ w0.grownBy w (some g)
section
variable {w0 w w1 : World} {B g : Nat} {a : Option Addr} {len cap : Nat} {z : List Int} {b h : Int}
theorem SI.drew (s : SI w0 B g a len cap z b h w) : SI w0 B g a len cap z b h w.drew := ⟨s.1, s.2.1, s.2.2.1.drew, s.2.2.2.1.drew, s.2.2.2.2.1.drew, grown_drew s.2.2.2.2.2⟩
theorem SI.alloc (s : SI w0 B g a len cap z b h w) (o : Obj) : SI w0 B g a len cap z b h (w.alloc o) := ⟨s.1, s.2.1, s.2.2.1.alloc o, s.2.2.2.1.alloc o, s.2.2.2.2.1.alloc o, grown_alloc s.2.2.2.2.2 o⟩
theorem SI.draw (s : SI w0 B g a len cap z b h w) (hg : w.grownBy w1 (some g)) (hc : Cur w1 B g a len cap z) : SI w0 B g a len cap z b h w1 :=
  ⟨s.1, s.2.1, s.2.2.1.grown hg (by have := s.2.1; simp; omega), s.2.2.2.1.grown hg (by have := s.2.1; simp; omega), hc, s.2.2.2.2.2.trans hg⟩
theorem SI.call (s : SI w0 B g a len cap z b h w) (hb : Below w.heap.size w w1) : SI w0 B g a len cap z b h w1 :=
  ⟨s.1, s.2.1, s.2.2.1.all hb, s.2.2.2.1.all hb, s.2.2.2.2.1.below hb, s.2.2.2.2.2.trans (grown_of_below hb _)⟩
theorem SI.set0 (s : SI w0 B g a len cap z b h w) (x : Int) (h0 : 0 ≤ x) (h1 : x ≤ 18446744073709551615) : SI w0 B g a len cap z x h (w.setCell ⟨w0.heap.size + 1, 0, none⟩ (.int .u64 x)) :=
  ⟨⟨h0, h1, s.1.2.2.1, s.1.2.2.2⟩, s.2.1, s.2.2.1.set_ 0 _, s.2.2.2.1.far (by simp) _, s.2.2.2.2.1.far (by have := s.2.1; simp; omega) _, grown_set s.2.2.2.2.2 (.inr (by simp)) _⟩
theorem SI.set1 (s : SI w0 B g a len cap z b h w) (x : Int) (h0 : -9223372036854775808 ≤ x) (h1 : x ≤ 9223372036854775807) : SI w0 B g a len cap z b x (w.setCell ⟨w0.heap.size + 1, 1, none⟩ (.int .i64 x)) :=
  ⟨⟨s.1.1, s.1.2.1, h0, h1⟩, s.2.1, s.2.2.1.set_ 1 _, s.2.2.2.1.far (by simp) _, s.2.2.2.2.1.far (by have := s.2.1; simp; omega) _, grown_set s.2.2.2.2.2 (.inr (by simp)) _⟩
theorem SI.cells (s : SI w0 B g a len cap z b h w) : w.cell? ⟨w0.heap.size + 1, 0, none⟩ = some (.int .u64 b) ∧ w.cell? ⟨w0.heap.size + 1, 1, none⟩ = some (.int .i64 h) ∧ w.frozen? ⟨w0.heap.size + 1, 0, none⟩ = false ∧ w.frozen? ⟨w0.heap.size + 1, 1, none⟩ = false ∧
    w.cell? ⟨w0.heap.size, 0, none⟩ = some (.int .u64 0) ∧ w.cell? ⟨w0.heap.size, 1, none⟩ = some (.int .i64 0) ∧ w.frozen? ⟨w0.heap.size, 0, none⟩ = false ∧ w.frozen? ⟨w0.heap.size, 1, none⟩ = false :=
  ⟨s.2.2.1.cell 0 rfl, s.2.2.1.cell 1 rfl, s.2.2.1.free 0, s.2.2.1.free 1, s.2.2.2.1.cell 0 rfl, s.2.2.2.1.cell 1 rfl, s.2.2.2.1.free 0, s.2.2.2.1.free 1⟩
end
/-- a drawn scan state -/
def ScanPost (B g : Nat) (a : Option Addr) (len cap : Nat) (z : List Int) (w : World) (e : Ending) (w' : World) : Prop :=
  ∃ b h : Int, 0 ≤ b ∧ b ≤ 18446744073709551615 ∧ -9223372036854775808 ≤ h ∧ h ≤ 9223372036854775807 ∧ e = .returned (.agg #[.int .u64 b, .int .i64 h]) ∧ Cur w' B g a len cap z ∧ w.grownBy w' (some g)
set_option maxRecDepth 20000 in
set_option maxHeartbeats 1000000 in
theorem d_l3Scan {B g : Nat} {a : Option Addr} {len cap : Nat} {z : List Int} (w : World) (hc : Cur w B g a len cap z) :
    Calls Try.prog 42 #[.pointer (some ⟨g, 0, none⟩)] w (ScanPost B g a len cap z w) := by
  go_enter Try.func42, Try.ntmps42
  go_wp2_with fail
  have hS0 : SI w B g a len cap z 0 0 ((w.alloc (.cells #[.int .u64 0, .int .i64 0] 32)).alloc (.cells #[.int .u64 0, .int .i64 0] 32)) :=
    ⟨by omega, hc.lt, by simpa using Box.new (w.alloc (.cells #[.int .u64 0, .int .i64 0] 32)) 32 #[.int .u64 0, .int .i64 0], (Box.new w 32 #[.int .u64 0, .int .i64 0]).alloc _, (hc.alloc _).alloc _, grown_alloc (World.grownBy_alloc _ _ _) _⟩
  refine (d_Below _ hS0.2.2.2.2.1 10 (by omega) (by omega)).mono ?_
  rintro e w1 ⟨y, hy0, hy1, rfl, hc1, hg1⟩
  rw [hiB_pos (by omega)] at hy1
  have hS1 := hS0.draw hg1 hc1
  obtain ⟨m, rfl⟩ := Int.eq_ofNat_of_zero_le hy0
  clear hS0 hg1 hc1 hc
  go_wp2_with fail
  go_loopg [5] m (fun gk c wr => ∃ (i : Nat) (b h : Int), gk = m - i ∧ i ≤ m ∧ c = .int .i64 i ∧ SI w B g a len cap z b h wr)
  case atStart => exact ⟨0, 0, 0, rfl, Nat.zero_le _, rfl, hS1⟩
  case round =>
    obtain ⟨i, b, h, hgk, hi, rfl, hS⟩ := hrel
    have HGK := Lib.hid hgk
    clear hgk hS1
    obtain ⟨x0, x1, f0, f1, y0, y1, q0, q1⟩ := hS.cells
    by_cases hlt : i < m
    · go_upto_region 6 with (fail)
      go_region_law (first | (go_simp; go_at_call 41; refine (d_Below _ hS.drew.2.2.2.2.1 128 (by omega) (by omega)).mono ?_; rintro e w2 ⟨v, hv0, hv1, rfl, hc2, hg2⟩; have hS2 := hS.drew.draw hg2 hc2; rw [hiB_pos (by omega)] at hv1; obtain ⟨x0', x1', f0', f1', y0', y1', q0', q1'⟩ := hS2.cells) | (go_simp; go_at_call 20; refine (cP_ScanByte _ _ _ _ hS.1.1 hS.1.2.1).mono ?_; rintro e w3 ⟨rfl, hb3⟩; have hS3 := hS2.call hb3; obtain ⟨x0', x1', f0', f1', y0', y1', q0', q1'⟩ := hS3.cells))
      all_goals have hb0 := hS.1
      all_goals clear x0 x1 f0 f1 y0 y1 q0 q1 hS
      all_goals go_wp2
      all_goals go_roundg (m - (i + 1))
      all_goals first | (have := HGK.out; omega) | exact ⟨i + 1, _, _, rfl, by omega, by go_num, (hS3.set0 _ (sb_bd hb0.1 hb0.2.1).1 (sb_bd hb0.1 hb0.2.1).2).set1 _ (sbHave_bd hb0.2.2.1 hb0.2.2.2).1 (sbHave_bd hb0.2.2.1 hb0.2.2.2).2⟩
    · go_wp2_with fail
      refine (d_Below _ hS.2.2.2.2.1 10 (by omega) (by omega)).mono ?_
      rintro e w2 ⟨v, hv0, hv1, rfl, hc2, hg2⟩
      have hS2 := hS.draw hg2 hc2
      clear x0 x1 f0 f1 y0 y1 q0 q1 hS
      obtain ⟨x0, x1, f0, f1, y0, y1, q0, q1⟩ := hS2.cells
      rcases (show v = 0 ∨ v = 1 ∨ 2 ≤ v by omega) with rfl | rfl | hv2
      · go_wp2_with fail
        have hSA := hS2.alloc (.cells #[.int .i64 (-1), .int .i64 0, .int .i64 9, .int .i64 10, .int .i64 11, .int .i64 9223372036854775807, .int .i64 (-9223372036854775808)] 3)
        refine (d_PickInt _ hSA.2.2.2.2.1 w2.heap.size 7 (by have := hSA.2.1; have := hS2.2.2.1.lt; omega) (by simp) (by omega) (by omega) (-9223372036854775808) 9223372036854775807 (fun j hj => by
          obtain ⟨v, ⟨x, h1, h2, rfl⟩, h3⟩ := pick_cells (P := fun v => ∃ x : Int, -9223372036854775808 ≤ x ∧ x ≤ 9223372036854775807 ∧ v = .int .i64 x) (w := w2) (t := 3) (cs := #[.int .i64 (-1), .int .i64 0, .int .i64 9, .int .i64 10, .int .i64 11, .int .i64 9223372036854775807, .int .i64 (-9223372036854775808)]) (n := 7) (fun j hj => by
            rcases (show j = 0 ∨ j = 1 ∨ j = 2 ∨ j = 3 ∨ j = 4 ∨ j = 5 ∨ j = 6 by omega) with rfl | rfl | rfl | rfl | rfl | rfl | rfl
            all_goals exact ⟨_, ⟨_, by omega, by omega, rfl⟩, rfl⟩) j hj
          exact ⟨x, h1, h2, h3⟩)).mono ?_
        rintro e w4 ⟨x, hx0, hx1, rfl, hc4, hg4⟩
        have hS4 := hSA.draw hg4 hc4
        clear x0 x1 f0 f1 y0 y1 q0 q1
        obtain ⟨x0, x1, f0, f1, y0, y1, q0, q1⟩ := hS4.cells
        have hS5 := hS4.set1 x hx0 hx1
        go_wp2
        have hRR := (hS5.2.2.2.1.set_ 0 (.int .u64 b)).set_ 1 (.int .i64 x)
        have r0 := hRR.cell 0 (v := .int .u64 b) rfl
        have r1 := hRR.cell 1 (v := .int .i64 x) rfl
        exact bodyPost_ret (v := .agg #[.int .u64 b, .int .i64 x]) (by simp [results, Try.results42, go_sem, r0, r1]) rfl ⟨b, x, hS5.1.1, hS5.1.2.1, hS5.1.2.2.1, hS5.1.2.2.2, rfl, (hS5.2.2.2.2.1.far (by have := hS5.2.1; simp; omega) _).far (by have := hS5.2.1; simp; omega) _, grown_set (grown_set hS5.2.2.2.2.2 (.inr (by simp)) _) (.inr (by simp)) _⟩
      · go_wp2_with fail
        refine (d_Wide _ hS2.2.2.2.2.1).mono ?_
        rintro e w4 ⟨x, hx0, hx1, rfl, hc4, hg4⟩
        have hS4 := hS2.draw hg4 hc4
        clear x0 x1 f0 f1 y0 y1 q0 q1
        obtain ⟨x0, x1, f0, f1, y0, y1, q0, q1⟩ := hS4.cells
        have hS5 := hS4.set0 x hx0 hx1
        go_wp2
        have hRR := (hS5.2.2.2.1.set_ 0 (.int .u64 x)).set_ 1 (.int .i64 h)
        have r0 := hRR.cell 0 (v := .int .u64 x) rfl
        have r1 := hRR.cell 1 (v := .int .i64 h) rfl
        exact bodyPost_ret (v := .agg #[.int .u64 x, .int .i64 h]) (by simp [results, Try.results42, go_sem, r0, r1]) rfl ⟨x, h, hS5.1.1, hS5.1.2.1, hS5.1.2.2.1, hS5.1.2.2.2, rfl, (hS5.2.2.2.2.1.far (by have := hS5.2.1; simp; omega) _).far (by have := hS5.2.1; simp; omega) _, grown_set (grown_set hS5.2.2.2.2.2 (.inr (by simp)) _) (.inr (by simp)) _⟩
      · have e0 : (v == 0) = false := by simp; omega
        have e1 : (v == 1) = false := by simp; omega
        have hS5 := hS2
        go_wp2
        have hRR := (hS5.2.2.2.1.set_ 0 (.int .u64 b)).set_ 1 (.int .i64 h)
        have r0 := hRR.cell 0 (v := .int .u64 b) rfl
        have r1 := hRR.cell 1 (v := .int .i64 h) rfl
        exact bodyPost_ret (v := .agg #[.int .u64 b, .int .i64 h]) (by simp [results, Try.results42, go_sem, r0, r1]) rfl ⟨b, h, hS5.1.1, hS5.1.2.1, hS5.1.2.2.1, hS5.1.2.2.2, rfl, (hS5.2.2.2.2.1.far (by have := hS5.2.1; simp; omega) _).far (by have := hS5.2.1; simp; omega) _, grown_set (grown_set hS5.2.2.2.2.2 (.inr (by simp)) _) (.inr (by simp)) _⟩
/-- what one byte brings, where it is taken -/
theorem step_ok {b h x : Int} (h0 : 0 ≤ b) (ho : sbOver b h x = false) : (0 ≤ h ∧ h ≤ 9) ∧ sbHave b h x = h + 1 ∧ ((sbCode b h x = 1 ∧ x < 128) ∨ (sbCode b h x = 0 ∧ 128 ≤ x ∧ scanOk (sbBits b h x) (sbHave b h x) = true)) := by
  have ho' := ho
  simp only [sbOver, Bool.or_eq_false_iff, Bool.not_eq_false'] at ho'
  obtain ⟨⟨hs, hx⟩, hn⟩ := ho'
  obtain ⟨⟨k0, k9⟩, hd⟩ := scanOk_yes hs
  have hx2 : 0 ≤ x ∧ x ≤ 255 := by simpa [inB] using hx
  obtain ⟨u, rfl⟩ := Int.eq_ofNat_of_zero_le h0
  obtain ⟨k, rfl⟩ := Int.eq_ofNat_of_zero_le k0
  obtain ⟨x, rfl⟩ := Int.eq_ofNat_of_zero_le hx2.1
  rw [show (7 * (k : Int)).toNat = 7 * k from by omega, cast_pow] at hd
  have hu : u < 2 ^ (7 * k) := by
    have hd2 : u / 2 ^ (7 * k) = 0 := by
      have h2 : ((u / 2 ^ (7 * k) : Nat) : Int) = (u : Int) / ((2 ^ (7 * k) : Nat) : Int) := by simp
      rw [hd] at h2; omega
    exact (Nat.div_eq_zero_iff.mp hd2).resolve_left (by have : 0 < 2 ^ (7 * k) := Nat.pow_pos (by omega); omega)
  have hn2 : ¬ (k = 9 ∧ 1 < x) := by
    rintro ⟨rfl, h1⟩
    simp at hn; omega
  obtain ⟨e1, e2, e3⟩ := sb_step (by omega) hu (show x < 256 by omega) hn2
  refine ⟨by omega, by rw [e2]; simp, ?_⟩
  by_cases hx1 : x < 128
  · exact .inl ⟨by rw [e3, if_pos hx1], by omega⟩
  · refine .inr ⟨by rw [e3, if_neg hx1], by omega, ?_⟩
    rw [e1, e2]
    refine scanOk_mk (by omega) ?_
    have h7 : 2 ^ (7 * (k + 1)) = 128 * 2 ^ (7 * k) := by rw [show 7 * (k + 1) = 7 * k + 7 from by omega, Nat.pow_add]; omega
    have hm : x % 128 ≤ 127 := by omega
    have := Nat.mul_le_mul_right (2 ^ (7 * k)) hm
    omega
def DScanInt (w : World) (e : Ending) (w' : World) : Prop :=
  ∃ b h x : Int, 0 ≤ b ∧ b ≤ 18446744073709551615 ∧ -9223372036854775808 ≤ h ∧ h ≤ 9223372036854775807 ∧ -9223372036854775808 ≤ x ∧ x ≤ 9223372036854775807 ∧ e = .returned (.tuple #[.agg #[.int .u64 b, .int .i64 h], .int .i64 x]) ∧ Below w.heap.size w w'
set_option maxHeartbeats 1000000 in
theorem d_DrawScanByte {a : Option Addr} {len cap : Nat} {z : List Int} (w : World) (hl : len ≤ 1048576) (hc : CodeAt w w.heap.size a len z) :
    Calls Try.prog 32 #[.slice a len cap] w (DScanInt w) := by
  go_enter Try.func32, Try.ntmps32
  go_wp2_with fail
  have X := Box.new w 32 #[.int .u64 0, .int .i64 0]
  have hb0 : Below w.heap.size w (w.alloc (.cells #[.int .u64 0, .int .i64 0] 32)) := (Below.refl _ _).alloc (Nat.le_refl _) _
  have hcA : CodeAt (w.alloc (.cells #[.int .u64 0, .int .i64 0] 32)) (w.alloc (.cells #[.int .u64 0, .int .i64 0] 32)).heap.size a len z := by
    have hk : CodeAt (w.alloc (.cells #[.int .u64 0, .int .i64 0] 32)) w.heap.size a len z := hc.keep (fun k hk => hb0.block k hk)
    intro hl'
    obtain ⟨b, off, e, hb, hc⟩ := hk hl'
    exact ⟨b, off, e, Nat.lt_of_lt_of_le hb hb0.size, hc⟩
  have hsz : (w.alloc (.cells #[.int .u64 0, .int .i64 0] 32)).heap.size = w.heap.size + 1 := by simp
  refine (d_New (w.alloc (.cells #[.int .u64 0, .int .i64 0] 32)) (w.alloc (.cells #[.int .u64 0, .int .i64 0] 32)).heap.size (Nat.le_refl _) hl hcA).mono ?_
  rw [hsz]
  rintro e w1 ⟨rfl, hc1, hb1⟩
  go_wp2_with fail
  refine (d_l3Scan _ hc1).mono ?_
  rintro e w2 ⟨b, h, q0, q1, q2, q3, rfl, hc2, hg2⟩
  go_wp2_with fail
  refine (d_l3Byte _ hc2).mono ?_
  rintro e w3 ⟨y, hy0, hy1, rfl, hc3, hg3⟩
  have hB3 := hb1.trans (below_of_grown (hg2.trans hg3) (Nat.le_refl _) (by have := hb1.size; rw [hsz] at this; exact this))
  have X3 := X.all (by rw [hsz]; exact hB3)
  have f0 := X3.free 0
  have f1 := X3.free 1
  have x0 := X3.cell 0 (v := .int .u64 0) rfl
  have x1 := X3.cell 1 (v := .int .i64 0) rfl
  go_wp2
  have XR := (X3.set_ 0 (.int .u64 b)).set_ 1 (.int .i64 h)
  have r0 := XR.cell 0 (v := .int .u64 b) rfl
  have r1 := XR.cell 1 (v := .int .i64 h) rfl
  exact bodyPost_ret (v := .tuple #[.agg #[.int .u64 b, .int .i64 h], .int .i64 y]) (by simp [results, Try.results32, go_sem, r0, r1]) rfl ⟨b, h, y, q0, q1, q2, q3, hy0, hy1, rfl, by repeat (first | exact hb0.trans (hB3.mono (by simp)) | refine Below.setCell ?_ (by simp) _)⟩
set_option maxHeartbeats 1000000 in
theorem walkFnScanRight (a : Option Addr) (len cap : Nat) (z : List Int) (w : World) (hr : IsRow .u8 w a len cap z) : Calls Try.prog 11 #[.slice a len cap] w fun e w' => e = .returned (.bool true) ∧ Below w.heap.size w w' := by
  have hcode := Lib.hid (code_of_row hr)
  clear hr
  rcases hbig : decide (1048576 < len) with _ | _
  · have hl : len ≤ 1048576 := by simp at hbig; omega
    go_enter Try.func11, Try.ntmps11
    go_wp2_with (go_at_call 26; refine (c_big _ _ _ _).mono ?_; rintro e w' ⟨rfl, rfl⟩; rw [hbig])
    refine (d_DrawScanByte _ hl hcode.out).mono ?_
    rintro e w1 ⟨b, h, x, q0, q1, q2, q3, q4, q5, rfl, hb1⟩
    have hI := fun w => cI_ScanByte b h x w q0 q1
    have hP := fun w => cP_ScanByte b h x w q0 q1
    have hbd := sb_bd (h := h) (x := x) q0 q1
    rcases ho : sbOver b h x with _ | _
    · obtain ⟨⟨k0, k9⟩, eh, hk⟩ := step_ok q0 ho
      generalize sbBits b h x = u at hI hP hbd hk
      generalize sbHave b h x = v at hI hP hk eh
      generalize sbCode b h x = t at hI hP hk
      subst eh
      clear ho
      go_wp2_with fail
      refine (hI _).mono ?_
      rintro e w2 ⟨rfl, hb2⟩
      have X2 := (Box.new w1 32 #[.int .u64 b, .int .i64 h]).all hb2
      have XA := X2.alloc (.cells #[.int .u64 u, .int .i64 (h + 1)] 32)
      have XN := Box.new w2 32 #[.int .u64 u, .int .i64 (h + 1)]
      have a0 := XA.cell 0 (v := .int .u64 b) rfl
      have a1 := XA.cell 1 (v := .int .i64 h) rfl
      have n0 := XN.cell 0 (v := .int .u64 u) rfl
      have n1 := XN.cell 1 (v := .int .i64 (h + 1)) rfl
      have s1 : w1.heap.size < w2.heap.size := X2.lt
      have hB1 : Below w.heap.size w (w1.alloc (.cells #[.int .u64 b, .int .i64 h] 32)) := hb1.alloc hb1.size _
      have hB2 := (hB1.trans (hb2.mono hB1.size))
      have hB2' := hB2.alloc hB2.size (.cells #[.int .u64 u, .int .i64 (h + 1)] 32)
      go_wp2_with fail
      refine (hP _).mono ?_
      rintro e w3 ⟨rfl, hb3⟩
      have XA3 := XA.all hb3
      have XN3 := XN.all hb3
      have XA4 := XA3.alloc (.cells #[.int .u64 u, .int .i64 (h + 1)] 32)
      have XN4 := XN3.alloc (.cells #[.int .u64 u, .int .i64 (h + 1)] 32)
      have XY4 := Box.new w3 32 #[.int .u64 u, .int .i64 (h + 1)]
      have s2 : w2.heap.size < w3.heap.size := XN3.lt
      have hB3 := hB2'.trans (hb3.mono hB2'.size)
      clear a0 a1 n0 n1
      have a0 := XA4.cell 0 (v := .int .u64 b) rfl
      have a1 := XA4.cell 1 (v := .int .i64 h) rfl
      have n0 := XN4.cell 0 (v := .int .u64 u) rfl
      have n1 := XN4.cell 1 (v := .int .i64 (h + 1)) rfl
      have y0 := XY4.cell 0 (v := .int .u64 u) rfl
      have y1 := XY4.cell 1 (v := .int .i64 (h + 1)) rfl
      rcases hk with ⟨rfl, hx⟩ | ⟨rfl, hx, hok⟩
      · have hx' : (decide (127 < x)) = false := by simp; omega
        go_wp2
        go_ret
        exact ⟨ret_bool (by first | rfl | simp), by repeat (first | exact hB3 | refine Below.alloc ?_ (by have := hB3.size; simp; omega) _ | refine Below.alloc ?_ (by have := hB3.size; omega) _)⟩
      · have hx' : (decide (127 < x)) = true := by simp; omega
        go_wp2_with (go_at_call 33; refine (cI_ScanOk _ _ _ (by omega) (by omega)).mono ?_; rintro e w5 ⟨rfl, rfl⟩; rw [hok])
        go_ret
        exact ⟨ret_bool (by first | rfl | simp), by repeat (first | exact hB3 | refine Below.alloc ?_ (by have := hB3.size; simp; omega) _ | refine Below.alloc ?_ (by have := hB3.size; omega) _)⟩
    · obtain ⟨e1, e2, e3⟩ := over_eqs ho
      rw [← e1, ← e2, ← e3] at hI hP
      clear ho e1 e2 e3 hbd
      go_wp2_with fail
      refine (hI _).mono ?_
      rintro e w2 ⟨rfl, hb2⟩
      have X2 := (Box.new w1 32 #[.int .u64 b, .int .i64 h]).all hb2
      have XA := X2.alloc (.cells #[.int .u64 b, .int .i64 h] 32)
      have XN := Box.new w2 32 #[.int .u64 b, .int .i64 h]
      have a0 := XA.cell 0 (v := .int .u64 b) rfl
      have a1 := XA.cell 1 (v := .int .i64 h) rfl
      have n0 := XN.cell 0 (v := .int .u64 b) rfl
      have n1 := XN.cell 1 (v := .int .i64 h) rfl
      have s1 : w1.heap.size < w2.heap.size := X2.lt
      have hB1 : Below w.heap.size w (w1.alloc (.cells #[.int .u64 b, .int .i64 h] 32)) := hb1.alloc hb1.size _
      have hB2 := (hB1.trans (hb2.mono hB1.size))
      have hB2' := hB2.alloc hB2.size (.cells #[.int .u64 b, .int .i64 h] 32)
      go_wp2_with fail
      refine (hP _).mono ?_
      rintro e w3 ⟨rfl, hb3⟩
      have XA3 := XA.all hb3
      have XN3 := XN.all hb3
      have XA4 := XA3.alloc (.cells #[.int .u64 b, .int .i64 h] 32)
      have XN4 := XN3.alloc (.cells #[.int .u64 b, .int .i64 h] 32)
      have XY4 := Box.new w3 32 #[.int .u64 b, .int .i64 h]
      have s2 : w2.heap.size < w3.heap.size := XN3.lt
      have hB3 := hB2'.trans (hb3.mono hB2'.size)
      clear a0 a1 n0 n1
      have a0 := XA4.cell 0 (v := .int .u64 b) rfl
      have a1 := XA4.cell 1 (v := .int .i64 h) rfl
      have n0 := XN4.cell 0 (v := .int .u64 b) rfl
      have n1 := XN4.cell 1 (v := .int .i64 h) rfl
      have y0 := XY4.cell 0 (v := .int .u64 b) rfl
      have y1 := XY4.cell 1 (v := .int .i64 h) rfl
      go_wp2
      go_ret
      exact ⟨ret_bool (by first | rfl | simp), by repeat (first | exact hB3 | refine Below.alloc ?_ (by have := hB3.size; simp; omega) _ | refine Below.alloc ?_ (by have := hB3.size; omega) _)⟩
  · go_enter Try.func11, Try.ntmps11
    go_wp2_with (go_at_call 26; refine (c_big _ _ _ _).mono ?_; rintro e w' ⟨rfl, rfl⟩; rw [hbig])
    go_ret
    exact ⟨rfl, Below.refl _ _⟩
end Go.Proofs.Ytojhbhhlbgkeoaa
