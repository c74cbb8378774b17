/- Contracts of ScanText. Conditions: integers fit their kinds; a bound on the string. -/
import Derived.Test.YtojhbhhlbgkeoaaScanC
import Derived.StillTailTactics
import Derived.Deep.RegionHeld3
import Derived.Deep.RegionWith
import Derived.Deep.RegionLaw
import Derived.Deep.DeepCutAuto
import Derived.Deep.LoopGhost
namespace Go.Proofs.Ytojhbhhlbgkeoaa
open Go.RowKit Plain
set_option linter.unusedVariables false
set_option linter.unusedSimpArgs false
theorem sb_bd {b h x : Int} (h0 : 0 ≤ b) (h1 : b ≤ 18446744073709551615) : 0 ≤ sbBits b h x ∧ sbBits b h x ≤ 18446744073709551615 := by
  rcases ho : sbOver b h x with _ | _
  · rw [← (no_eqs ho).1]
    simp only [sbOver, Bool.or_eq_false_iff, Bool.not_eq_false'] at ho
    obtain ⟨⟨ho1, ho2⟩, ho3⟩ := ho
    obtain ⟨⟨hh0, hh9⟩, hz⟩ := scanOk_yes ho1
    obtain ⟨hx0, hx1⟩ := inB_yes ho2
    by_cases e9 : h = 9
    · subst e9
      have hx1' : x ≤ 1 := by simp at ho3; omega
      rw [← sbBP9 h0 hx0 hx1' hz, IntKind.wrap_u64]; omega
    · rw [← sbBP h0 hx0 hx1 hh0 (by omega) hz, IntKind.wrap_u64]; omega
  · rw [← (over_eqs ho).1]; exact ⟨h0, h1⟩
/-- two structs of the call's own, kept while a region draws its order -/
def SInv (w0 : World) (g0 g1 : Nat) (t : TypeId) (x y z u : Value) (w : World) : Prop := Box w g0 t #[x, y] ∧ Box w g1 t #[z, u] ∧ Below w0.heap.size w0 w
section
variable {w0 w w1 : World} {g0 g1 : Nat} {t : TypeId} {x y z u : Value}
theorem S_of (h : SInv w0 g0 g1 t x y z u w) : w.cell? ⟨g0, 0, none⟩ = some x ∧ w.cell? ⟨g0, 1, none⟩ = some y ∧ SInv w0 g0 g1 t x y z u w := ⟨h.1.cell 0 rfl, h.1.cell 1 rfl, h⟩
theorem S_alloc (h : w.cell? ⟨g0, 0, none⟩ = some x ∧ w.cell? ⟨g0, 1, none⟩ = some y ∧ SInv w0 g0 g1 t x y z u w) (o : Obj) :
    (w.alloc o).cell? ⟨g0, 0, none⟩ = some x ∧ (w.alloc o).cell? ⟨g0, 1, none⟩ = some y ∧ SInv w0 g0 g1 t x y z u (w.alloc o) := S_of ⟨h.2.2.1.alloc o, h.2.2.2.1.alloc o, h.2.2.2.2.alloc h.2.2.2.2.size o⟩
theorem S_drew (h : w.cell? ⟨g0, 0, none⟩ = some x ∧ w.cell? ⟨g0, 1, none⟩ = some y ∧ SInv w0 g0 g1 t x y z u w) :
    w.drew.cell? ⟨g0, 0, none⟩ = some x ∧ w.drew.cell? ⟨g0, 1, none⟩ = some y ∧ SInv w0 g0 g1 t x y z u w.drew := S_of ⟨h.2.2.1, h.2.2.2.1, h.2.2.2.2.drew⟩
theorem S_call (h : w.cell? ⟨g0, 0, none⟩ = some x ∧ w.cell? ⟨g0, 1, none⟩ = some y ∧ SInv w0 g0 g1 t x y z u w) (hb : Below w.heap.size w w1) :
    w1.cell? ⟨g0, 0, none⟩ = some x ∧ w1.cell? ⟨g0, 1, none⟩ = some y ∧ SInv w0 g0 g1 t x y z u w1 := S_of ⟨h.2.2.1.all hb, h.2.2.2.1.all hb, h.2.2.2.2.trans (hb.mono h.2.2.2.2.size)⟩
theorem S_set (h : w.cell? ⟨g0, 0, none⟩ = some x ∧ w.cell? ⟨g0, 1, none⟩ = some y ∧ SInv w0 g0 g1 t x y z u w) {p : Addr} (h0 : g0 < p.block) (h1 : g1 < p.block) (h2 : w0.heap.size ≤ p.block) (v : Value) :
    (w.setCell p v).cell? ⟨g0, 0, none⟩ = some x ∧ (w.setCell p v).cell? ⟨g0, 1, none⟩ = some y ∧ SInv w0 g0 g1 t x y z u (w.setCell p v) :=
  S_of ⟨h.2.2.1.far (by omega) v, h.2.2.2.1.far (by omega) v, h.2.2.2.2.setCell h2 v⟩
end
def scanL : List Nat → Int → Int → Int × Int × Nat × Int
  | [], b, h => (b, h, 0, 0)
  | x :: r, b, h => if sbCode b h x = 0 then ((scanL r (sbBits b h x) (sbHave b h x)).1, (scanL r (sbBits b h x) (sbHave b h x)).2.1, (scanL r (sbBits b h x) (sbHave b h x)).2.2.1 + 1, (scanL r (sbBits b h x) (sbHave b h x)).2.2.2)
      else (sbBits b h x, sbHave b h x, 1, sbCode b h x)
/-- k bytes are taken, the state is (b, h) -/
def ScRel (l : List Nat) (b0 h0 : Int) (k : Nat) (b h : Int) : Prop :=
  k ≤ l.length ∧ 0 ≤ b ∧ b ≤ 18446744073709551615 ∧ scanL l b0 h0 = ((scanL (l.drop k) b h).1, (scanL (l.drop k) b h).2.1, (scanL (l.drop k) b h).2.2.1 + k, (scanL (l.drop k) b h).2.2.2)
theorem ScRel.start {l : List Nat} {b h : Int} (h0 : 0 ≤ b) (h1 : b ≤ 18446744073709551615) : ScRel l b h 0 b h := ⟨Nat.zero_le _, h0, h1, rfl⟩
theorem ScRel.end_ {l : List Nat} {b0 h0 b h : Int} {k : Nat} (r : ScRel l b0 h0 k b h) (he : l.length ≤ k) : scanL l b0 h0 = (b, h, l.length, 0) := by
  rw [r.2.2.2, List.drop_of_length_le he, scanL]
  have := r.1
  simp; omega
theorem ScRel.step {l : List Nat} {b0 h0 b h : Int} {k : Nat} (r : ScRel l b0 h0 k b h) (hk : k < l.length) (hc : sbCode b h (l.getD k 0 : Nat) = 0) :
    ScRel l b0 h0 (k + 1) (sbBits b h (l.getD k 0 : Nat)) (sbHave b h (l.getD k 0 : Nat)) := by
  obtain ⟨r1, r2, r3, r4⟩ := r
  refine ⟨hk, (sb_bd r2 r3).1, (sb_bd r2 r3).2, ?_⟩
  rw [r4, drop_cons hk, scanL, if_pos hc]
  simp only [Prod.mk.injEq, true_and, and_true]; omega
theorem ScRel.stop {l : List Nat} {b0 h0 b h : Int} {k : Nat} (r : ScRel l b0 h0 k b h) (hk : k < l.length) (hc : ¬ sbCode b h (l.getD k 0 : Nat) = 0) :
    scanL l b0 h0 = (sbBits b h (l.getD k 0 : Nat), sbHave b h (l.getD k 0 : Nat), k + 1, sbCode b h (l.getD k 0 : Nat)) := by
  obtain ⟨r1, r2, r3, r4⟩ := r
  rw [r4, drop_cons hk, scanL, if_neg hc]
  simp only [Prod.mk.injEq, true_and, and_true]; omega

set_option maxRecDepth 20000 in
set_option maxHeartbeats 1000000 in
theorem cI_ScanText (b h : Int) (s : ByteArray) (w : World) (h0 : 0 ≤ b) (h1 : b ≤ 18446744073709551615) (hs : s.size ≤ 1048576) : Calls Try.prog 25 #[.agg #[.int .u64 b, .int .i64 h], .string s] w fun e w' => e = .returned (.tuple #[.agg #[.int .u64 (scanL (bl s) b h).1, .int .i64 (scanL (bl s) b h).2.1], .int .i64 (scanL (bl s) b h).2.2.1, .int .i64 (scanL (bl s) b h).2.2.2]) ∧ Below w.heap.size w w' := by
  go_enter Try.func25, Try.ntmps25
  have X0 := (Box.new w 32 #[.int .u64 b, .int .i64 h]).alloc (.cells #[.int .u64 0, .int .i64 0] 32)
  have Y0 := Box.new (w.alloc (.cells #[.int .u64 b, .int .i64 h] 32)) 32 #[.int .u64 0, .int .i64 0]
  have HL := Lib.hid (bl_length s)
  go_wp2_with fail
  go_loopg [12] s.size (fun gk c wr => ∃ (k : Nat) (b' h' : Int), gk = s.size - k ∧ ScRel (bl s) b h k b' h' ∧ k ≤ s.size ∧ c = .int .i64 k ∧ Box wr w.heap.size 32 #[.int .u64 b', .int .i64 h'] ∧ Box wr (w.heap.size + 1) 32 #[.int .u64 0, .int .i64 0] ∧ Below w.heap.size w wr)
  case atStart => exact ⟨0, b, h, rfl, ScRel.start h0 h1, Nat.zero_le _, rfl, X0, by simpa using Y0, ((Below.refl _ _).alloc (Nat.le_refl _) _).alloc (by simp) _⟩
  case round =>
    obtain ⟨k, b', h', hgk, hr, hk, rfl, X, Y, hbel⟩ := hrel
    have xc0 : wr.cell? ⟨w.heap.size, 0, none⟩ = some (.int .u64 b') := X.cell 0 rfl
    have xc1 : wr.cell? ⟨w.heap.size, 1, none⟩ = some (.int .i64 h') := X.cell 1 rfl
    have xf0 := X.free 0; have xf1 := X.free 1
    have yc0 : wr.cell? ⟨w.heap.size + 1, 0, none⟩ = some (.int .u64 0) := Y.cell 0 rfl
    have yc1 : wr.cell? ⟨w.heap.size + 1, 1, none⟩ = some (.int .i64 0) := Y.cell 1 rfl
    have yf0 := Y.free 0; have yf1 := Y.free 1
    have yl := Y.lt
    have hb0 := hr.2.1; have hb1 := hr.2.2.1
    by_cases hlt : k < s.size
    · have hk0 : (0 : Int) ≤ (k : Int) := by omega
      have hk1 : (k : Int) < (s.size : Int) := by omega
      have hx : (s[k]).toNat < 256 := (s[k]).toNat_lt
      have HGK := Lib.hid hgk
      clear hgk
      go_upto_region 4 with (fail)
      go_cut [8, 9] (fun p c wx => ∃ g2 : Nat, p = .pointer (some ⟨g2, 0, none⟩) ∧ c = .int .i64 (sbCode b' h' (IntKind.i64.wrap (s[k]).toNat)) ∧ Box wx g2 32 #[.int .u64 (sbBits b' h' (IntKind.i64.wrap (s[k]).toNat)), .int .i64 (sbHave b' h' (IntKind.i64.wrap (s[k]).toNat))] ∧ w.heap.size + 1 < g2 ∧ SInv w w.heap.size (w.heap.size + 1) 32 (.int .u64 b') (.int .i64 h') (.int .u64 0) (.int .i64 0) wx)
      case first =>
        go_region_held3 (fun w' => w'.cell? ⟨w.heap.size, 0, none⟩ = some (.int .u64 b') ∧ w'.cell? ⟨w.heap.size, 1, none⟩ = some (.int .i64 h') ∧ SInv w w.heap.size (w.heap.size + 1) 32 (.int .u64 b') (.int .i64 h') (.int .u64 0) (.int .i64 0) w') (first | exact S_of ⟨X.drew, Y.drew, hbel.drew⟩ | exact S_drew (by assumption) | exact S_alloc (by assumption) _ | exact S_call (by assumption) hbc | exact S_drew (S_alloc (S_of ⟨X, Y, hbel⟩) _) | exact S_alloc (S_call (S_of ⟨X.drew, Y.drew, hbel.drew⟩) hbc) _ | exact S_set (by assumption) (by simp; omega) (by simp; omega) (by simp; omega) _ | exact S_set (S_set (by assumption) (by simp; omega) (by simp; omega) (by simp; omega) _) (by simp; omega) (by simp; omega) (by simp; omega) _ | exact S_set (S_set (S_alloc (by assumption) _) (by simp; omega) (by simp; omega) (by simp; omega) _) (by simp; omega) (by simp; omega) (by simp; omega) _)
          (first | (go_at_call 22; refine (cI_ScanByte _ _ _ _ hb0 hb1).mono ?_; rintro e w1 ⟨rfl, hbc⟩; obtain ⟨hcc, hff⟩ := bcell hbc; have hsz := hbc.size; simp at hsz))
        all_goals go_wp2_with fail
        all_goals go_meet
        · exact ⟨_, rfl, rfl, Box.new _ _ _, by omega, (by assumption : _ ∧ _ ∧ SInv _ _ _ _ _ _ _ _ _).2.2⟩
        all_goals exact ⟨_, rfl, rfl, (((Box.new wr 32 #[.int .u64 0, .int .i64 0]).drew.all hbc).set_ 0 _).set_ 1 _, by omega, (by assumption : _ ∧ _ ∧ SInv _ _ _ _ _ _ _ _ _).2.2⟩
      case rest =>
        obtain ⟨g2, rfl, rfl, Z, hg2, X', Y', hbel'⟩ := hcut
        have wz : IntKind.i64.wrap ((s[k]).toNat : Int) = (((bl s).getD k 0 : Nat) : Int) := by rw [bl_get s k hlt]; exact IntWalk.i64_in _ (by omega)
        rw [wz] at Z ⊢
        clear wz hx xc0 xc1 xf0 xf1 yc0 yc1 yf0 yf1 X Y hbel
        obtain ⟨q, hq⟩ : ∃ q : Int, q = (((bl s).getD k 0 : Nat) : Int) := ⟨_, rfl⟩
        rw [← hq] at Z ⊢
        have xc0 : wc.cell? ⟨w.heap.size, 0, none⟩ = some (.int .u64 b') := X'.cell 0 rfl
        have xc1 : wc.cell? ⟨w.heap.size, 1, none⟩ = some (.int .i64 h') := X'.cell 1 rfl
        have xf0 := X'.free 0; have xf1 := X'.free 1
        have yc0 : wc.cell? ⟨w.heap.size + 1, 0, none⟩ = some (.int .u64 0) := Y'.cell 0 rfl
        have yc1 : wc.cell? ⟨w.heap.size + 1, 1, none⟩ = some (.int .i64 0) := Y'.cell 1 rfl
        have yf0 := Y'.free 0; have yf1 := Y'.free 1
        have zc0 : wc.cell? ⟨g2, 0, none⟩ = some (.int .u64 (sbBits b' h' q)) := Z.cell 0 rfl
        have zc1 : wc.cell? ⟨g2, 1, none⟩ = some (.int .i64 (sbHave b' h' q)) := Z.cell 1 rfl
        have zf0 := Z.free 0; have zf1 := Z.free 1
        have HQ := Lib.hid hq
        clear hq
        by_cases hcode : sbCode b' h' q = 0
        · have HS := Lib.hid (hr.step (by rw [HL.out]; exact hlt) (by rw [← HQ.out]; exact hcode))
          have hcb : (sbCode b' h' q != 0) = false := by simp [hcode]
          clear hcode
          go_wp2
          go_roundg (s.size - (k + 1))
          case measure => have := HGK.out; omega
          case rel => exact ⟨k + 1, _, _, rfl, by have h7 := HS.out; rw [← HQ.out] at h7; exact h7, by omega, by go_num, (X'.set_ 0 _).set_ 1 _, (Y'.far (by simp) _).far (by simp) _, (hbel'.setCell (Nat.le_refl _) _).setCell (Nat.le_refl _) _⟩
        · have HS := Lib.hid (hr.stop (by rw [HL.out]; exact hlt) (by rw [← HQ.out]; exact hcode))
          have hcb : (sbCode b' h' q != 0) = true := by simp [hcode]
          clear hcode
          go_wp2
          exact bodyPost_ret (v := .tuple #[.agg #[.int .u64 (sbBits b' h' q), .int .i64 (sbHave b' h' q)], .int .i64 (k + 1), .int .i64 (sbCode b' h' q)]) (by simp [results, Try.results25, go_sem, xc0, xc1, yc0, yc1]) rfl ⟨by rw [HS.out, ← HQ.out]; rfl, by repeat (first | exact hbel' | refine Below.setCell ?_ (by simp) _)⟩
    · have he : (bl s).length ≤ k := by rw [HL.out]; omega
      have HS := Lib.hid (hr.end_ he)
      have hkk : s.size ≤ k := by omega
      clear he hr hgk
      go_wp2
      exact bodyPost_ret (v := .tuple #[.agg #[.int .u64 b', .int .i64 h'], .int .i64 s.size, .int .i64 0]) (by simp [results, Try.results25, go_sem, xc0, xc1, yc0, yc1]) rfl ⟨by rw [HS.out, HL.out], by repeat (first | exact hbel | refine Below.setCell ?_ (by simp) _)⟩
/-- what the reference's loop keeps: it goes on, or it has stopped at k -/
def ScRelP (l : List Nat) (b0 h0 : Int) (k : Nat) (b h cd : Int) : Prop := (cd = 0 ∧ ScRel l b0 h0 k b h) ∨ (¬ cd = 0 ∧ scanL l b0 h0 = (b, h, k, cd))
set_option maxRecDepth 20000 in
set_option maxHeartbeats 1000000 in
theorem cP_ScanText (b h : Int) (s : ByteArray) (w : World) (h0 : 0 ≤ b) (h1 : b ≤ 18446744073709551615) (hs : s.size ≤ 1048576) : Calls Try.prog 24 #[.agg #[.int .u64 b, .int .i64 h], .string s] w fun e w' => e = .returned (.tuple #[.agg #[.int .u64 (scanL (bl s) b h).1, .int .i64 (scanL (bl s) b h).2.1], .int .i64 (scanL (bl s) b h).2.2.1, .int .i64 (scanL (bl s) b h).2.2.2]) ∧ Below w.heap.size w w' := by
  go_enter Try.func24, Try.ntmps24
  have X0 := (Box.new w 32 #[.int .u64 b, .int .i64 h]).alloc (.cells #[.int .u64 0, .int .i64 0] 32)
  have Y0 := Box.new (w.alloc (.cells #[.int .u64 b, .int .i64 h] 32)) 32 #[.int .u64 0, .int .i64 0]
  have HL := Lib.hid (bl_length s)
  go_wp2_with fail
  go_loopg [7, 8] s.size (fun gk d c wr => ∃ (k : Nat) (b' h' cd : Int), gk = s.size - k ∧ ScRelP (bl s) b h k b' h' cd ∧ k ≤ s.size ∧ c = .int .i64 k ∧ d = .int .i64 cd ∧ Box wr w.heap.size 32 #[.int .u64 b', .int .i64 h'] ∧ Box wr (w.heap.size + 1) 32 #[.int .u64 0, .int .i64 0] ∧ Below w.heap.size w wr)
  case atStart => exact ⟨0, b, h, 0, rfl, .inl ⟨rfl, ScRel.start h0 h1⟩, Nat.zero_le _, rfl, rfl, X0, by simpa using Y0, ((Below.refl _ _).alloc (Nat.le_refl _) _).alloc (by simp) _⟩
  case round =>
    obtain ⟨k, b', h', cd, hgk, hr, hk, rfl, rfl, X, Y, hbel⟩ := hrel
    have xc0 : wr.cell? ⟨w.heap.size, 0, none⟩ = some (.int .u64 b') := X.cell 0 rfl
    have xc1 : wr.cell? ⟨w.heap.size, 1, none⟩ = some (.int .i64 h') := X.cell 1 rfl
    have xf0 := X.free 0; have xf1 := X.free 1
    have yc0 : wr.cell? ⟨w.heap.size + 1, 0, none⟩ = some (.int .u64 0) := Y.cell 0 rfl
    have yc1 : wr.cell? ⟨w.heap.size + 1, 1, none⟩ = some (.int .i64 0) := Y.cell 1 rfl
    have yf0 := Y.free 0; have yf1 := Y.free 1
    have yl := Y.lt
    have HGK := Lib.hid hgk
    clear hgk
    rcases hr with ⟨rfl, hr⟩ | ⟨hc0, hr⟩
    · have hb0 := hr.2.1; have hb1 := hr.2.2.1
      by_cases hlt : k < s.size
      · have hk0 : (0 : Int) ≤ (k : Int) := by omega
        have hk1 : (k : Int) < (s.size : Int) := by omega
        have hx : (s[k]).toNat < 256 := (s[k]).toNat_lt
        go_upto_region 4 with (fail)
        go_cut [7] (fun c wx => c = .int .i64 (sbCode b' h' (IntKind.i64.wrap (s[k]).toNat)) ∧ Box wx w.heap.size 32 #[.int .u64 (sbBits b' h' (IntKind.i64.wrap (s[k]).toNat)), .int .i64 (sbHave b' h' (IntKind.i64.wrap (s[k]).toNat))] ∧ Box wx (w.heap.size + 1) 32 #[.int .u64 0, .int .i64 0] ∧ Below w.heap.size w wx)
        case first =>
          go_region_law ((go_simp; go_at_call 20; refine (cP_ScanByte _ _ _ _ hb0 hb1).mono ?_; rintro e w1 ⟨rfl, hbc⟩; have XX := (X.drew).all hbc; have YY := (Y.drew).all hbc; have BB := hbel.drew.trans (hbc.mono hbel.drew.size); have q0 : w1.cell? ⟨w.heap.size, 0, none⟩ = some (.int .u64 b') := XX.cell 0 rfl; have q1 : w1.cell? ⟨w.heap.size, 1, none⟩ = some (.int .i64 h') := XX.cell 1 rfl; have f0 := XX.free 0; have f1 := XX.free 1))
          all_goals go_wp2_with fail
          all_goals go_meet
          all_goals exact ⟨rfl, (XX.set_ 0 _).set_ 1 _, (YY.far (by simp) _).far (by simp) _, (BB.setCell (Nat.le_refl _) _).setCell (Nat.le_refl _) _⟩
        case rest =>
          obtain ⟨rfl, X', Y', hbel'⟩ := hcut
          have wz : IntKind.i64.wrap ((s[k]).toNat : Int) = (((bl s).getD k 0 : Nat) : Int) := by rw [bl_get s k hlt]; exact IntWalk.i64_in _ (by omega)
          rw [wz] at X' ⊢
          clear wz hx xc0 xc1 xf0 xf1 yc0 yc1 yf0 yf1 yl X Y hbel
          obtain ⟨q, hq⟩ : ∃ q : Int, q = (((bl s).getD k 0 : Nat) : Int) := ⟨_, rfl⟩
          rw [← hq] at X' ⊢
          have HQ := Lib.hid hq
          clear hq
          have HR : Hid (ScRelP (bl s) b h (k + 1) (sbBits b' h' q) (sbHave b' h' q) (sbCode b' h' q)) := Lib.hid (by
            by_cases hcode : sbCode b' h' q = 0
            · refine .inl ⟨hcode, ?_⟩
              have h7 := hr.step (by rw [HL.out]; exact hlt) (by rw [← HQ.out]; exact hcode)
              rw [← HQ.out] at h7; exact h7
            · refine .inr ⟨hcode, ?_⟩
              have h7 := hr.stop (by rw [HL.out]; exact hlt) (by rw [← HQ.out]; exact hcode)
              rw [← HQ.out] at h7; exact h7)
          clear hr
          go_wp2
          go_roundg (s.size - (k + 1))
          case measure => have := HGK.out; omega
          case rel => exact ⟨k + 1, _, _, _, rfl, HR.out, by omega, by go_num, rfl, X', Y', hbel'⟩
      · have he : (bl s).length ≤ k := by rw [HL.out]; omega
        have HS := Lib.hid (hr.end_ he)
        have hkk : s.size ≤ k := by omega
        clear he hr
        go_wp2
        exact bodyPost_ret (v := .tuple #[.agg #[.int .u64 b', .int .i64 h'], .int .i64 k, .int .i64 0]) (by simp [results, Try.results24, go_sem, xc0, xc1, yc0, yc1]) rfl ⟨by rw [HS.out, HL.out]; rw [show k = s.size from by omega], by repeat (first | exact hbel | refine Below.setCell ?_ (by simp) _)⟩
    · have hcb : (cd == 0) = false := by simp [hc0]
      have HS := Lib.hid hr
      clear hr hc0
      by_cases hlt : k < s.size
      · go_wp2
        exact bodyPost_ret (v := .tuple #[.agg #[.int .u64 b', .int .i64 h'], .int .i64 k, .int .i64 cd]) (by simp [results, Try.results24, go_sem, xc0, xc1, yc0, yc1]) rfl ⟨by rw [HS.out], by repeat (first | exact hbel | refine Below.setCell ?_ (by simp) _)⟩
      · go_wp2
        exact bodyPost_ret (v := .tuple #[.agg #[.int .u64 b', .int .i64 h'], .int .i64 k, .int .i64 cd]) (by simp [results, Try.results24, go_sem, xc0, xc1, yc0, yc1]) rfl ⟨by rw [HS.out], by repeat (first | exact hbel | refine Below.setCell ?_ (by simp) _)⟩
end Go.Proofs.Ytojhbhhlbgkeoaa
