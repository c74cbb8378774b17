/- Contracts of the decimal digits: the reference's loop and the library's words agree. Conditions: integers fit their kinds; the library's table of powers stands in memory. -/
import Derived.Test.YtecmeomcgnjapaaDoorRow
import Derived.Test.YtecmeomcgnjapaaDoorNum
import Derived.Test.YtecmeomcgnjapaaDoorShelf
import Derived.Lib.ItoaNum
import Derived.Sort.Grow
namespace Go.Proofs.YtecmeomcgnjapaaDoor
open Go.RowKit
set_option linter.unusedVariables false
set_option linter.unusedSimpArgs false
/-- the library's table of powers stands in memory -/
def Pow (w : World) : Prop := Lib.TabIs Tryd.prog w "internal/strconv.uint64pow10" .u64 Lib.pow10Tab
theorem Pow.below {w w' : World} (h : Pow w) (hb : Below w.heap.size w w') : Pow w' := by
  unfold Pow Lib.TabIs World.var? at h ⊢
  obtain ⟨g, hgn⟩ : ∃ g, Tryd.prog.globalNamed "internal/strconv.uint64pow10" = some g := by
    cases hg : Tryd.prog.globalNamed "internal/strconv.uint64pow10" with
    | none => rw [hg] at h; cases h
    | some g => exact ⟨g, rfl⟩
  rw [hgn] at h ⊢
  simp only [Option.bind_some] at h ⊢
  have hlt : g < w.heap.size := by
    rcases Nat.lt_or_ge g w.heap.size with h' | h'
    · exact h'
    · rw [Array.getElem?_eq_none h'] at h; cases h
  rw [hb.block g hlt]
  exact h
theorem below_grow (w : World) (k : Nat) (os : Array Obj) : Below w.heap.size w (Sort.grow (w.drewN k) os) :=
  ⟨rfl, rfl, rfl, by rw [Sort.size_grow]; exact Nat.le_add_right _ _, fun j hj => Sort.heap_grow_old (w.drewN k) os hj⟩
/-- the text of a list of bytes -/
def tx (l : List UInt8) : ByteArray := ⟨l.toArray⟩
theorem c_Itoa (n : Int) (w : World) (h0 : -9223372036854775808 ≤ n) (h1 : n ≤ 9223372036854775807) (hp : Pow w) :
    Calls Tryd.prog 13 #[.int .i64 n] w fun e w' => e = .returned (.string (tx (Lib.itoa n))) ∧ Below w.heap.size w w' := by
  go_enter Tryd.func13, Tryd.ntmps13
  go_wp2_with (go_at_call 27; refine (Tryd.strconv_Itoa n h0 h1 _ hp).mono ?_; rintro e w' ⟨rfl, k, os, rfl⟩)
  go_ret
  exact ⟨rfl, below_grow _ _ _⟩
theorem u8z : U8s Tryd.prog 32 5 9 :=
  ⟨Tryd.underlying32, Tryd.underlying5, Tryd.underlying9, info_parts (show (Tryd.prog.info? 5).map (fun i => (i.zero, i.size, i.bytes)) = some (some (.int .u8 0), 1, 1) by kernel_rfl)⟩
theorem conv_one (w : World) (v : Int) (n : Nat) (hv : v = (n : Nat)) :
    (convert 32 9 (.slice (some ⟨w.heap.size, 0, none⟩) 1 1)).run Tryd.prog (w.alloc (.cells #[.int .u8 v] 5)) = .ok (.string (tx [UInt8.ofNat n])) (w.alloc (.cells #[.int .u8 v] 5)) := by
  subst hv
  have hr := RowAt.new w #[.int .u8 (n : Nat)] 5 [n] (fun j hj => by
    obtain rfl : j = 0 := by simpa using hj
    rfl) (by simp) (by simp [maxLen])
  have h := run_string_of_row' u8z hr 1 rfl
  exact h
theorem tx_cons (b : UInt8) (l : List UInt8) : tx [b] ++ tx l = tx (b :: l) := by
  apply bl_ext
  rw [bl_append]
  simp [bl, tx]
/-- how far the digits are written: o stands, q is left -/
def DRel (N q : Nat) (o : List UInt8) : Prop := (0 < q ∧ Lib.decDigits N = Lib.decDigits q ++ o) ∨ (q = 0 ∧ Lib.decDigits N = o)
theorem DRel.start {N : Nat} (h : 0 < N) : DRel N N [] := .inl ⟨h, by simp⟩
theorem DRel.next {N q : Nat} {o : List UInt8} (r : DRel N q o) (hq : 0 < q) : DRel N (q / 10) (UInt8.ofNat (48 + q % 10) :: o) := by
  rcases r with ⟨_, h⟩ | ⟨h, _⟩
  · by_cases h10 : q < 10
    · have e : Lib.decDigits q = [UInt8.ofNat (48 + q)] := by rw [Lib.decDigits, dif_pos h10]
      refine .inr ⟨by omega, ?_⟩
      rw [h, e, Nat.mod_eq_of_lt h10]; rfl
    · have e : Lib.decDigits q = Lib.decDigits (q / 10) ++ [UInt8.ofNat (48 + q % 10)] := by rw [Lib.decDigits, dif_neg h10]
      refine .inl ⟨by omega, ?_⟩
      rw [h, e, List.append_assoc]; rfl
  · omega
theorem DRel.end_ {N : Nat} {o : List UInt8} (r : DRel N 0 o) : Lib.decDigits N = o := by
  rcases r with ⟨h, _⟩ | ⟨_, h⟩
  · omega
  · exact h
theorem decDigits_le (n : Nat) : ∀ k : Nat, n < 10 ^ (k + 1) → (Lib.decDigits n).length ≤ k + 1 := by
  intro k
  induction k generalizing n with
  | zero => intro h; rw [Lib.decDigits, dif_pos (by simpa using h)]; simp
  | succ k ih =>
    intro h
    rw [Lib.decDigits]
    split
    · simp
    · rw [List.length_append]
      have := ih (n / 10) (by rw [Nat.pow_succ] at h; omega)
      simp; omega
theorem DRel.size {N q : Nat} {o : List UInt8} (r : DRel N q o) (hN : N < 10 ^ 20) : (tx o).size ≤ 20 := by
  have h := decDigits_le N 19 hN
  have e : (tx o).size = o.length := by show o.toArray.size = _; simp
  rw [e]
  rcases r with ⟨_, hr⟩ | ⟨_, hr⟩
  · rw [hr, List.length_append] at h; omega
  · rw [hr] at h; omega
set_option maxRecDepth 20000 in
set_option maxHeartbeats 1000000 in
theorem cP_Digits (n : Int) (w : World) (h0 : -9223372036854775808 ≤ n) (h1 : n ≤ 9223372036854775807) :
    Calls Tryd.prog 12 #[.int .i64 n] w fun e w' => e = .returned (.string (tx (Lib.itoa n))) ∧ Below w.heap.size w w' := by
  by_cases hz : n = 0
  · subst hz
    have hi : Hid (Lib.itoa 0 = [48]) := Lib.hid (by unfold Lib.itoa; rw [if_neg (by omega), Lib.decDigits, dif_pos (by decide)]; rfl)
    go_enter Tryd.func12, Tryd.ntmps12
    go_wp2
    go_ret
    exact ⟨by rw [hi.out]; rfl, Below.refl _ _⟩
  · have hz' : (n == 0) = false := by simp [hz]
    by_cases hneg : n < 0
    · obtain ⟨N, hN⟩ : ∃ N : Nat, n = -(N : Int) := ⟨n.natAbs, by omega⟩
      have hit : Hid (Lib.itoa n = 45 :: Lib.decDigits N) := Lib.hid (by unfold Lib.itoa; rw [if_pos hneg]; congr 2; omega)
      have hN0 : 0 < N := by omega
      have hN20 : N < 10 ^ 20 := by omega
      have HN' := Lib.hid hN
      go_enter Tryd.func12, Tryd.ntmps12
      go_wp2_with fail
      go_loopw [0, 4, 5] (fun a o d wr => ∃ (q : Nat) (l : List UInt8), q ≤ N ∧ DRel N q l ∧ a = .int .i64 (-(q : Int)) ∧ o = .string (tx l) ∧ Below w.heap.size w wr) (fun a _ _ _ => (intOf a).natAbs)
      case atStart => exact ⟨N, [], Nat.le_refl _, DRel.start hN0, by rw [hN], rfl, Below.refl _ _⟩
      case round =>
        obtain ⟨q, l, hq, hr, rfl, rfl, hbel⟩ := hrel
        have hsz := hr.size hN20
        by_cases hq0 : 0 < q
        · have HR := Lib.hid (hr.next hq0)
          have hcv1 := conv_one wr (48 + (q : Int) % 10) (48 + q % 10) (by omega)
          obtain ⟨t, ht⟩ : ∃ t, t = tx [UInt8.ofNat (48 + q % 10)] := ⟨_, rfl⟩
          rw [← ht] at hcv1
          have hts : t.size = 1 := by rw [ht]; rfl
          have HT : Hid (t ++ tx l = tx (UInt8.ofNat (48 + q % 10) :: l)) := Lib.hid (by rw [ht]; exact tx_cons _ _)
          clear hr ht
          have hq1 : (-(q : Int)).tmod 10 = -((q : Int) % 10) := by rw [Int.neg_tmod, Int.tmod_eq_emod_of_nonneg (by omega)]
          have hq2 : (-(q : Int)).tdiv 10 = -((q : Int) / 10) := by rw [Int.neg_tdiv, Int.tdiv_eq_ediv_of_nonneg (by omega)]
          have hqn : (-(q : Int) != 0) = true := by simp; omega
          rcases hm : decide (0 < q % 10) with _ | _
          · have hm0 : (q : Int) % 10 = 0 := by simp at hm; omega
            have hcv2 : (48 : Int) + (q : Int) % 10 = 48 := by omega
            rw [hcv2] at hcv1
            go_wp2
            go_roundw
            case rel => exact ⟨q / 10, _, by omega, HR.out, by first | rfl | (congr 1), by rw [HT.out], hbel.alloc hbel.size _⟩
            case measure => simp [intOf]; omega
          · have hm0 : 0 < (q : Int) % 10 := by simp at hm; omega
            have hm1 : -((q : Int) % 10) < 0 := by omega
            go_wp2
            go_roundw
            case rel => exact ⟨q / 10, _, by omega, HR.out, by first | rfl | (congr 1), by rw [HT.out], hbel.alloc hbel.size _⟩
            case measure => simp [intOf]; omega
        · obtain rfl : q = 0 := by omega
          have HE := Lib.hid hr.end_
          go_wp2
          go_ret
          exact ⟨by rw [hit.out, HE.out]; rw [← tx_cons]; rfl, hbel⟩
    · obtain ⟨N, rfl⟩ := Int.eq_ofNat_of_zero_le (show 0 ≤ n by omega)
      have hit : Hid (Lib.itoa (N : Int) = Lib.decDigits N) := Lib.hid (by unfold Lib.itoa; rw [if_neg hneg]; congr 1)
      have hN0 : 0 < N := by omega
      have hN20 : N < 10 ^ 20 := by omega
      go_enter Tryd.func12, Tryd.ntmps12
      go_wp2_with fail
      go_loopw [0, 4, 5] (fun a o d wr => ∃ (q : Nat) (l : List UInt8), q ≤ N ∧ DRel N q l ∧ a = .int .i64 (q : Int) ∧ o = .string (tx l) ∧ Below w.heap.size w wr) (fun a _ _ _ => (intOf a).natAbs)
      case atStart => exact ⟨N, [], Nat.le_refl _, DRel.start hN0, rfl, rfl, Below.refl _ _⟩
      case round =>
        obtain ⟨q, l, hq, hr, rfl, rfl, hbel⟩ := hrel
        have hsz := hr.size hN20
        by_cases hq0 : 0 < q
        · have HR := Lib.hid (hr.next hq0)
          have hcv1 := conv_one wr (48 + (q : Int) % 10) (48 + q % 10) (by omega)
          obtain ⟨t, ht⟩ : ∃ t, t = tx [UInt8.ofNat (48 + q % 10)] := ⟨_, rfl⟩
          rw [← ht] at hcv1
          have hts : t.size = 1 := by rw [ht]; rfl
          have HT : Hid (t ++ tx l = tx (UInt8.ofNat (48 + q % 10) :: l)) := Lib.hid (by rw [ht]; exact tx_cons _ _)
          clear hr ht
          have hm0 : (0 : Int) ≤ (q : Int) % 10 := by omega
          go_wp2
          go_roundw
          case rel => exact ⟨q / 10, _, by omega, HR.out, by first | rfl | (congr 1), by rw [HT.out], hbel.alloc hbel.size _⟩
          case measure => simp [intOf]; omega
        · obtain rfl : q = 0 := by omega
          have HE := Lib.hid hr.end_
          go_wp2
          go_ret
          exact ⟨by rw [hit.out, HE.out]; rfl, hbel⟩
theorem walkFnExactDigits (n : Int) (w : World) (h : (Lit.int .i64 n).wf = true) (hp : Pow w) : Calls Tryd.prog 4 #[.int .i64 n] w fun e w' => e = .returned (.bool true) ∧ Below w.heap.size w w' := by
  obtain ⟨h0, h1⟩ := i64_bd h
  clear h
  go_enter Tryd.func4, Tryd.ntmps4
  go_wp2_with fail
  refine (cP_Digits _ _ h0 h1).mono ?_
  rintro e w1 ⟨rfl, hb1⟩
  go_wp2_with fail
  refine (c_Itoa _ _ h0 h1 (hp.below hb1)).mono ?_
  rintro e w2 ⟨rfl, hb2⟩
  go_wp2
  go_ret
  exact ⟨rfl, hb1.trans (hb2.mono hb1.size)⟩
end Go.Proofs.YtecmeomcgnjapaaDoor
