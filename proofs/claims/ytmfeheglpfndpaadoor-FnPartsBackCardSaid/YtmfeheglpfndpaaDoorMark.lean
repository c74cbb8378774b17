/- Contracts of the marks that the law writes: a number's text. Conditions: bounds. -/
import Derived.Test.YtmfeheglpfndpaaDoorRow
import Derived.Test.YtmfeheglpfndpaaDoorNum
import Derived.Lib.ItoaNum
namespace Go.Proofs.YtmfeheglpfndpaaDoor
open Go.RowKit
set_option linter.unusedVariables false
set_option linter.unusedSimpArgs false
/-- the text of a list of bytes -/
def tx (l : List UInt8) : ByteArray := ⟨l.toArray⟩
theorem u8z : U8s Tryd.prog 22 5 9 :=
  ⟨Tryd.underlying22, Tryd.underlying5, Tryd.underlying9, info_parts (show (Tryd.prog.info? 5).map (fun i => (i.zero, i.size, i.bytes)) = some (some (.int .u8 0), 1, 1) by kernel_rfl)⟩
theorem conv_one (w : World) (v : Int) (n : Nat) (hv : v = (n : Nat)) :
    (convert 22 9 (.slice (some ⟨w.heap.size, 0, none⟩) 1 1)).run Tryd.prog (w.alloc (.cells #[.int .u8 v] 5)) = .ok (.string (tx [UInt8.ofNat n])) (w.alloc (.cells #[.int .u8 v] 5)) := by
  subst hv
  have hr := RowAt.new w #[.int .u8 (n : Nat)] 5 [n] (fun j hj => by
    obtain rfl : j = 0 := by simpa using hj
    rfl) (by simp) (by simp [maxLen])
  have h := run_string_of_row' u8z hr 1 rfl
  exact h
theorem tx_cons (b : UInt8) (l : List UInt8) : tx [b] ++ tx l = tx (b :: l) := by
  apply bl_ext
  rw [bl_append]
  simp [bl, tx]
/-- how far the digits are written: o stands, q is left -/
def DRel (N q : Nat) (o : List UInt8) : Prop := (0 < q ∧ Lib.decDigits N = Lib.decDigits q ++ o) ∨ (q = 0 ∧ Lib.decDigits N = o)
theorem DRel.start {N : Nat} (h : 0 < N) : DRel N N [] := .inl ⟨h, by simp⟩
theorem DRel.next {N q : Nat} {o : List UInt8} (r : DRel N q o) (hq : 0 < q) : DRel N (q / 10) (UInt8.ofNat (48 + q % 10) :: o) := by
  rcases r with ⟨_, h⟩ | ⟨h, _⟩
  · by_cases h10 : q < 10
    · have e : Lib.decDigits q = [UInt8.ofNat (48 + q)] := by rw [Lib.decDigits, dif_pos h10]
      refine .inr ⟨by omega, ?_⟩
      rw [h, e, Nat.mod_eq_of_lt h10]; rfl
    · have e : Lib.decDigits q = Lib.decDigits (q / 10) ++ [UInt8.ofNat (48 + q % 10)] := by rw [Lib.decDigits, dif_neg h10]
      refine .inl ⟨by omega, ?_⟩
      rw [h, e, List.append_assoc]; rfl
  · omega
theorem DRel.end_ {N : Nat} {o : List UInt8} (r : DRel N 0 o) : Lib.decDigits N = o := by
  rcases r with ⟨h, _⟩ | ⟨_, h⟩
  · omega
  · exact h
theorem decDigits_le (n : Nat) : ∀ k : Nat, n < 10 ^ (k + 1) → (Lib.decDigits n).length ≤ k + 1 := by
  intro k
  induction k generalizing n with
  | zero => intro h; rw [Lib.decDigits, dif_pos (by simpa using h)]; simp
  | succ k ih =>
    intro h
    rw [Lib.decDigits]
    split
    · simp
    · rw [List.length_append]
      have := ih (n / 10) (by rw [Nat.pow_succ] at h; omega)
      simp; omega
theorem DRel.size {N q : Nat} {o : List UInt8} (r : DRel N q o) (hN : N < 10 ^ 20) : (tx o).size ≤ 20 := by
  have h := decDigits_le N 19 hN
  have e : (tx o).size = o.length := by show o.toArray.size = _; simp
  rw [e]
  rcases r with ⟨_, hr⟩ | ⟨_, hr⟩
  · rw [hr, List.length_append] at h; omega
  · rw [hr] at h; omega
/-- the k-th mark -/
def mtx (k : Nat) : ByteArray := ⟨#[109]⟩ ++ tx (Lib.decDigits k)
set_option maxRecDepth 20000 in
set_option maxHeartbeats 1000000 in
theorem cL_markText (N : Nat) (hN0 : 0 < N) (hN : N ≤ 9223372036854775807) (w : World) :
    Calls Tryd.prog 16 #[.int .i64 N] w fun e w' => e = .returned (.string (mtx N)) ∧ Below w.heap.size w w' := by
  have hN20 : N < 10 ^ 20 := by omega
  have hpos : ¬ (N : Int) ≤ 0 := by omega
  go_enter Tryd.func16, Tryd.ntmps16
  go_wp2_with fail
  go_loopw [0, 3] (fun a o wr => ∃ (q : Nat) (l : List UInt8), q ≤ N ∧ DRel N q l ∧ a = .int .i64 (q : Int) ∧ o = .string (tx l) ∧ Below w.heap.size w wr) (fun a _ _ => (intOf a).natAbs)
  case atStart => exact ⟨N, [], Nat.le_refl _, DRel.start hN0, rfl, rfl, Below.refl _ _⟩
  case round =>
    obtain ⟨q, l, hq, hr, rfl, rfl, hbel⟩ := hrel
    have hsz := hr.size hN20
    by_cases hq0 : 0 < q
    · have HR := Lib.hid (hr.next hq0)
      have hcv1 := conv_one wr (48 + (q : Int) % 10) (48 + q % 10) (by omega)
      obtain ⟨t, ht⟩ : ∃ t, t = tx [UInt8.ofNat (48 + q % 10)] := ⟨_, rfl⟩
      rw [← ht] at hcv1
      have hts : t.size = 1 := by rw [ht]; rfl
      have HT : Hid (t ++ tx l = tx (UInt8.ofNat (48 + q % 10) :: l)) := Lib.hid (by rw [ht]; exact tx_cons _ _)
      clear hr ht
      have hm0 : (0 : Int) < (q : Int) := by omega
      have HDN : Hid ((q : Int) / 10 = ((q / 10 : Nat) : Int)) := Lib.hid (by omega)
      go_wp2
      go_roundw
      case rel => exact ⟨q / 10, _, by omega, HR.out, by first | rfl | (rw [← HDN.out]), by rw [HT.out], hbel.alloc hbel.size _⟩
      case measure => simp [intOf]; omega
    · obtain rfl : q = 0 := by omega
      have HE := Lib.hid hr.end_
      go_wp2
      go_ret
      exact ⟨by unfold mtx; rw [HE.out]; rfl, hbel⟩
end Go.Proofs.YtmfeheglpfndpaaDoor
