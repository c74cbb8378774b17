/- Contracts of the reference's Long and LongOf, and of the program's LongOf. Conditions: the library's table of powers and its two errors stand in memory. -/
import Derived.Test.YtecmeomcgnjapaaDoorDecC
namespace Go.Proofs.YtecmeomcgnjapaaDoor
open Go.RowKit Go.Sort
set_option linter.unusedVariables false
set_option linter.unusedSimpArgs false
/-- the library's two errors stand in memory -/
def ErrV (w : World) : Prop := (∃ tp p, w.var? Tryd.prog "strconv.ErrSyntax" = some #[.iface tp p]) ∧ (∃ tp p, w.var? Tryd.prog "strconv.ErrRange" = some #[.iface tp p])
theorem var_below {w w' : World} {n : String} {cs : Array Value} (h : w.var? Tryd.prog n = some cs) (hb : Below w.heap.size w w') : w'.var? Tryd.prog n = some cs := by
  unfold World.var? at h ⊢
  obtain ⟨g, hgn⟩ : ∃ g, Tryd.prog.globalNamed n = some g := by
    cases hg : Tryd.prog.globalNamed n with
    | none => rw [hg] at h; cases h
    | some g => exact ⟨g, rfl⟩
  rw [hgn] at h ⊢
  simp only [Option.bind_some] at h ⊢
  have hlt : g < w.heap.size := by
    rcases Nat.lt_or_ge g w.heap.size with h' | h'
    · exact h'
    · rw [Array.getElem?_eq_none h'] at h; cases h
  rw [hb.block g hlt]
  exact h
theorem ErrV.below {w w' : World} (h : ErrV w) (hb : Below w.heap.size w w') : ErrV w' := by
  obtain ⟨⟨t, p, h1⟩, t', p', h2⟩ := h
  exact ⟨⟨t, p, var_below h1 hb⟩, t', p', var_below h2 hb⟩
theorem bytes_below (w : World) (s : ByteArray) : Below w.heap.size w (Lib.bytesWorld w 5 s) := Lib.bytesWorld_below w _ s
/-- how far the digits are written -/
def LRel (N q : Nat) (o : List UInt8) : Prop := Lib.decDigits N = Lib.decDigits q ++ o
theorem LRel.next {N q : Nat} {o : List UInt8} (r : LRel N q o) (h : 9 < q) : LRel N (q / 10) (UInt8.ofNat (48 + q % 10) :: o) := by
  unfold LRel at r ⊢
  have e : Lib.decDigits q = Lib.decDigits (q / 10) ++ [UInt8.ofNat (48 + q % 10)] := by rw [Lib.decDigits, dif_neg (by omega)]
  rw [r, e, List.append_assoc]; rfl
theorem LRel.end_ {N q : Nat} {o : List UInt8} (r : LRel N q o) (h : ¬ 9 < q) : Lib.decDigits N = UInt8.ofNat (48 + q) :: o := by
  unfold LRel at r
  have e : Lib.decDigits q = [UInt8.ofNat (48 + q)] := by rw [Lib.decDigits, dif_pos (by omega)]
  rw [r, e]; rfl
theorem LRel.size {N q : Nat} {o : List UInt8} (r : LRel N q o) (hN : N < 10 ^ 20) : (tx o).size ≤ 20 := by
  have h := decDigits_le N 19 hN
  unfold LRel at r
  rw [tx_size]
  rw [r, List.length_append] at h; omega
set_option maxRecDepth 20000 in
set_option maxHeartbeats 1000000 in
theorem cP_Long (N : Nat) (hN : N < 18446744073709551616) (w : World) :
    Calls Tryd.prog 10 #[.int .u64 N] w fun e w' => e = .returned (.string (tx (Lib.decDigits N))) ∧ Below w.heap.size w w' := by
  have hN20 : N < 10 ^ 20 := by omega
  go_enter Tryd.func10, Tryd.ntmps10
  go_wp2_with fail
  go_loopw [0, 3] (fun a o wr => ∃ (q : Nat) (l : List UInt8), q ≤ N ∧ LRel N q l ∧ a = .int .u64 (q : Int) ∧ o = .string (tx l) ∧ Below w.heap.size w wr) (fun a _ _ => (intOf a).natAbs)
  case atStart => exact ⟨N, [], Nat.le_refl _, by unfold LRel; simp, rfl, rfl, Below.refl _ _⟩
  case round =>
    obtain ⟨q, l, hq, hr, rfl, rfl, hbel⟩ := hrel
    have hsz := hr.size hN20
    have hdv : IntKind.u64.wrap ((q : Int) / 10) = (q : Int) / 10 := by rw [IntKind.wrap_u64]; omega
    have hdn : (q : Int) / 10 = ((q / 10 : Nat) : Int) := by omega
    have HDN := Lib.hid hdn
    clear hN hN20 hdn
    by_cases hq9 : 9 < q
    · have HR := Lib.hid (hr.next hq9)
      have hcv1 := conv_one wr (48 + (q : Int) % 10) (48 + q % 10) (by omega)
      obtain ⟨t, ht⟩ : ∃ t, t = tx [UInt8.ofNat (48 + q % 10)] := ⟨_, rfl⟩
      rw [← ht] at hcv1
      have hts : t.size = 1 := by rw [ht]; rfl
      have HT : Hid (t ++ tx l = tx (UInt8.ofNat (48 + q % 10) :: l)) := Lib.hid (by rw [ht]; exact tx_cons _ _)
      clear hr ht
      have hm0 : (9 : Int) < (q : Int) := by omega
      go_wp2
      go_roundw
      case rel => exact ⟨q / 10, _, by omega, HR.out, by rw [← HDN.out], by rw [HT.out], hbel.alloc hbel.size _⟩
      case measure => simp [intOf]; omega
    · have HE := Lib.hid (hr.end_ hq9)
      have hm0 : (q : Int) ≤ 9 := by omega
      have hcv1 := conv_one wr (48 + (q : Int)) (48 + q) (by omega)
      obtain ⟨t, ht⟩ : ∃ t, t = tx [UInt8.ofNat (48 + q)] := ⟨_, rfl⟩
      rw [← ht] at hcv1
      have hts : t.size = 1 := by rw [ht]; rfl
      have HT : Hid (t ++ tx l = tx (UInt8.ofNat (48 + q) :: l)) := Lib.hid (by rw [ht]; exact tx_cons _ _)
      clear hr ht
      go_wp2
      go_ret
      exact ⟨by rw [HE.out, HT.out]; rfl, hbel.alloc hbel.size _⟩
theorem beq_no {a b : ByteArray} (h : a.data.toList ≠ b.data.toList) : (a.toList == b.toList) = false := by
  rw [ByteArray.toList_eq, ByteArray.toList_eq]; simpa using h
/-- what LongOf hands back -/
def longV (o : Option Nat) : Value := .tuple #[.int .u64 ((o.getD 0 : Nat) : Int), .bool o.isSome]
theorem drop_cons (s : ByteArray) (k : Nat) (h : k < s.size) : s.data.toList.drop k = s[k] :: s.data.toList.drop (k + 1) := by
  have h' : k < s.data.toList.length := by rw [Array.length_toList]; exact h
  rw [List.drop_eq_getElem_cons h']; rfl
set_option maxRecDepth 20000 in
set_option maxHeartbeats 1000000 in
theorem cP_LongOf (s : ByteArray) (w : World) (hsz : s.size ≤ 1048576) :
    Calls Tryd.prog 14 #[.string s] w fun e w' => e = .returned (longV (longOf s.data.toList)) ∧ Below w.heap.size w w' := by
  have hlen : s.data.toList.length = s.size := by rw [Array.length_toList]; rfl
  rcases (show s.size < 1 ∨ 20 < s.size ∨ (1 ≤ s.size ∧ s.size ≤ 20) by omega) with h | h | ⟨h, h'⟩
  · have HE := Lib.hid (longOf_long (l := s.data.toList) (by omega))
    have h2 : (s.size : Int) < 1 := by omega
    go_enter Tryd.func14, Tryd.ntmps14
    go_wp2
    go_ret2
    exact ⟨by rw [HE.out]; rfl, Below.refl _ _⟩
  · have HE := Lib.hid (longOf_long (l := s.data.toList) (by omega))
    have h2 : (20 : Int) < (s.size : Int) := by omega
    have h3 : ¬ (s.size : Int) < 1 := by omega
    go_enter Tryd.func14, Tryd.ntmps14
    go_wp2
    go_ret2
    exact ⟨by rw [HE.out]; rfl, Below.refl _ _⟩
  · have hne : s.data.toList ≠ [] := by intro e; rw [e] at hlen; simp at hlen; omega
    have HN := Lib.hid hne
    have HL := Lib.hid hlen
    clear hne hlen
    have h2 : ¬ (20 : Int) < (s.size : Int) := by omega
    have h3 : ¬ (s.size : Int) < 1 := by omega
    go_enter Tryd.func14, Tryd.ntmps14
    go_wp2_with fail
    go_loop [4, 5] (fun a c => ∃ (k acc : Nat), k ≤ s.size ∧ acc ≤ 18446744073709551615 ∧ a = .int .u64 acc ∧ c = .int .i64 k ∧ lfold 0 s.data.toList = lfold acc (s.data.toList.drop k)) (fun _ c => s.size - (intOf c).toNat)
    case atStart => exact ⟨0, 0, Nat.zero_le _, by omega, rfl, rfl, rfl⟩
    case round =>
      obtain ⟨k, acc, hk, hacc, rfl, rfl, hf⟩ := hrel
      by_cases hlt : k < s.size
      · have hd := drop_cons s k hlt
        rw [hd, lfold] at hf
        have HF := Lib.hid hf
        clear hf hd
        have hx : (s[k]).toNat < 256 := (s[k]).toNat_lt
        rcases (show (s[k]).toNat < 48 ∨ 57 < (s[k]).toNat ∨ (48 ≤ (s[k]).toNat ∧ (s[k]).toNat ≤ 57) by omega) with hc | hc | ⟨hc, hc'⟩
        · have hf := HF.out
          rw [if_neg (by omega)] at hf
          have HE := Lib.hid (longOf_fold_none HN.out hf)
          clear hf
          have hx0 : ((s[k]).toNat : Int) < 48 := by omega
          go_wp2
          go_ret2
          exact ⟨by rw [HE.out]; rfl, Below.refl _ _⟩
        · have hf := HF.out
          rw [if_neg (by omega)] at hf
          have HE := Lib.hid (longOf_fold_none HN.out hf)
          clear hf
          have hx0 : 57 < ((s[k]).toNat : Int) := by omega
          have hx1 : 48 ≤ ((s[k]).toNat : Int) := by omega
          go_wp2
          go_ret2
          exact ⟨by rw [HE.out]; rfl, Below.refl _ _⟩
        · have hx1 : 48 ≤ ((s[k]).toNat : Int) := by omega
          have hx2 : ((s[k]).toNat : Int) ≤ 57 := by omega
          have hf := HF.out
          rw [if_pos ⟨hc, hc'⟩] at hf
          by_cases hov : (18446744073709551615 - ((s[k]).toNat - 48)) / 10 < acc
          · rw [if_pos hov] at hf
            have HE := Lib.hid (longOf_fold_none HN.out hf)
            clear hf
            have hov' : (18446744073709551615 - (((s[k]).toNat : Int) - 48)) / 10 < (acc : Int) := by omega
            clear hov
            go_wp2
            go_ret2
            exact ⟨by rw [HE.out]; rfl, Below.refl _ _⟩
          · rw [if_neg hov] at hf
            have HE := Lib.hid hf
            clear hf
            have hov' : (acc : Int) ≤ (18446744073709551615 - (((s[k]).toNat : Int) - 48)) / 10 := by omega
            have hwr : IntKind.u64.wrap (IntKind.u64.wrap (10 * (acc : Int)) + (((s[k]).toNat : Int) - 48)) = 10 * (acc : Int) + (((s[k]).toNat : Int) - 48) := by simp only [IntKind.wrap_u64]; omega
            have hcast : 10 * (acc : Int) + (((s[k]).toNat : Int) - 48) = ((10 * acc + ((s[k]).toNat - 48) : Nat) : Int) := by omega
            have hle : 10 * acc + ((s[k]).toNat - 48) ≤ 18446744073709551615 := by omega
            clear hov
            go_wp2
            go_round
            case rel => exact ⟨k + 1, _, by omega, hle, by congr 1, by go_num, HE.out⟩
            case measure => simp [intOf]; omega
      · obtain rfl : k = s.size := by omega
        rw [List.drop_of_length_le (by rw [HL.out]; exact Nat.le_refl _), lfold] at hf
        have hp := longOf_fold HN.out hf
        clear hf
        by_cases he : Lib.decDigits acc = s.data.toList
        · have HE := Lib.hid (longOf_ok hp he)
          have HS : Hid (tx (Lib.decDigits acc) = s) := Lib.hid (by rw [he, tx_data])
          have hcon := fun w => cP_Long acc (by omega) w
          rw [HS.out] at hcon
          go_wp2_with (go_at_call 10; refine (hcon _).mono ?_; rintro e w' ⟨rfl, hb⟩)
          go_ret2
          exact ⟨by rw [HE.out]; rfl, hb⟩
        · have HE := Lib.hid (longOf_ne hp he)
          have hcon := fun w => cP_Long acc (by omega) w
          have hne := beq_no (a := tx (Lib.decDigits acc)) (b := s) (by simpa [tx] using he)
          generalize tx (Lib.decDigits acc) = tt at hcon hne
          go_wp2_with (go_at_call 10; refine (hcon _).mono ?_; rintro e w' ⟨rfl, hb⟩)
          go_ret2
          exact ⟨by rw [HE.out]; rfl, hb⟩
set_option maxRecDepth 20000 in
theorem cI_LongOf (s : ByteArray) (w : World) (hsz : s.size ≤ 1048576) (hp : Pow w) (hv : ErrV w) :
    Calls Tryd.prog 15 #[.string s] w fun e w' => e = .returned (longV (longOf s.data.toList)) ∧ Below w.heap.size w w' := by
  obtain ⟨⟨t1, p1, hv1⟩, t2, p2, hv2⟩ := hv
  cases h : Lib.parseUintB 64 s.data.toList with
  | «syntax» =>
    have HE := Lib.hid (longOf_syntax h)
    go_enter Tryd.func15, Tryd.ntmps15
    go_wp2_with (go_at_call 28; refine (Tryd.strconv_ParseUint_10_at64_syntax_var s (by omega) h t1 p1 _ hv1).mono ?_; rintro e w' ⟨N, rfl, _, _, hb⟩)
    go_ret2
    exact ⟨by rw [HE.out]; rfl, hb⟩
  | range =>
    have HE := Lib.hid (longOf_range h)
    go_enter Tryd.func15, Tryd.ntmps15
    go_wp2_with (go_at_call 28; refine (Tryd.strconv_ParseUint_10_at64_range_var s (by omega) h t2 p2 _ hv2).mono ?_; rintro e w' ⟨N, rfl, _, _, hb⟩)
    go_ret2
    exact ⟨by rw [HE.out]; rfl, hb⟩
  | ok u =>
    have hle := Lib.parseUintB_le h
    have hu : u < 18446744073709551616 := by
      have e : (2 : Nat) ^ 64 - 1 = 18446744073709551615 := by decide
      omega
    clear hle
    have hcon := fun (w w' : World) (h : Pow w) (hb : Below w.heap.size w w') => cI_Long u hu w' (h.below hb)
    have hpb : ∀ w w' : World, (w' = w ∨ w' = Lib.bytesWorld w 5 s) → Below w.heap.size w w' := by
      rintro w w' (rfl | rfl)
      · exact Below.refl _ _
      · exact bytes_below _ _
    by_cases he : Lib.decDigits u = s.data.toList
    · have HE := Lib.hid (longOf_ok h he)
      have HS : Hid (tx (Lib.decDigits u) = s) := Lib.hid (by rw [he, tx_data])
      rw [HS.out] at hcon
      go_enter Tryd.func15, Tryd.ntmps15
      go_wp2_with (first
        | (go_at_call 28; refine (Tryd.strconv_ParseUint_10_at64_ok s (by omega) u h _).mono ?_; rintro e w1 ⟨rfl, hw1⟩; have hb1 := hpb _ _ hw1; clear hw1)
        | (go_at_call 11; refine (hcon _ _ hp hb1).mono ?_; rintro e w2 ⟨rfl, hb2⟩))
      go_ret2
      exact ⟨by rw [HE.out]; rfl, hb1.trans (hb2.mono hb1.size)⟩
    · have HE := Lib.hid (longOf_ne h he)
      have hne := beq_no (a := tx (Lib.decDigits u)) (b := s) (by simpa [tx] using he)
      generalize tx (Lib.decDigits u) = tt at hcon hne
      go_enter Tryd.func15, Tryd.ntmps15
      go_wp2_with (first
        | (go_at_call 28; refine (Tryd.strconv_ParseUint_10_at64_ok s (by omega) u h _).mono ?_; rintro e w1 ⟨rfl, hw1⟩; have hb1 := hpb _ _ hw1; clear hw1)
        | (go_at_call 11; refine (hcon _ _ hp hb1).mono ?_; rintro e w2 ⟨rfl, hb2⟩))
      go_ret2
      exact ⟨by rw [HE.out]; rfl, hb1.trans (hb2.mono hb1.size)⟩
end Go.Proofs.YtecmeomcgnjapaaDoor
