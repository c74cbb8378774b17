/- Contract of the reference's SameRaw. Conditions: the descriptions can be read. -/
import Derived.Test.YtcoghgpgfaifaaaRawS
namespace Go.Proofs.Ytcoghgpgfaifaaa
open Go.RowKit
set_option linter.unusedVariables false
set_option linter.unusedSimpArgs false
theorem msg_ne_id {m m' : Msg} (h : ¬ m.id = m'.id) : m ≠ m' := fun e => h (by rw [e])
theorem msg_ne_len {m m' : Msg} (h : ¬ m.fs.length = m'.fs.length) : m ≠ m' := fun e => h (by rw [e])
theorem msg_ne_fs {m m' : Msg} (h : m.fs ≠ m'.fs) : m ≠ m' := fun e => h (by rw [e])
theorem msg_eq {m m' : Msg} (h : m.id = m'.id) (h2 : m.fs = m'.fs) : m = m' := by cases m; cases m'; simp only at h h2; rw [h, h2]
set_option maxHeartbeats 2000000 in
theorem cP_SameRaw (a1 a2 : Option Addr) (n1 n2 c1 c2 : Nat) (ms ns : List Msg) (w : World) (hn1 : ms.length = n1) (hn2 : ns.length = n2) (hle : n1 ≤ 1048576) (hms : ∀ (j : Nat) (m : Msg), ms[j]? = some m → m.fs.length ≤ 1048576) (h1 : MAt w 0 a1 ms) (h2 : MAt w 0 a2 ns) :
    Calls Try.prog 10 #[.agg #[.slice a1 n1 c1], .agg #[.slice a2 n2 c2]] w fun e w' => e = .returned (.bool (decide (ms = ns))) ∧ Below w.heap.size w w' := by
  have hb0 := below2 w (.cells #[.slice a1 n1 c1] 29) (.cells #[.slice a2 n2 c2] 29)
  have R0 := (Box.new w 29 #[.slice a1 n1 c1]).alloc (.cells #[.slice a2 n2 c2] 29)
  have S0 := Box.at1 w (.cells #[.slice a1 n1 c1] 29) 29 #[.slice a2 n2 c2]
  have q0 := R0.cell 0 rfl; have p0 := S0.cell 0 rfl
  by_cases hlen : n1 = n2
  · subst hlen
    have HMS := Lib.hid hms
    clear hms
    go_enter Try.func10, Try.ntmps10
    go_wp2_with fail
    go_loopw [5] (fun i wr => ∃ (k : Nat), k ≤ n1 ∧ i = .int .i64 k ∧ (∀ j, j < k → ms[j]? = ns[j]?) ∧ Box wr w.heap.size 29 #[.slice a1 n1 c1] ∧ Box wr (w.heap.size + 1) 29 #[.slice a2 n1 c2] ∧ Below w.heap.size w wr) (fun i _ => n1 - (intOf i).toNat)
    case atStart => exact ⟨0, Nat.zero_le _, rfl, fun j hj => absurd hj (Nat.not_lt_zero _), R0, S0, hb0⟩
    case round =>
      obtain ⟨k, hk, rfl, hall, R, S, hbel⟩ := hrel
      have HA := Lib.hid hall
      clear hall q0 p0
      have r0 := R.cell 0 rfl; have s0 := S.cell 0 rfl
      have rl := R.lt; have sl := S.lt
      by_cases hlt : k < n1
      · obtain ⟨b1, o1, rfl, _, hb1, hc1⟩ := h1 (by omega)
        obtain ⟨b2, o2, rfl, _, hb2, hc2⟩ := h2 (by omega)
        have hx : ms[k]? = some ms[k] := List.getElem?_eq_getElem (by omega)
        have hy : ns[k]? = some ns[k] := List.getElem?_eq_getElem (by omega)
        generalize ms[k] = x at hx
        generalize ns[k] = y at hy
        obtain ⟨g1, fa, fc, g2, _, g4⟩ := hc1 k x hx
        obtain ⟨k1, ga, gc, k2, _, k4⟩ := hc2 k y hy
        have q0 := bkeep (hbel.block b1 hb1) g1
        have q1 := bkeep (hbel.block b1 hb1) g2
        have p0 := bkeep (hbel.block b2 hb2) k1
        have p1 := bkeep (hbel.block b2 hb2) k2
        have l1 : b1 < wr.heap.size := Nat.lt_of_lt_of_le hb1 hbel.size
        have l2 : b2 < wr.heap.size := Nat.lt_of_lt_of_le hb2 hbel.size
        have hm := HMS.out k x hx
        have hk0 : (k : Int) < (n1 : Int) := by omega
        have hk1 : (0 : Int) ≤ (k : Int) := by omega
        have HX := Lib.hid hx
        have HY := Lib.hid hy
        have hx2 := hbel.trans ((below2 wr (.cells #[.int .i64 x.id, .slice fa x.fs.length fc] 45) (.cells #[.int .i64 y.id, .slice ga y.fs.length gc] 45)).mono hbel.size)
        have X0 := (Box.new wr 45 #[.int .i64 x.id, .slice fa x.fs.length fc]).alloc (.cells #[.int .i64 y.id, .slice ga y.fs.length gc] 45)
        have Y0 := Box.at1 wr (.cells #[.int .i64 x.id, .slice fa x.fs.length fc] 45) 45 #[.int .i64 y.id, .slice ga y.fs.length gc]
        have RX := (R.alloc (.cells #[.int .i64 x.id, .slice fa x.fs.length fc] 45)).alloc (.cells #[.int .i64 y.id, .slice ga y.fs.length gc] 45)
        have SX := (S.alloc (.cells #[.int .i64 x.id, .slice fa x.fs.length fc] 45)).alloc (.cells #[.int .i64 y.id, .slice ga y.fs.length gc] 45)
        clear hc1 hc2 h1 h2 hx hy g1 g2 k1 k2
        by_cases hid : x.id = y.id
        · have hid' : (x.id == y.id) = true := by simpa using hid
          have hid2 : (x.id != y.id) = false := by rw [bne, hid']; rfl
          have HID := Lib.hid hid
          clear hid
          by_cases hl : x.fs.length = y.fs.length
          · have hl' : ((x.fs.length : Int) == (y.fs.length : Int)) = true := by simp [hl]
            have hl2 : ((x.fs.length : Int) != (y.fs.length : Int)) = false := by rw [bne, hl']; rfl
            have HL := Lib.hid hl
            clear hl
            go_wp2_with fail
            go_loopw [8] (fun i wx => ∃ (q : Nat), q ≤ x.fs.length ∧ i = .int .i64 q ∧ (∀ j, j < q → x.fs[j]? = y.fs[j]?) ∧ Box wx wr.heap.size 45 #[.int .i64 x.id, .slice fa x.fs.length fc] ∧ Box wx (wr.heap.size + 1) 45 #[.int .i64 y.id, .slice ga y.fs.length gc] ∧ Box wx w.heap.size 29 #[.slice (some ⟨b1, o1, none⟩) n1 c1] ∧ Box wx (w.heap.size + 1) 29 #[.slice (some ⟨b2, o2, none⟩) n1 c2] ∧ Below w.heap.size w wx) (fun i _ => x.fs.length - (intOf i).toNat)
            case atStart => exact ⟨0, Nat.zero_le _, rfl, fun j hj => absurd hj (Nat.not_lt_zero _), X0, Y0, RX, SX, hx2⟩
            case round =>
              obtain ⟨q, hq, rfl, hfa, X, Y, R3, S3, B3⟩ := hrel
              have HFA := Lib.hid hfa
              clear hfa
              have x1 := X.cell 1 rfl; have y1 := Y.cell 1 rfl; have r3 := R3.cell 0 rfl; have s3 := S3.cell 0 rfl
              by_cases hql : q < x.fs.length
              · have hL := HL.out
                obtain ⟨d1, e1, rfl, _, hd1, hu1⟩ := g4 (by omega)
                obtain ⟨d2, e2, rfl, _, hd2, hu2⟩ := k4 (by omega)
                have hf1 : x.fs[q]? = some x.fs[q] := List.getElem?_eq_getElem (by omega)
                have hf2 : y.fs[q]? = some y.fs[q] := List.getElem?_eq_getElem (by omega)
                generalize x.fs[q] = f at hf1
                generalize y.fs[q] = g at hf2
                obtain ⟨t0, t1, t2, t3, t4⟩ := (F5.of hu1 hf1).below B3 hd1
                obtain ⟨v0, v1, v2, v3, v4⟩ := (F5.of hu2 hf2).below B3 hd2
                have hq0 : (q : Int) < (x.fs.length : Int) := by omega
                have hq2 : (q : Int) < (y.fs.length : Int) := by omega
                have hq1 : (0 : Int) ≤ (q : Int) := by omega
                have hg := fun a b w => grdF a b #[.int .i64 f.n, .int .i64 f.k, .bool f.r, .bool f.p, .int .i64 f.f] #[.int .i64 g.n, .int .i64 g.k, .bool g.r, .bool g.p, .int .i64 g.f] w
                have hqf := fun w => neqF f g w
                have HF1 := Lib.hid hf1
                have HF2 := Lib.hid hf2
                clear hf1 hf2 hu1 hu2 g4 k4 hL
                by_cases he : f = g
                · subst he
                  rw [fEq_self] at hqf
                  go_wp2_with fail
                  go_quiet (fail)
                  go_wp2
                  go_roundw
                  case rel => exact ⟨q + 1, by omega, by go_num, fun j hj => by
                    rcases Nat.lt_or_ge j q with h' | h'
                    · exact HFA.out j h'
                    · obtain rfl : j = q := by omega
                      rw [HF1.out, HF2.out], X.drewN _, Y.drewN _, R3.drewN _, S3.drewN _, B3.trans ((bdrewN _ _).mono B3.size)⟩
                  case measure => simp [intOf]; omega
                · rw [fEq_ne he] at hqf
                  have HN : Hid (decide (ms = ns) = false) := Lib.hid (by simpa using list_ne HX.out HY.out (msg_ne_fs (list_ne HF1.out HF2.out he)))
                  clear he
                  go_wp2_with fail
                  go_quiet (fail)
                  go_wp2
                  go_ret
                  exact ⟨by rw [HN.out]; rfl, B3.trans ((bdrewN _ _).mono B3.size)⟩
              · have hq0 : ¬ (q : Int) < (x.fs.length : Int) := by omega
                have HE : Hid (x = y) := Lib.hid (msg_eq HID.out (list_eq (n := x.fs.length) rfl (by have := HL.out; omega) (fun j hj => HFA.out j (by omega))))
                go_wp2
                go_roundw
                case rel => exact ⟨k + 1, by omega, by go_num, fun j hj => by
                  rcases Nat.lt_or_ge j k with h' | h'
                  · exact HA.out j h'
                  · obtain rfl : j = k := by omega
                    rw [HX.out, HY.out, HE.out], R3, S3, B3⟩
                case measure => simp [intOf]; omega
          · have HN : Hid (decide (ms = ns) = false) := Lib.hid (by simpa using list_ne HX.out HY.out (msg_ne_len hl))
            have hl' : ((x.fs.length : Int) == (y.fs.length : Int)) = false := by simp; omega
            have hl2 : ((x.fs.length : Int) != (y.fs.length : Int)) = true := by rw [bne, hl']; rfl
            clear hl
            go_wp2
            go_ret
            exact ⟨by rw [HN.out]; rfl, hx2⟩
        · have HN : Hid (decide (ms = ns) = false) := Lib.hid (by simpa using list_ne HX.out HY.out (msg_ne_id hid))
          have hid' : (x.id == y.id) = false := by simpa using hid
          have hid2 : (x.id != y.id) = true := by rw [bne, hid']; rfl
          clear hid
          go_wp2
          go_ret
          exact ⟨by rw [HN.out]; rfl, hx2⟩
      · obtain rfl : n1 = k := by omega
        have HN : Hid (decide (ms = ns) = true) := Lib.hid (by simpa using list_eq hn1 hn2 HA.out)
        go_wp2
        go_ret
        exact ⟨by rw [HN.out]; rfl, hbel⟩
  · have hi : ((n1 : Int) == (n2 : Int)) = false := by simp; omega
    have hi2 : ¬ (n1 : Int) = (n2 : Int) := by omega
    have HN : Hid (decide (ms = ns) = false) := Lib.hid (by simp only [decide_eq_false_iff_not]; intro e; rw [e] at hn1; omega)
    go_enter Try.func10, Try.ntmps10
    go_wp2
    go_ret
    exact ⟨by rw [HN.out]; rfl, hb0⟩
end Go.Proofs.Ytcoghgpgfaifaaa
