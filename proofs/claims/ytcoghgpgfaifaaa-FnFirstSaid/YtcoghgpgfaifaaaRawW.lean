/- Contracts of the program's FirstViolation. Conditions: the description can be read. -/
import Derived.Test.YtcoghgpgfaifaaaRawV
namespace Go.Proofs.Ytcoghgpgfaifaaa
open Go.RowKit
set_option linter.unusedVariables false
set_option linter.unusedSimpArgs false
set_option maxHeartbeats 2000000 in
theorem cI_FirstViolation (a : Option Addr) (n c : Nat) (ms : List Msg) (w : World) (hn : ms.length = n) (hle : n ≤ 1048576) (hcap : n ≤ c) (hms : ∀ (j : Nat) (m : Msg), ms[j]? = some m → m.fs.length ≤ 1048576) (hf : MAt w 0 a ms) :
    Calls Try.prog 20 #[.agg #[.slice a n c]] w fun e w' => e = .returned (vAgg (firstV ms)) ∧ Below w.heap.size w w' := by
  have hb0 := below2 w (.cells #[.slice a n c] 29) (.cells #[.int .i64 0, .int .i64 0, .int .i64 0] 40)
  have R0 := (Box.new w 29 #[.slice a n c]).alloc (.cells #[.int .i64 0, .int .i64 0, .int .i64 0] 40)
  have V0 := Box.at1 w (.cells #[.slice a n c] 29) 40 #[.int .i64 0, .int .i64 0, .int .i64 0]
  by_cases h6 : 6 < n
  · have h6' : (6 : Int) < (n : Int) := by omega
    have HE : Hid (vAgg (firstV ms) = .agg #[.int .i64 1, .int .i64 6, .int .i64 (-1)]) := Lib.hid (by unfold firstV; rw [if_pos (by omega)]; rfl)
    go_enter Try.func20, Try.ntmps20
    go_wp2
    exact bodyPost_ret (v := .agg #[.int .i64 1, .int .i64 6, .int .i64 (-1)]) (by simp [results, Try.results20, go_sem]) rfl ⟨by rw [HE.out], by repeat (first | exact hb0 | exact below2 _ _ _ | refine Below.setCell ?_ (by simp) _)⟩
  · have h6' : (n : Int) ≤ 6 := by omega
    have hle6 : n ≤ 6 := by omega
    have HMS := Lib.hid hms
    clear hms
    go_enter Try.func20, Try.ntmps20
    go_wp2_with fail
    go_loopw [16] (fun i wr => ∃ k : Nat, k ≤ n ∧ i = .int .i64 k ∧ Box wr w.heap.size 29 #[.slice a n c] ∧ Box wr (w.heap.size + 1) 40 #[.int .i64 0, .int .i64 0, .int .i64 0] ∧ (∀ j, j < k → vAt ms j = none) ∧ Below w.heap.size w wr) (fun i _ => n - (intOf i).toNat)
    case atStart => exact ⟨0, Nat.zero_le _, rfl, R0, V0, fun j hj => absurd hj (Nat.not_lt_zero _), hb0⟩
    case round =>
      obtain ⟨k, hk, rfl, R, V, hall, hbel⟩ := hrel
      have HA := Lib.hid hall
      clear hall
      have r0 := R.cell 0 rfl
      by_cases hlt : k < n
      · have hk0 : (k : Int) < (n : Int) := by omega
        have hx : ms[k]? = some ms[k] := List.getElem?_eq_getElem (by omega)
        generalize ms[k] = m at hx
        have hm := HMS.out k m hx
        have HX := Lib.hid hx
        clear hx
        have hf0 := hf
        obtain ⟨b, off, rfl, _, hb, hc⟩ := hf (by omega)
        obtain ⟨g1, fa, fc, g2, g3, g4⟩ := hc k m HX.out
        have q0 := bkeep (hbel.block b hb) g1
        have q1 := bkeep (hbel.block b hb) g2
        clear hc g4
        have hbx := hbel.alloc hbel.size (.cells #[.int .i64 m.id, .slice fa m.fs.length fc] 45)
        have rl := R.lt
        have vl := V.lt
        have Mb := Box.new wr 45 #[.int .i64 m.id, .slice fa m.fs.length fc]
        have hMC := fun w' (hb' : Below w.heap.size w w') => cI_MsgCode (some ⟨b, off, none⟩) n c ms (k : Int) w' hn hle hcap (hf0.below hb')
        by_cases hmc : msgCode ms (k : Int) = 0
        · rw [hmc] at hMC
          have HM0 := Lib.hid hmc
          clear hmc
          go_wp2_with (go_at_call 15; refine (hMC _ hbx).mono ?_; rintro e w2 ⟨rfl, hb2⟩; have R2 := (R.alloc (.cells #[.int .i64 m.id, .slice fa m.fs.length fc] 45)).all hb2; have V2 := (V.alloc (.cells #[.int .i64 m.id, .slice fa m.fs.length fc] 45)).all hb2; have M2 := Mb.all hb2; have m0 := M2.cell 0 rfl; have m1 := M2.cell 1 rfl; have r2 := R2.cell 0 rfl; have B2 := hbx.trans (hb2.mono hbx.size))
          have hFC := fun (q : Nat) w' (hb' : Below w.heap.size w w') => cI_FieldCode (some ⟨b, off, none⟩) n c ms (k : Int) (q : Int) w' hn hle hcap HMS.out (hf0.below hb')
          go_loopw [32] (fun i wx => ∃ q : Nat, q ≤ m.fs.length ∧ i = .int .i64 q ∧ Box wx w.heap.size 29 #[.slice (some ⟨b, off, none⟩) n c] ∧ Box wx (w.heap.size + 1) 40 #[.int .i64 0, .int .i64 0, .int .i64 0] ∧ (∀ j, j < q → fAt ms k j = none) ∧ Below w.heap.size w wx) (fun i _ => m.fs.length - (intOf i).toNat)
          case atStart => exact ⟨0, Nat.zero_le _, rfl, R2, V2, fun j hj => absurd hj (Nat.not_lt_zero _), B2⟩
          case round =>
            obtain ⟨q, hq, rfl, R3, V3, hfa, B3⟩ := hrel
            have HFA := Lib.hid hfa
            clear hfa r0 r2
            have r3 := R3.cell 0 rfl
            have q1 := bkeep (B3.block b hb) g2
            by_cases hql : q < m.fs.length
            · have hq0 : (q : Int) < (m.fs.length : Int) := by omega
              have hF1 := hFC q
              clear hFC
              by_cases hfc : fieldCode ms (k : Int) (q : Int) = 0
              · rw [hfc] at hF1
                have HFC := Lib.hid hfc
                clear hfc
                go_wp2_with (go_at_call 17; refine (hF1 _ B3).mono ?_; rintro e w4 ⟨rfl, hb4⟩; have R4 := R3.all hb4; have V4 := V3.all hb4; have r4 := R4.cell 0 rfl; have B4 := B3.trans (hb4.mono B3.size))
                go_roundw
                case rel => exact ⟨q + 1, by omega, by go_num, R4, V4, fun j hj => by
                  rcases Nat.lt_or_ge j q with h' | h'
                  · exact HFA.out j h'
                  · obtain rfl : j = q := by omega
                    unfold fAt; rw [if_pos HFC.out], B4⟩
                case measure => simp [intOf]; omega
              · have hv := vAt_fld (ms := ms) (k := k) HM0.out HX.out HFA.out hql hfc
                have HF := Lib.hid (firstV_hit (by omega) HA.out hv (by omega))
                clear hv
                generalize fieldCode ms (k : Int) (q : Int) = code at hF1 hfc HF
                have hc0 : (code == 0) = false := by simpa using hfc
                go_wp2_with (go_at_call 17; refine (hF1 _ B3).mono ?_; rintro e w4 ⟨rfl, hb4⟩; have R4 := R3.all hb4; have V4 := V3.all hb4; have r4 := R4.cell 0 rfl; have v0 := V4.cell 0 rfl; have v1 := V4.cell 1 rfl; have v2 := V4.cell 2 rfl; have f0 := V4.free 0; have f1 := V4.free 1; have f2 := V4.free 2; have B4 := B3.trans (hb4.mono B3.size))
                have Z := ((V4.set_ 0 (.int .i64 code)).set_ 1 (.int .i64 k)).set_ 2 (.int .i64 q)
                have z0 : World.cell? _ ⟨w.heap.size + 1, 0, none⟩ = some (.int .i64 code) := Z.cell 0 rfl
                have z1 : World.cell? _ ⟨w.heap.size + 1, 1, none⟩ = some (.int .i64 k) := Z.cell 1 rfl
                have z2 : World.cell? _ ⟨w.heap.size + 1, 2, none⟩ = some (.int .i64 q) := Z.cell 2 rfl
                exact bodyPost_ret (v := .agg #[.int .i64 code, .int .i64 k, .int .i64 q]) (by simp [results, Try.results20, go_sem, z0, z1, z2]) rfl ⟨by rw [HF.out]; rfl, ((B4.setCell (by simp) _).setCell (by simp) _).setCell (by simp) _⟩
            · have hqe : q = m.fs.length := by omega
              have hq0 : ¬ (q : Int) < (m.fs.length : Int) := by omega
              have HN := Lib.hid (vAt_none (ms := ms) (k := k) HM0.out HX.out (fun j hj => HFA.out j (by omega)))
              clear hqe
              go_wp2
              go_roundw
              case rel => exact ⟨k + 1, by omega, by go_num, R3, V3, fun j hj => by
                rcases Nat.lt_or_ge j k with h' | h'
                · exact HA.out j h'
                · obtain rfl : j = k := by omega
                  exact HN.out, B3⟩
              case measure => simp [intOf]; omega
        · have hv := vAt_msg (ms := ms) (k := k) hmc
          have HF := Lib.hid (firstV_hit (by omega) HA.out hv (by omega))
          generalize msgCode ms (k : Int) = code at hMC hmc HF hv
          have hc0 : (code == 0) = false := by simpa using hmc
          clear hv
          go_wp2_with (go_at_call 15; refine (hMC _ hbx).mono ?_; rintro e w2 ⟨rfl, hb2⟩; have R2 := (R.alloc (.cells #[.int .i64 m.id, .slice fa m.fs.length fc] 45)).all hb2; have V2 := (V.alloc (.cells #[.int .i64 m.id, .slice fa m.fs.length fc] 45)).all hb2; have M2 := Mb.all hb2; have m0 := M2.cell 0 rfl; have m1 := M2.cell 1 rfl; have r2 := R2.cell 0 rfl; have v0 := V2.cell 0 rfl; have v1 := V2.cell 1 rfl; have v2 := V2.cell 2 rfl; have f0 := V2.free 0; have f1 := V2.free 1; have f2 := V2.free 2; have B2 := hbx.trans (hb2.mono hbx.size))
          have Z := ((V2.set_ 0 (.int .i64 code)).set_ 1 (.int .i64 k)).set_ 2 (.int .i64 (-1))
          have z0 : World.cell? _ ⟨w.heap.size + 1, 0, none⟩ = some (.int .i64 code) := Z.cell 0 rfl
          have z1 : World.cell? _ ⟨w.heap.size + 1, 1, none⟩ = some (.int .i64 k) := Z.cell 1 rfl
          have z2 : World.cell? _ ⟨w.heap.size + 1, 2, none⟩ = some (.int .i64 (-1)) := Z.cell 2 rfl
          exact bodyPost_ret (v := .agg #[.int .i64 code, .int .i64 k, .int .i64 (-1)]) (by simp [results, Try.results20, go_sem, z0, z1, z2]) rfl ⟨by rw [HF.out]; rfl, ((B2.setCell (by simp) _).setCell (by simp) _).setCell (by simp) _⟩
      · obtain rfl : n = k := by omega
        have HF := Lib.hid (firstV_miss (ms := ms) (by omega) (fun j hj => HA.out j (by omega)))
        have v0 := V.cell 0 rfl; have v1 := V.cell 1 rfl; have v2 := V.cell 2 rfl; have f0 := V.free 0; have f1 := V.free 1; have f2 := V.free 2
        go_wp2
        have Z := ((V.set_ 0 (.int .i64 0)).set_ 1 (.int .i64 0)).set_ 2 (.int .i64 0)
        have z0 : World.cell? _ ⟨w.heap.size + 1, 0, none⟩ = some (.int .i64 0) := Z.cell 0 rfl
        have z1 : World.cell? _ ⟨w.heap.size + 1, 1, none⟩ = some (.int .i64 0) := Z.cell 1 rfl
        have z2 : World.cell? _ ⟨w.heap.size + 1, 2, none⟩ = some (.int .i64 0) := Z.cell 2 rfl
        exact bodyPost_ret (v := .agg #[.int .i64 0, .int .i64 0, .int .i64 0]) (by simp [results, Try.results20, go_sem, z0, z1, z2]) rfl ⟨by rw [HF.out]; rfl, by repeat (first | exact hbel | refine Below.setCell ?_ (by simp) _)⟩
end Go.Proofs.Ytcoghgpgfaifaaa
