/- Contracts of both Parts and of the law's helpers over rows of strings. Conditions: a bound on the string; the variable MaxLen of the library holds some number. -/
import Derived.Test.YtmfeheglpfndpaaDoorSpl
import Derived.Test.YtmfeheglpfndpaaDoorMark
import Derived.Test.YtmfeheglpfndpaaDoorShelf
import Derived.Deep.AppendLies
import Derived.Deep.RegionHeld3
namespace Go.Proofs.YtmfeheglpfndpaaDoor
open Go.RowKit
set_option linter.unusedVariables false
set_option linter.unusedSimpArgs false
theorem bkeep {w w' : World} {b o : Nat} (hb : w'.heap[b]? = w.heap[b]?) {v : Option Value} (h : w.cell? ⟨b, o, none⟩ = v) : w'.cell? ⟨b, o, none⟩ = v := (World.cell?_of_block (a := ⟨b, o, none⟩) hb).trans h
/-- strings can be read in block g -/
def SAt (w : World) (g : Nat) (l : List ByteArray) : Prop := g < w.heap.size ∧ ∀ j x, l[j]? = some x → w.cell? ⟨g, j, none⟩ = some (.string x)
theorem SAt.keep {w w' : World} {g : Nat} {l : List ByteArray} (h : SAt w g l) (hb : w'.heap[g]? = w.heap[g]?) (hz : w.heap.size ≤ w'.heap.size) : SAt w' g l :=
  ⟨Nat.lt_of_lt_of_le h.1 hz, fun j x hx => bkeep hb (h.2 j x hx)⟩
theorem SAt.below {w w' : World} {g : Nat} {l : List ByteArray} (h : SAt w g l) (hb : Below w.heap.size w w') : SAt w' g l := h.keep (hb.block g h.1) hb.size
theorem bgrown {B : Nat} {w wr w2 : World} {row : Option Nat} (h : Below B w wr) (hg : wr.grownBy w2 row) (hr : ∀ k, row = some k → B ≤ k) (hB : B ≤ wr.heap.size) : Below B w w2 :=
  ⟨hg.os.trans h.os, hg.tape.trans h.tape, hg.output.trans h.output, Nat.le_trans h.size hg.size, fun k hk => (hg.block k (by omega) (fun e => by have := hr k e.symm; omega)).trans (h.block k hk)⟩
theorem infoS : (Tryd.prog.info? 9).map (fun i => (i.zero, i.size, i.bytes)) = some (some (.string ByteArray.empty), 1, 16) := by kernel_rfl
theorem byte_yes {s : ByteArray} {i b : Nat} (hi : i < s.size) (hb : b < 256) (h : (s[i]).toNat = b) : s.data.toList[i]? = some (UInt8.ofNat b) := by
  have hi' : i < s.data.toList.length := by rw [Array.length_toList]; exact hi
  rw [List.getElem?_eq_getElem hi']
  congr 1
  apply UInt8.toNat_inj.1
  rw [UInt8.toNat_ofNat', Nat.mod_eq_of_lt hb]
  exact h
theorem byte_no {s : ByteArray} {i b : Nat} (hi : i < s.size) (hb : b < 256) (h : ¬ (s[i]).toNat = b) : s.data.toList[i]? ≠ some (UInt8.ofNat b) := by
  have hi' : i < s.data.toList.length := by rw [Array.length_toList]; exact hi
  rw [List.getElem?_eq_getElem hi']
  intro e
  have e := Option.some.inj e
  have := congrArg UInt8.toNat e
  rw [UInt8.toNat_ofNat', Nat.mod_eq_of_lt hb] at this
  exact h this
/-- a row of strings that can be read -/
def PartsPost (w : World) (l : List ByteArray) (e : Ending) (w' : World) : Prop := ∃ g cap, e = .returned (.slice (some ⟨g, 0, none⟩) l.length cap) ∧ SAt w' g l ∧ w.heap.size ≤ g ∧ Below w.heap.size w w'
set_option maxRecDepth 20000 in
set_option maxHeartbeats 2000000 in
theorem cP_Parts (s : ByteArray) (b : Nat) (hb : b < 256) (hs : s.size ≤ 1048576) (w : World) :
    Calls Tryd.prog 8 #[.string s, .int .u8 b] w (PartsPost w (sp (UInt8.ofNat b) s)) := by
  obtain ⟨ti, hi0, hz0, hz1, hz2⟩ := info_parts infoS
  go_enter Tryd.func8, Tryd.ntmps8
  go_wp2_with fail
  go_loopw [5, 6, 7] (fun o f i wr => ∃ (I F : Nat) (L : List ByteArray), I ≤ s.size + 1 ∧ f = .int .i64 F ∧ i = .int .i64 I ∧ Spl (UInt8.ofNat b) s F I L ∧ wr.ownsRow w.heap.size 9 1 o L.length (L.map Value.string) ∧ Below w.heap.size w wr) (fun _ _ i _ => s.size + 1 - (intOf i).toNat)
  case atStart => exact ⟨0, 0, [], Nat.zero_le _, rfl, rfl, Spl.start _ _, World.ownsRow_lit w #[] 0 (Nat.le_refl _) (Nat.zero_le _) rfl, (Below.refl _ _).alloc (Nat.le_refl _) _⟩
  case round =>
    obtain ⟨I, F, L, hI, rfl, rfl, hS, hown, hbel⟩ := hrel
    by_cases hle : I ≤ s.size
    · obtain ⟨hL, hF⟩ := hS.len hle
      have hI0 : (I : Int) ≤ (s.size : Int) := by omega
      have hF0 : (F : Int) ≤ (I : Int) := by omega
      have hF1 : (0 : Int) ≤ (F : Int) := by omega
      by_cases heq : I = s.size
      · subst heq
        have HS := Lib.hid hS.last
        clear hS
        have ht : ((s.size : Int) == (s.size : Int)) = true := by simp
        go_wp2_with (first | (at_builtin; refine wpList_append_lies _ rfl _ _ 26 rfl w.heap.size 9 ti _ 1 16 Tryd.underlying26 hi0 hz0 hz1 hz2 rfl (by decide) _ L.length (L.map Value.string) rfl (hown.alloc _) ⟨wr.heap.size, 0, none⟩ 1 1 [.string (s.extract F s.size)] rfl rfl (World.news_of_block (heap_alloc_new wr _)) (by intro u hu; simp at hu; subst hu; rfl) (by omega) (by unfold maxLen; omega) (by omega) (by simp; have := hbel.size; omega) (wr.heap.size + 1) (by simp) ?_; intro g' cap' w2 hown2 hgr2 hor hlt2))
        go_roundw
        case rel => exact ⟨s.size + 1, s.size + 1, _, by omega, by go_num, by go_num, HS.out, by simpa using hown2, bgrown (hbel.alloc hbel.size _) hgr2 (fun k hk => (hown.lt k hk).1) (by simp; have := hbel.size; omega)⟩
        case measure => simp [intOf]
      · have hlt : I < s.size := by omega
        have hlt0 : (I : Int) < (s.size : Int) := by omega
        have hne : ((I : Int) == (s.size : Int)) = false := by simp; omega
        have hne2 : ¬ (I : Int) = (s.size : Int) := by omega
        by_cases hby : (s[I]).toNat = b
        · have HS := Lib.hid (hS.hit hlt (byte_yes hlt hb hby))
          have hbb : (((s[I]).toNat : Int) == (b : Int)) = true := by simp; omega
          clear hS hby heq hle
          go_wp2_with (first | (at_builtin; refine wpList_append_lies _ rfl _ _ 26 rfl w.heap.size 9 ti _ 1 16 Tryd.underlying26 hi0 hz0 hz1 hz2 rfl (by decide) _ L.length (L.map Value.string) rfl (hown.alloc _) ⟨wr.heap.size, 0, none⟩ 1 1 [.string (s.extract F I)] rfl rfl (World.news_of_block (heap_alloc_new wr _)) (by intro u hu; simp at hu; subst hu; rfl) (by omega) (by unfold maxLen; omega) (by omega) (by simp; have := hbel.size; omega) (wr.heap.size + 1) (by simp) ?_; intro g' cap' w2 hown2 hgr2 hor hlt2))
          go_roundw
          case rel => exact ⟨I + 1, I + 1, _, by omega, by go_num, by go_num, HS.out, by simpa using hown2, bgrown (hbel.alloc hbel.size _) hgr2 (fun k hk => (hown.lt k hk).1) (by simp; have := hbel.size; omega)⟩
          case measure => simp [intOf]; omega
        · have HS := Lib.hid (hS.skip hlt (byte_no hlt hb hby))
          have hbb : (((s[I]).toNat : Int) == (b : Int)) = false := by simp; omega
          clear hS hby
          go_wp2
          go_roundw
          case rel => exact ⟨I + 1, F, L, by omega, rfl, by go_num, HS.out, hown, hbel⟩
          case measure => simp [intOf]; omega
    · have HD := Lib.hid (hS.done (by omega))
      have hlt0 : ¬ (I : Int) ≤ (s.size : Int) := by omega
      have hlen := sp_length (UInt8.ofNat b) s
      obtain ⟨g, cap, rfl, hg1, hg2⟩ := hown.form (by rw [HD.out, hlen]; omega)
      have HO : Hid (wr.ownsRow w.heap.size 9 1 (.slice (some ⟨g, 0, none⟩) L.length cap) L.length (L.map Value.string)) := Lib.hid hown
      clear hown
      have hd := HD.out
      clear HD
      subst hd
      clear hlen
      go_wp2
      go_ret
      refine ⟨g, cap, rfl, ⟨hg2, fun j x hx => ?_⟩, hg1, hbel⟩
      have hj := (List.getElem?_eq_some_iff.1 hx).1
      rw [HO.out.cellAt j (by omega), List.getElem?_map, hx]; rfl
/-- the library's variable MaxLen holds some number -/
def ML (w : World) : Prop := 0 < w.heap.size ∧ ∃ m, w.cell? ⟨0, 0, none⟩ = some (.int .i64 m)
theorem ML.below {w w' : World} (h : ML w) (hb : Below w.heap.size w w') : ML w' := by
  obtain ⟨h0, m, hm⟩ := h
  exact ⟨Nat.lt_of_lt_of_le h0 hb.size, m, bkeep (hb.block 0 h0) hm⟩
/-- a new row of strings -/
def PartsPostI (w : World) (l : List ByteArray) (e : Ending) (w' : World) : Prop := ∃ g, e = .returned (.slice (some ⟨g, 0, none⟩) l.length l.length) ∧ Box w' g 9 (l.map Value.string).toArray ∧ w.heap.size ≤ g ∧ Below w.heap.size w w'
/-- block g is just these strings -/
def SBox (w : World) (g : Nat) (l : List ByteArray) : Prop := Box w g 9 (l.map Value.string).toArray
theorem SBox.at_ {w : World} {g : Nat} {l : List ByteArray} (h : SBox w g l) : SAt w g l :=
  ⟨h.lt, fun j x hx => h.cell j (by simp [List.getElem?_map, hx])⟩
theorem tx1 (b : Nat) : tx [UInt8.ofNat b] = ⟨#[UInt8.ofNat b]⟩ := rfl
set_option maxRecDepth 20000 in
set_option maxHeartbeats 1000000 in
theorem cI_Parts (s : ByteArray) (b : Nat) (hb : b < 256) (hs : s.size ≤ 1048576) (w : World) (hm : ML w) :
    Calls Tryd.prog 7 #[.string s, .int .u8 b] w (PartsPostI w (sp (UInt8.ofNat b) s)) := by
  have hcv := conv_one w (b : Int) b rfl
  rw [tx1] at hcv
  have hbx : Below w.heap.size w (w.alloc (.cells #[.int .u8 b] 5)) := (Below.refl _ w).alloc (Nat.le_refl _) _
  obtain ⟨_, m, hmc⟩ := hm.below hbx
  have hc := Tryd.strings_Split s ⟨#[UInt8.ofNat b]⟩ m (w.alloc (.cells #[.int .u8 b] 5)) (by omega) hmc (by show 1 ≤ 1; omega)
  have hl := sp_length (UInt8.ofNat b) s
  rw [← hl] at hc
  have hsp : Hid (Lib.splitB ⟨#[UInt8.ofNat b]⟩ 0 (Lib.countB s ⟨#[UInt8.ofNat b]⟩) s = sp (UInt8.ofNat b) s) := Lib.hid rfl
  rw [hsp.out] at hc
  clear hmc hl
  generalize sp (UInt8.ofNat b) s = L at hc ⊢
  have hnew := Box.new (w.alloc (.cells #[.int .u8 b] 5)) 9 (L.map Value.string).toArray
  rw [show (w.alloc (.cells #[.int .u8 b] 5)).heap.size = w.heap.size + 1 by simp] at hnew
  go_enter Tryd.func7, Tryd.ntmps7
  go_wp2_with (go_at_call 15; refine hc.mono ?_; rintro e w2 ⟨rfl, rfl⟩)
  go_ret
  exact ⟨_, rfl, hnew, by simp, hbx.alloc hbx.size _⟩
end Go.Proofs.YtmfeheglpfndpaaDoor
