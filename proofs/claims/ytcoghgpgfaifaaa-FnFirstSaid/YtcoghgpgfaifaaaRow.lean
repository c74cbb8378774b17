/- Rows of bytes that a call makes itself (literal, make, conversion of a string), read cell by cell; append, store, conversion to a string. Conditions: lengths. -/
import Derived.Test.YtcoghgpgfaifaaaBase
import Derived.ArgAppend
import Derived.Laws.BytesArg
import Derived.Laws.IdiomStrings
import Derived.Laws.MakeOwn
namespace Go.Proofs.Ytcoghgpgfaifaaa
open Go.RowKit
set_option linter.unusedVariables false
set_option linter.unusedSimpArgs false

/-- the string of a list of numbers -/
def bs (l : List Nat) : ByteArray := ⟨(l.map fun n => UInt8.ofNat n).toArray⟩
/-- the numbers of a string -/
def bl (s : ByteArray) : List Nat := s.data.toList.map UInt8.toNat
theorem bl_length (s : ByteArray) : (bl s).length = s.size := by
  show (List.map _ s.data.toList).length = s.data.size
  rw [List.length_map, Array.length_toList]
theorem bs_size (l : List Nat) : (bs l).size = l.length := by
  show ((l.map fun n => UInt8.ofNat n).toArray).size = _
  simp
theorem bl_lt (s : ByteArray) : ∀ b ∈ bl s, b < 256 := by
  intro b hb
  simp only [bl, List.mem_map] at hb
  obtain ⟨x, _, rfl⟩ := hb
  exact x.toNat_lt
theorem bl_bs (l : List Nat) (h : ∀ b ∈ l, b < 256) : bl (bs l) = l := by
  unfold bl bs
  simp only [List.map_map]
  have : ∀ b ∈ l, (UInt8.toNat ∘ fun n => UInt8.ofNat n) b = b := fun b hb => by
    have := h b hb
    simp [UInt8.toNat_ofNat, Nat.mod_eq_of_lt this]
  rw [List.map_congr_left this]; simp
theorem bs_bl (s : ByteArray) : bs (bl s) = s := by
  unfold bl bs
  simp only [List.map_map]
  have : ∀ b ∈ s.data.toList, ((fun n => UInt8.ofNat n) ∘ UInt8.toNat) b = b := fun b _ => by simp
  rw [List.map_congr_left this]; simp
theorem bs_inj {a b : List Nat} (ha : ∀ x ∈ a, x < 256) (hb : ∀ x ∈ b, x < 256) (h : bs a = bs b) : a = b := by
  rw [← bl_bs a ha, h, bl_bs b hb]
theorem strOfNums_bs (l : List Nat) : strOfNums (l.map fun n : Nat => (n : Int)) = bs l := by
  unfold strOfNums bs; simp [List.map_map]
theorem bl_get (s : ByteArray) (i : Nat) (h : i < s.size) : (bl s).getD i 0 = (s[i]'h).toNat := by
  unfold bl
  have h' : i < s.data.toList.length := by rw [Array.length_toList]; exact h
  simp [List.getD, List.getElem?_map, List.getElem?_eq_getElem h']; rfl
theorem bl_extract (s : ByteArray) (a b : Nat) : bl (s.extract a b) = ((bl s).take b).drop a := by
  unfold bl; simp [ByteArray.data_extract, List.map_drop, List.map_take, List.drop_take]
theorem bl_append (s t : ByteArray) : bl (s ++ t) = bl s ++ bl t := by simp [bl]
theorem bl_ext {s t : ByteArray} (h : bl s = bl t) : s = t := by rw [← bs_bl s, h, bs_bl]

/-- the types of a byte slice -/
structure U8s (P : Program) (t e st : TypeId) : Prop where
  ht : P.underlying t = some (.slice e)
  he : P.underlying e = some (.int .u8)
  hs : P.underlying st = some .string
  info : ∃ i, P.info? e = some i ∧ i.zero = some (.int .u8 0) ∧ i.size = 1 ∧ i.bytes = 1

/-- Block g holds the bytes l at its head and has room for cap. -/
structure RowAt (w : World) (g cap : Nat) (l : List Nat) : Prop where
  lt : g < w.heap.size
  le : l.length ≤ cap
  max : cap ≤ maxLen
  cells : ∀ j, j < cap → (w.cell? ⟨g, j, none⟩).isSome = true
  free : ∀ j, j < cap → w.frozen? ⟨g, j, none⟩ = false
  at_ : ∀ j, j < l.length → w.cell? ⟨g, j, none⟩ = some (.int .u8 (l.getD j 0 : Nat))

section
variable {w w' : World} {g cap : Nat} {l : List Nat}
theorem RowAt.keep (h : RowAt w g cap l) (hb : w'.heap[g]? = w.heap[g]?) (hz : w.heap.size ≤ w'.heap.size) : RowAt w' g cap l :=
  ⟨Nat.lt_of_lt_of_le h.lt hz, h.le, h.max, fun j hj => by rw [World.cell?_of_block (a := ⟨g, j, none⟩) hb]; exact h.cells j hj,
   fun j hj => by rw [World.frozen?_of_block (a := ⟨g, j, none⟩) hb]; exact h.free j hj, fun j hj => by rw [World.cell?_of_block (a := ⟨g, j, none⟩) hb]; exact h.at_ j hj⟩
theorem RowAt.drew (h : RowAt w g cap l) : RowAt w.drew g cap l := h.keep rfl (Nat.le_refl _)
theorem RowAt.drewN (h : RowAt w g cap l) (n : Nat) : RowAt (w.drewN n) g cap l := h.keep rfl (Nat.le_refl _)
theorem RowAt.alloc (h : RowAt w g cap l) (o : Obj) : RowAt (w.alloc o) g cap l := h.keep (Below.heap_alloc w o g h.lt) (by simp)
theorem RowAt.far (h : RowAt w g cap l) {p : Addr} (hp : g ≠ p.block) (u : Value) : RowAt (w.setCell p u) g cap l := h.keep (Below.heap_setCell w p u g hp) (by simp [World.setCell])
theorem RowAt.grown (h : RowAt w g cap l) {row : Option Nat} (hg : w.grownBy w' row) (hr : some g ≠ row) : RowAt w' g cap l := h.keep (hg.block g h.lt hr) hg.size
theorem RowAt.below (h : RowAt w g cap l) {B : Nat} (hb : Below B w w') (hg : g < B) : RowAt w' g cap l := h.keep (hb.block g hg) hb.size

theorem RowAt.set_ (h : RowAt w g cap l) (j x : Nat) (hj : j < cap) : RowAt (w.setCell ⟨g, j, none⟩ (.int .u8 x)) g cap (l.set j x) := by
  have hsame : w.cell? ⟨g, j, none⟩ ≠ none := by
    have := h.cells j hj
    intro hn; rw [hn] at this; cases this
  obtain ⟨u0, hu0⟩ := Option.ne_none_iff_exists'.1 hsame
  have hc : (w.setCell ⟨g, j, none⟩ (.int .u8 x)).cell? ⟨g, j, none⟩ = some (.int .u8 x) := by
    simpa using World.cell?_setCell_same w ⟨g, j, none⟩ (.int .u8 x) hu0
  refine ⟨by simpa [World.setCell] using h.lt, by simpa using h.le, h.max, fun k hk => ?_, fun k hk => ?_, fun k hk => ?_⟩
  · by_cases e : k = j
    · subst e; rw [hc]; rfl
    · rw [World.cell?_setCell_other _ _ _ _ (by intro he; injection he with _ h2; exact e (by first | exact h2 | exact h2.symm))]; exact h.cells k hk
  · have := h.free k hk
    rw [← this]; exact World.frozen?_setCell _ _ _ _
  · simp only [List.length_set] at hk
    by_cases e : k = j
    · subst e; rw [hc]; simp [List.getD, List.getElem?_set_self hk]
    · rw [World.cell?_setCell_other _ _ _ _ (by intro he; injection he with _ h2; exact e (by first | exact h2 | exact h2.symm)), h.at_ k hk]
      simp [List.getD, List.getElem?_set_ne (Ne.symm e)]

theorem RowAt.set' (h : RowAt w g cap l) (j x : Nat) (X : Int) (hj : j < cap) (hX : X = (x : Nat)) : RowAt (w.setCell ⟨g, j, none⟩ (.int .u8 X)) g cap (l.set j x) := by
  subst hX; exact h.set_ j x hj

/-- a literal, or a row of zeros: the block is written out -/
theorem RowAt.new (w : World) (cs : Array Value) (e : TypeId) (l : List Nat) (hcs : ∀ j, j < l.length → cs[j]? = some (.int .u8 (l.getD j 0 : Nat))) (hle : l.length ≤ cs.size) (hm : cs.size ≤ maxLen) :
    RowAt (w.alloc (.cells cs e)) w.heap.size cs.size l := by
  have hc : ∀ j, (w.alloc (.cells cs e)).cell? ⟨w.heap.size, j, none⟩ = cs[j]? := fun j => World.cell?_alloc_mark w cs e (0, 0) j
  refine ⟨by simp, hle, hm, fun j hj => by rw [hc, Array.getElem?_eq_getElem hj]; rfl, fun j hj => ?_, fun j hj => by rw [hc, hcs j hj]⟩
  rw [World.frozen?_alloc_mark w cs e 0 0 j]; simp

theorem RowAt.of_own {base : Nat} {e : TypeId} {n c : Nat} (h : w.ownsRow base e 1 (.slice (some ⟨g, 0, none⟩) n c) n (l.map fun x => Value.int .u8 (x : Nat))) : RowAt w g c l ∧ n = l.length := by
  have hl : l.length = n := by have := h.1; simpa using this
  rcases h.2 with ⟨hv, _⟩ | ⟨g', cap', cur, hv, hb, hh, hn, hc, hs, ht⟩
  · cases hv
  · injection hv with h1 h2 h3
    injection h1 with h1; injection h1 with h1
    subst h1 h3
    have hcell : ∀ j, w.cell? ⟨g, j, none⟩ = cur[j]? := fun j => cell_of_row w g j cur e (0, 0) hh
    have hsz : cur.size = c := by simpa using hs
    refine ⟨⟨(Array.getElem?_eq_some_iff.1 hh).1, by omega, hc, fun j hj => by rw [hcell, Array.getElem?_eq_getElem (by omega)]; rfl, fun j hj => by simp [World.frozen?, hh], fun j hj => ?_⟩, hl.symm⟩
    rw [hcell]
    have h4 : (cur.toList.take n)[j]? = some (.int .u8 (l.getD j 0 : Nat)) := by
      have : cur.toList.take n = cur.toList.take (n * 1) := by simp
      rw [this, ht]
      simp [List.getD, List.getElem?_map, List.getElem?_eq_getElem hj]
    rw [List.getElem?_take] at h4
    split at h4
    · simpa using h4
    · cases h4

/-- the string of a row -/
theorem run_string_of_row {P : Program} {t e st : TypeId} (U : U8s P t e st) (h : RowAt w g cap l) : (convert t st (.slice (some ⟨g, 0, none⟩) l.length cap)).run P w = .ok (.string (bs l)) w := by
  have := run_convert_bytes_arg (P := P) w t e U.ht U.he g 0 l.length cap (l.map fun n : Nat => (n : Int)) (by simp) (fun i hi => by
    rw [Nat.zero_add, h.at_ i hi]; simp [List.getD, List.getElem?_map, List.getElem?_eq_getElem hi]) st U.hs
  rw [this, strOfNums_bs]
theorem run_string_of_row' {P : Program} {t e st : TypeId} (U : U8s P t e st) (h : RowAt w g cap l) (n : Nat) (hn : l.length = n) : (convert t st (.slice (some ⟨g, 0, none⟩) n cap)).run P w = .ok (.string (bs l)) w := by
  subst hn; exact run_string_of_row U h
end

/-- n zero bytes -/
def zeros (n : Nat) : Array Value := madeCells #[.int .u8 0] n
theorem zeros_size (n : Nat) : (zeros n).size = n := size_madeCells _ _
theorem zeros_get (n j : Nat) (h : j < n) : (zeros n)[j]? = some (.int .u8 0) := by
  have : (zeros n).toList[j]? = some (.int .u8 0) := by
    unfold zeros; rw [toList_madeCells_one, List.getElem?_replicate, if_pos h]
  simpa using this
theorem run_make_row {P : Program} {t e st : TypeId} (U : U8s P t e st) (n c : Nat) (hn : n ≤ c) (hc : c ≤ 281474976710656) : ∀ w : World,
    (Instr.makeSlice t (.int .i64 n) (.int .i64 c)).run P w = .ok (.slice (some ⟨w.heap.size, 0, none⟩) n c) (w.alloc (.cells (zeros c) e)) := by
  intro w
  obtain ⟨i, hi, hz, hsz, hby⟩ := U.info
  have hr := run_make (P := P) w t e i (.int .u8 0) U.ht hi hz .i64 .i64 n c (by omega) (by omega) (by rw [hby]; omega) (by omega)
  simp only [Int.toNat_natCast] at hr
  rw [hsz, Nat.mul_one] at hr
  exact hr
theorem RowAt.made (w : World) (e : TypeId) (n c : Nat) (hn : n ≤ c) (hc : c ≤ maxLen) : RowAt (w.alloc (.cells (zeros c) e)) w.heap.size c (List.replicate n 0) := by
  have h := RowAt.new w (zeros c) e (List.replicate n 0) (fun j hj => by
    rw [List.length_replicate] at hj
    rw [zeros_get c j (by omega)]
    simp [List.getD, List.getElem?_replicate, hj]) (by rw [List.length_replicate, zeros_size]; exact hn) (by rw [zeros_size]; exact hc)
  rw [zeros_size] at h; exact h

/-- what []byte(s) lays -/
def strCap (w : World) (l : List Nat) (e : TypeId) : Nat := grownCap w l.length 0 e
def strObj (w : World) (l : List Nat) (e : TypeId) : Obj := .cells (bytesRow (bs l) (strCap w l e)) e ((bytesRow (bs l) (strCap w l e)).size, (bytesRow (bs l) (strCap w l e)).size + 1)
theorem run_bytes_row {P : Program} {t e st : TypeId} (U : U8s P t e st) (w : World) (l : List Nat) (n : Nat) (hn : l.length = n) :
    (convert st t (.string (bs l))).run P w = .ok (.slice (some ⟨w.heap.size, 0, none⟩) n (strCap w l e)) (w.drew.alloc (strObj w l e)) := by
  subst hn
  have h := run_bytes_of_string (P := P) w st t e (bs l) U.hs U.ht U.he
  rw [bs_size] at h
  exact h
theorem bytesRow_size (s : ByteArray) (cap : Nat) (h : s.size ≤ cap) : (bytesRow s cap).size = cap := by
  have : s.data.size = s.size := rfl
  simp [bytesRow, this]; omega
theorem RowAt.of_string (w : World) (l : List Nat) (e : TypeId) (hl : l.length ≤ 140737488355328) (h256 : ∀ b ∈ l, b < 256) : RowAt (w.drew.alloc (strObj w l e)) w.heap.size (strCap w l e) l := by
  have hge : l.length ≤ strCap w l e := grownCap_ge w l.length 0 e
  have hmx : strCap w l e ≤ maxLen := grownCap_le_maxLen w l.length 0 e (by unfold maxLen; omega)
  have hsz : (bytesRow (bs l) (strCap w l e)).size = strCap w l e := bytesRow_size _ _ (by rw [bs_size]; exact hge)
  have hc : ∀ j, (w.drew.alloc (strObj w l e)).cell? ⟨w.heap.size, j, none⟩ = (bytesRow (bs l) (strCap w l e))[j]? := fun j => World.cell?_alloc_mark w.drew _ e _ j
  refine ⟨by simp, hge, hmx, fun j hj => by rw [hc, Array.getElem?_eq_getElem (by omega)]; rfl, fun j hj => ?_, fun j hj => ?_⟩
  · have hf := World.frozen?_alloc_mark w.drew (bytesRow (bs l) (strCap w l e)) e (bytesRow (bs l) (strCap w l e)).size ((bytesRow (bs l) (strCap w l e)).size + 1) j
    show (w.drew.alloc (.cells (bytesRow (bs l) (strCap w l e)) e ((bytesRow (bs l) (strCap w l e)).size, (bytesRow (bs l) (strCap w l e)).size + 1))).frozen? ⟨w.drew.heap.size, j, none⟩ = false
    rw [hf, hsz]
    have : ¬ strCap w l e ≤ j := by omega
    simp [this]
  · rw [hc]
    have hj' : j < (bs l).data.size := by rw [show (bs l).data.size = (bs l).size from rfl, bs_size]; exact hj
    rw [bytesRow_at (bs l) _ j hj']
    have h1 := h256 (l.getD j 0) (by simp [List.getD, List.getElem?_eq_getElem hj])
    simp [bs, List.getD, List.getElem?_eq_getElem hj] at h1 ⊢
    omega
theorem news1 {b : Nat} (w : World) (e : TypeId) (x : Nat) (i : Int) (hb : b = w.heap.size) (h : i = (x : Nat)) : ∀ j, j < 1 → (w.alloc (.cells #[.int .u8 i] e)).cell? ⟨b, j, none⟩ = some (.int .u8 (([x] : List Nat).getD j 0 : Nat)) := by
  intro j hj
  obtain rfl : j = 0 := by omega
  subst hb
  rw [World.cell?_alloc_mark w #[.int .u8 i] e (0, 0) 0, h]; rfl
theorem news2 {b : Nat} (w : World) (e : TypeId) (x y : Nat) (i k : Int) (hb : b = w.heap.size) (h : i = (x : Nat)) (h' : k = (y : Nat)) : ∀ j, j < 2 → (w.alloc (.cells #[.int .u8 i, .int .u8 k] e)).cell? ⟨b, j, none⟩ = some (.int .u8 (([x, y] : List Nat).getD j 0 : Nat)) := by
  intro j hj
  subst hb
  rcases (show j = 0 ∨ j = 1 by omega) with rfl | rfl
  · rw [World.cell?_alloc_mark w #[.int .u8 i, .int .u8 k] e (0, 0) 0, h]; rfl
  · rw [World.cell?_alloc_mark w #[.int .u8 i, .int .u8 k] e (0, 0) 1, h']; rfl
theorem setCells_world (b : Nat) : ∀ (vs : List Value) (o : Nat) (w : World), (w.setCells b o vs).os = w.os ∧ (w.setCells b o vs).tape = w.tape ∧ (w.setCells b o vs).output = w.output ∧ (w.setCells b o vs).heap.size = w.heap.size ∧ ∀ k, k ≠ b → (w.setCells b o vs).heap[k]? = w.heap[k]?
  | [], _, _ => ⟨rfl, rfl, rfl, rfl, fun _ _ => rfl⟩
  | v :: r, o, w => by
    obtain ⟨h1, h2, h3, h4, h5⟩ := setCells_world b r (o + 1) (w.setCell ⟨b, o, none⟩ v)
    exact ⟨h1, h2, h3, by rw [World.setCells, h4]; simp [World.setCell], fun k hk => (h5 k hk).trans (Below.heap_setCell w ⟨b, o, none⟩ v k hk)⟩

/-- append of bytes to a row of the call's own -/
theorem run_append_row {P : Program} {w : World} {g cap : Nat} {l : List Nat} {t ty e st : TypeId} (U : U8s P t e st) (h : RowAt w g cap l) (b m c : Nat) (news : List Nat)
    (hn : news.length = m) (hnews : ∀ j, j < m → w.cell? ⟨b, j, none⟩ = some (.int .u8 (news.getD j 0 : Nat))) (hlen : l.length + m ≤ 140737488355328) :
    ∃ g' cap' w', (Builtin.append_ #[t, t] ty #[.slice (some ⟨g, 0, none⟩) l.length cap, .slice (some ⟨b, 0, none⟩) m c]).run P w = .ok (.slice (some ⟨g', 0, none⟩) (l.length + m) cap') w' ∧
      RowAt w' g' cap' (l ++ news) ∧ w.grownBy w' (some g) ∧ (g' = g ∨ g' = w.heap.size) := by
  obtain ⟨i, hi, hz, hsz, hby⟩ := U.info
  have hadd : ∀ (b j : Nat), (⟨b, 0, none⟩ : Addr).add j = ⟨b, j, none⟩ := fun b j => by unfold Addr.add; split <;> simp_all
  have hcs : ∀ j u, (news.map fun x => Value.int .u8 (x : Nat))[j]? = some u → w.cell? ((⟨b, 0, none⟩ : Addr).add j) = some u := by
    intro j u hj
    have hjl : j < news.length := by have := (List.getElem?_eq_some_iff.1 hj).1; simpa using this
    rw [hadd, hnews j (by omega)]
    simp only [List.getElem?_map, List.getElem?_eq_getElem hjl, Option.map_some, Option.some.injEq] at hj
    simp [List.getD, List.getElem?_eq_getElem hjl, hj]
  have h1 : ∀ u ∈ (news.map fun x => Value.int .u8 (x : Nat)), u.oneCell' = true := by
    intro u hu; simp only [List.mem_map] at hu; obtain ⟨x, _, rfl⟩ := hu; rfl
  by_cases hroom : l.length + m ≤ cap
  · have hrun := run_append_room_cells (P := P) w t ty e i U.ht hi g 0 l.length cap ⟨b, 0, none⟩ m c (news.map fun x => Value.int .u8 (x : Nat)) (by simp [hn, hsz]) hcs h1 hroom
      (fun j hj => by simp only [List.length_map] at hj; rw [hsz, Nat.mul_one, Nat.zero_add]; exact h.cells _ (by omega))
      (fun j hj => by simp only [List.length_map] at hj; rw [hsz, Nat.mul_one, Nat.zero_add]; exact h.free _ (by omega))
    rw [hsz, Nat.mul_one, Nat.zero_add] at hrun
    refine ⟨g, cap, _, hrun, ?_, ⟨?_, ?_, ?_, ?_, ?_⟩, .inl rfl⟩
    · have hset : ∀ (news : List Nat) (k : Nat) (w : World) (l : List Nat), k = l.length → RowAt w g cap l → l.length + news.length ≤ cap →
          RowAt (w.setCells g k (news.map fun x => Value.int .u8 (x : Nat))) g cap (l ++ news) := by
        intro news
        induction news with
        | nil => intro k w l hk h _; simpa [World.setCells] using h
        | cons x r ih =>
          intro k w l hk h hle
          simp only [List.map_cons, World.setCells]
          simp only [List.length_cons] at hle
          have hx : RowAt (w.setCell ⟨g, k, none⟩ (.int .u8 x)) g cap (l ++ [x]) := by
            have hs := h.set_ k x (by omega)
            refine ⟨hs.lt, by simp; omega, hs.max, hs.cells, hs.free, fun j hj => ?_⟩
            simp only [List.length_append, List.length_cons, List.length_nil] at hj
            by_cases e : j = k
            · subst e
              have hsame : w.cell? ⟨g, j, none⟩ ≠ none := by
                have := h.cells j (by omega)
                intro hn; rw [hn] at this; cases this
              obtain ⟨u0, hu0⟩ := Option.ne_none_iff_exists'.1 hsame
              rw [World.cell?_setCell_same w ⟨g, j, none⟩ (.int .u8 x) hu0]
              simp [List.getD, hk]
            · rw [World.cell?_setCell_other _ _ _ _ (by intro he; injection he with _ h2; exact e (by first | exact h2 | exact h2.symm)), h.at_ j (by omega)]
              simp [List.getD, List.getElem?_append_left (show j < l.length by omega)]
          have := ih (k + 1) _ (l ++ [x]) (by simp [hk]) hx (by simp; omega)
          simpa using this
      exact hset news l.length w l rfl h (by omega)
    · exact (setCells_world g _ l.length w).1
    · exact (setCells_world g _ l.length w).2.1
    · exact (setCells_world g _ l.length w).2.2.1
    · rw [(setCells_world g _ l.length w).2.2.2.1]; exact Nat.le_refl _
    · intro k hk hne
      exact (setCells_world g _ l.length w).2.2.2.2 k (fun e => hne (by rw [e]))
  · obtain ⟨v', w', hrun, hown, hgr⟩ := run_append_arg_grows (P := P) w t ty e i (.int .u8 0) 1 1 U.ht hi hz hsz hby rfl (by decide) ⟨g, 0, none⟩ l.length cap (l.map fun x => Value.int .u8 (x : Nat)) (by simp)
      (fun j u hj => by
        have hjl : j < l.length := by have := (List.getElem?_eq_some_iff.1 hj).1; simpa using this
        rw [hadd, h.at_ j hjl]
        simp only [List.getElem?_map, List.getElem?_eq_getElem hjl, Option.map_some, Option.some.injEq] at hj
        simp [List.getD, List.getElem?_eq_getElem hjl, hj])
      ⟨b, 0, none⟩ m c (news.map fun x => Value.int .u8 (x : Nat)) (by simp [hn]) hcs (by omega) (by unfold maxLen; omega) (by omega)
    have hpos : 0 < l.length + m := by omega
    obtain ⟨g', cap', hv, hg1, hg2⟩ := hown.form hpos
    subst hv
    have hR := RowAt.of_own (l := l ++ news) (by rw [List.map_append]; exact hown)
    have hrow := hown.2
    refine ⟨g', cap', w', hrun, hR.1, ⟨hgr.os, hgr.tape, hgr.output, hgr.size, fun k hk _ => hgr.block k hk (by simp)⟩, .inr ?_⟩
    rw [run_append_grow (P := P) w t ty e i (.int .u8 0) U.ht hi hz ⟨g, 0, none⟩ l.length cap (l.map fun x => Value.int .u8 (x : Nat)) (by simp [hsz])
      (fun j u hj => by
        have hjl : j < l.length := by have := (List.getElem?_eq_some_iff.1 hj).1; simpa using this
        rw [hadd, h.at_ j hjl]
        simp only [List.getElem?_map, List.getElem?_eq_getElem hjl, Option.map_some, Option.some.injEq] at hj
        simp [List.getD, List.getElem?_eq_getElem hjl, hj]) ⟨b, 0, none⟩ m c (news.map fun x => Value.int .u8 (x : Nat)) (by simp [hn, hsz]) hcs (by omega) (by omega) (by rw [hby]; exact growslice_fits (by omega) (by omega))] at hrun
    injection hrun with h2 h3
    injection h2 with h4
    injection h4 with h5
    injection h5 with h6
    exact h6.symm

theorem wp_append_row {P : Program} {w : World} {o : Oper} {a : Act} {K : Act → World → Prop} {Q : Exit → Act → World → Prop} (s x : Operand) {g cap : Nat} {l : List Nat} {t e st : TypeId} (U : U8s P t e st)
    (ho : o.op = .call { callee := .builtin .append, args := #[s, x], argTypes := #[t, t] }) (h : RowAt w g cap l) (hs : a.eval s = .slice (some ⟨g, 0, none⟩) l.length cap)
    (b m c : Nat) (news : List Nat) (hx : a.eval x = .slice (some ⟨b, 0, none⟩) m c) (hn : news.length = m) (hnews : ∀ j, j < m → w.cell? ⟨b, j, none⟩ = some (.int .u8 (news.getD j 0 : Nat))) (hlen : l.length + m ≤ 140737488355328)
    (hK : ∀ g' cap' w', RowAt w' g' cap' (l ++ news) → w.grownBy w' (some g) → (g' = g ∨ g' = w.heap.size) → K (a.put o.dst (.slice (some ⟨g', 0, none⟩) (l.length + m) cap')) w') : o.wp P a w K Q := by
  obtain ⟨g', cap', w', hrun, h2, h3, h4⟩ := run_append_row (ty := o.type) U h b m c news hn hnews hlen
  unfold Oper.wp execOp
  simp only [ho, resolve, invoke, builtin, Sem.run_bind, Sem.run_pure, Result.andThen_ok, List.map_toArray, List.map_cons, List.map_nil, hs, hx, hrun]
  exact hK g' cap' w' h2 h3 h4

theorem wpList_append_row {P : Program} {w : World} {ops : Array Oper} {rest : List Oper} {o : Oper} {a : Act} {Q : Exit → Act → World → Prop} (hgd : o.guard = none) (s x : Operand) {g cap : Nat} {l : List Nat} {t e st : TypeId} (U : U8s P t e st)
    (ho : o.op = .call { callee := .builtin .append, args := #[s, x], argTypes := #[t, t] }) (h : RowAt w g cap l) (hs : a.eval s = .slice (some ⟨g, 0, none⟩) l.length cap)
    (b m c : Nat) (news : List Nat) (hx : a.eval x = .slice (some ⟨b, 0, none⟩) m c) (hn : news.length = m) (hnews : ∀ j, j < m → w.cell? ⟨b, j, none⟩ = some (.int .u8 (news.getD j 0 : Nat))) (hlen : l.length + m ≤ 140737488355328)
    (hK : ∀ g' cap' w', RowAt w' g' cap' (l ++ news) → w.grownBy w' (some g) → (g' = g ∨ g' = w.heap.size) → wpList P ops Q rest (a.put o.dst (.slice (some ⟨g', 0, none⟩) (l.length + m) cap')) w') : wpList P ops Q (o :: rest) a w :=
  wpList_plain hgd fun _ hK' => wp_append_row s x U ho h hs b m c news hx hn hnews hlen fun g' cap' w' h2 h3 h4 => hK' _ _ (hK g' cap' w' h2 h3 h4)

theorem wpList_append_row' {P : Program} {w : World} {ops : Array Oper} {rest : List Oper} {o : Oper} {a : Act} {Q : Exit → Act → World → Prop} (hgd : o.guard = none) (s x : Operand) {g cap : Nat} {l : List Nat} {t e st : TypeId} (U : U8s P t e st)
    (ho : o.op = .call { callee := .builtin .append, args := #[s, x], argTypes := #[t, t] }) (h : RowAt w g cap l) (n : Nat) (hln : l.length = n) (hs : a.eval s = .slice (some ⟨g, 0, none⟩) n cap)
    (b m c : Nat) (news : List Nat) (hx : a.eval x = .slice (some ⟨b, 0, none⟩) m c) (hn : news.length = m) (hnews : ∀ j, j < m → w.cell? ⟨b, j, none⟩ = some (.int .u8 (news.getD j 0 : Nat))) (hlen : n + m ≤ 140737488355328)
    (hK : ∀ g' cap' w', RowAt w' g' cap' (l ++ news) → w.grownBy w' (some g) → (g' = g ∨ g' = w.heap.size) → wpList P ops Q rest (a.put o.dst (.slice (some ⟨g', 0, none⟩) (n + m) cap')) w') : wpList P ops Q (o :: rest) a w := by
  subst hln
  exact wpList_append_row hgd s x U ho h hs b m c news hx hn hnews hlen hK

end Go.Proofs.Ytcoghgpgfaifaaa
