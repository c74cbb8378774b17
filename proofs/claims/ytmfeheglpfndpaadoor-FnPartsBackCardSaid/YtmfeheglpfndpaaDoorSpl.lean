/- Plain laws of splitting a string at a byte. Conditions: none. -/
import Derived.Lib.SplitLaws
import Derived.Lib.IndexBytes
import Derived.Lib.IndexLaws
import Derived.Lib.ItoaNum
namespace Go.Proofs.YtmfeheglpfndpaaDoor
open Go.Lib
/-- the pieces of t between the bytes c -/
def sp (c : UInt8) (t : ByteArray) : List ByteArray := splitB ⟨#[c]⟩ 0 (countB t ⟨#[c]⟩) t
theorem ib_at {l : List UInt8} {c : UInt8} {m : Nat} (h : l[m]? = some c) (hk : ∀ k, k < m → l[k]? ≠ some c) : indexByte l c = m := by
  have hge := indexByte_ge l c
  by_cases hn : indexByte l c = -1
  · exact absurd h (indexByte_none hn m)
  · obtain ⟨o, ho⟩ : ∃ o : Nat, indexByte l c = o := ⟨(indexByte l c).toNat, by omega⟩
    obtain ⟨h1, h2⟩ := indexByte_some ho
    rcases Nat.lt_trichotomy o m with h3 | h3 | h3
    · exact absurd h1 (hk o h3)
    · rw [ho, h3]
    · exact absurd h (h2 m h3)
theorem ib_no {l : List UInt8} {c : UInt8} (hk : ∀ k, k < l.length → l[k]? ≠ some c) : indexByte l c = -1 := by
  have hge := indexByte_ge l c
  by_cases hn : indexByte l c = -1
  · exact hn
  · obtain ⟨o, ho⟩ : ∃ o : Nat, indexByte l c = o := ⟨(indexByte l c).toNat, by omega⟩
    obtain ⟨h1, _⟩ := indexByte_some ho
    exact absurd h1 (hk o (List.getElem?_eq_some_iff.1 h1).1)
theorem indexB_c (t : ByteArray) (c : UInt8) : indexB t ⟨#[c]⟩ = indexByte t.data.toList c := by
  show index t.data.toList [c] = _
  exact index_one _ _
theorem sp_miss {c : UInt8} {t : ByteArray} (hk : ∀ k, k < t.data.toList.length → t.data.toList[k]? ≠ some c) : sp c t = [t] := by
  have hi : indexB t ⟨#[c]⟩ = -1 := by rw [indexB_c]; exact ib_no hk
  unfold sp
  rw [countB_miss t _ hi]; rfl
theorem sp_hit {c : UInt8} {t : ByteArray} {m : Nat} (h : t.data.toList[m]? = some c) (hk : ∀ k, k < m → t.data.toList[k]? ≠ some c) :
    sp c t = t.extract 0 m :: sp c (t.extract (m + 1) t.size) := by
  have hi : indexB t ⟨#[c]⟩ = (m : Int) := by rw [indexB_c]; exact ib_at h hk
  have hc := countB_hit t ⟨#[c]⟩ m (by show 1 ≤ 1; omega) hi
  unfold sp
  have e : (⟨#[c]⟩ : ByteArray).size = 1 := rfl
  rw [hc, Nat.add_comm, splitB_hit ⟨#[c]⟩ 0 _ t m hi, e]
  rfl
theorem ext_data (s : ByteArray) (a b : Nat) : (s.extract a b).data.toList = (s.data.toList.take b).drop a := by
  simp [ByteArray.data_extract, List.drop_take]
theorem ba_ext {s t : ByteArray} (h : s.data.toList = t.data.toList) : s = t := by
  obtain ⟨⟨l⟩⟩ := s; obtain ⟨⟨m⟩⟩ := t
  simp only at h; rw [h]
theorem size_len (s : ByteArray) : s.data.toList.length = s.size := by rw [Array.length_toList]; rfl
theorem tail_get (s : ByteArray) (f j : Nat) (hj : f + j < s.size) : (s.extract f s.size).data.toList[j]? = s.data.toList[f + j]? := by
  rw [ext_data, List.getElem?_drop, List.getElem?_take, if_pos hj]
theorem tail_len (s : ByteArray) (f : Nat) : (s.extract f s.size).data.toList.length = s.size - f := by
  rw [ext_data, List.length_drop, List.length_take, size_len]; omega
/-- one step: the byte at i is c, none between f and i is -/
theorem step_hit {c : UInt8} {s : ByteArray} {f i : Nat} (hf : f ≤ i) (hi : i < s.size) (h : s.data.toList[i]? = some c) (hk : ∀ j, f ≤ j → j < i → s.data.toList[j]? ≠ some c) :
    sp c (s.extract f s.size) = s.extract f i :: sp c (s.extract (i + 1) s.size) := by
  have h1 : (s.extract f s.size).data.toList[i - f]? = some c := by rw [tail_get s f _ (by omega), show f + (i - f) = i by omega]; exact h
  rw [sp_hit h1 (fun k hk' => by rw [tail_get s f k (by omega)]; exact hk (f + k) (by omega) (by omega))]
  have hs : (s.extract f s.size).size = s.size - f := by rw [← size_len, tail_len]
  congr 1
  · apply ba_ext
    rw [ext_data, ext_data, ext_data]
    rw [List.drop_zero, List.take_drop, List.take_take, show min (f + (i - f)) s.size = i by omega]
  · congr 1
    apply ba_ext
    rw [hs, ext_data, ext_data, ext_data, List.take_drop, List.take_take, List.drop_drop]
    rw [show min (f + (s.size - f)) s.size = s.size by omega, show f + (i - f + 1) = i + 1 by omega]
theorem step_end {c : UInt8} {s : ByteArray} {f : Nat} (hk : ∀ j, f ≤ j → j < s.size → s.data.toList[j]? ≠ some c) : sp c (s.extract f s.size) = [s.extract f s.size] := by
  refine sp_miss fun k hk' => ?_
  rw [tail_len] at hk'
  rw [tail_get s f k (by omega)]
  exact hk (f + k) (by omega) (by omega)
theorem ext_all (s : ByteArray) : s.extract 0 s.size = s := by
  apply ba_ext; rw [ext_data, List.drop_zero, List.take_of_length_le (by rw [size_len]; exact Nat.le_refl _)]
/-- how far the reference has split: o stands, the next piece begins at f, no c between f and i -/
def Spl (c : UInt8) (s : ByteArray) (f i : Nat) (o : List ByteArray) : Prop :=
  (i ≤ s.size ∧ f ≤ i ∧ o.length ≤ f ∧ o ++ sp c (s.extract f s.size) = sp c s ∧ ∀ j, f ≤ j → j < i → s.data.toList[j]? ≠ some c) ∨ (i = s.size + 1 ∧ o = sp c s)
theorem Spl.start (c : UInt8) (s : ByteArray) : Spl c s 0 0 [] := .inl ⟨Nat.zero_le _, Nat.le_refl _, Nat.le_refl _, by rw [ext_all]; rfl, fun j _ h => absurd h (Nat.not_lt_zero _)⟩
theorem Spl.skip {c : UInt8} {s : ByteArray} {f i : Nat} {o : List ByteArray} (h : Spl c s f i o) (hi : i < s.size) (hn : s.data.toList[i]? ≠ some c) : Spl c s f (i + 1) o := by
  rcases h with ⟨h1, h2, h3, h4, h5⟩ | ⟨h1, _⟩
  · exact .inl ⟨by omega, by omega, h3, h4, fun j hj hj' => by
      rcases Nat.lt_or_ge j i with h | h
      · exact h5 j hj h
      · obtain rfl : j = i := by omega
        exact hn⟩
  · omega
theorem Spl.hit {c : UInt8} {s : ByteArray} {f i : Nat} {o : List ByteArray} (h : Spl c s f i o) (hi : i < s.size) (hn : s.data.toList[i]? = some c) : Spl c s (i + 1) (i + 1) (o ++ [s.extract f i]) := by
  rcases h with ⟨h1, h2, h3, h4, h5⟩ | ⟨h1, _⟩
  · refine .inl ⟨by omega, Nat.le_refl _, by simp; omega, ?_, fun j hj hj' => by omega⟩
    rw [← h4, step_hit h2 hi hn h5, List.append_assoc]; rfl
  · omega
theorem Spl.last {c : UInt8} {s : ByteArray} {f : Nat} {o : List ByteArray} (h : Spl c s f s.size o) : Spl c s (s.size + 1) (s.size + 1) (o ++ [s.extract f s.size]) := by
  rcases h with ⟨h1, h2, h3, h4, h5⟩ | ⟨h1, _⟩
  · refine .inr ⟨rfl, ?_⟩
    rw [← h4, step_end h5]
  · omega
theorem Spl.len {c : UInt8} {s : ByteArray} {f i : Nat} {o : List ByteArray} (h : Spl c s f i o) (hi : i ≤ s.size) : o.length ≤ i ∧ f ≤ i := by
  rcases h with ⟨h1, h2, h3, h4, h5⟩ | ⟨h1, _⟩
  · omega
  · omega
theorem Spl.done {c : UInt8} {s : ByteArray} {f i : Nat} {o : List ByteArray} (h : Spl c s f i o) (hi : s.size < i) : o = sp c s := by
  rcases h with ⟨h1, _⟩ | ⟨_, h⟩
  · omega
  · exact h
theorem sp_length (c : UInt8) (s : ByteArray) : (sp c s).length = countB s ⟨#[c]⟩ + 1 := splitB_all ⟨#[c]⟩ (by show 1 ≤ 1; omega) 0 _ s rfl
theorem count_le (c : UInt8) (s : ByteArray) : countB s ⟨#[c]⟩ ≤ s.size := countB_le ⟨#[c]⟩ (by show 1 ≤ 1; omega) s.size s (Nat.le_refl _)
/-- the pieces joined again -/
def joinC (c : UInt8) : List ByteArray → ByteArray
  | [] => ByteArray.empty
  | [x] => x
  | x :: y :: r => x ++ ⟨#[c]⟩ ++ joinC c (y :: r)
theorem ba_append (a b : ByteArray) : (a ++ b).data.toList = a.data.toList ++ b.data.toList := by simp
theorem cut_at {c : UInt8} {t : ByteArray} {m : Nat} (h : t.data.toList[m]? = some c) : t = t.extract 0 m ++ ⟨#[c]⟩ ++ t.extract (m + 1) t.size := by
  apply ba_ext
  obtain ⟨hm, hg⟩ := List.getElem?_eq_some_iff.1 h
  rw [ba_append, ba_append, ext_data, ext_data, List.drop_zero, List.take_of_length_le (l := t.data.toList) (i := t.size) (by rw [size_len]; exact Nat.le_refl _)]
  have : ([c] : List UInt8) = [t.data.toList[m]] := by rw [hg]
  show t.data.toList = List.take m t.data.toList ++ [c] ++ List.drop (m + 1) t.data.toList
  rw [this, List.append_assoc, List.singleton_append, ← List.drop_eq_getElem_cons hm, List.take_append_drop]
theorem join_sp (c : UInt8) : ∀ (k : Nat) (t : ByteArray), countB t ⟨#[c]⟩ = k → joinC c (sp c t) = t := by
  intro k
  induction k with
  | zero =>
    intro t hk
    unfold sp; rw [hk]; rfl
  | succ k ih =>
    intro t hk
    rcases indexB_cases t ⟨#[c]⟩ with hix | ⟨i, hix, _⟩
    · rw [countB_miss t _ hix] at hk; omega
    · have hc := countB_hit t ⟨#[c]⟩ i (by show 1 ≤ 1; omega) hix
      have e : (⟨#[c]⟩ : ByteArray).size = 1 := rfl
      rw [e] at hc
      have hb : indexByte t.data.toList c = (i : Int) := by rw [← indexB_c]; exact hix
      obtain ⟨h1, h2⟩ := indexByte_some hb
      rw [sp_hit h1 h2]
      have hr := ih (t.extract (i + 1) t.size) (by omega)
      have hne : ∃ y r, sp c (t.extract (i + 1) t.size) = y :: r := by
        have := sp_length c (t.extract (i + 1) t.size)
        cases hs : sp c (t.extract (i + 1) t.size) with
        | nil => rw [hs] at this; simp at this
        | cons y r => exact ⟨y, r, rfl⟩
      obtain ⟨y, r, hy⟩ := hne
      rw [hy] at hr ⊢
      show t.extract 0 i ++ ⟨#[c]⟩ ++ joinC c (y :: r) = t
      rw [hr]
      exact (cut_at h1).symm
end Go.Proofs.YtmfeheglpfndpaaDoor
