/- Plain facts on varints, scans and fixed-width numbers, as functions on lists of numbers: no program in sight. Conditions: none. -/
namespace Go.Proofs.Ytigmncilanejlaa.Plain

/-- The shortest varint of a number below 128^f. -/
def putF : Nat → Nat → List Nat
  | 0, _ => []
  | f + 1, u => if 127 < u then (u % 128 + 128) :: putF f (u / 128) else [u]
def put (u : Nat) : List Nat := putF 10 u
def vlen (u : Nat) : Nat := (put u).length

/-- A varint in so many bytes. -/
def pad : Nat → Nat → List Nat
  | 0, _ => []
  | n + 1, u => (if n = 0 then u % 128 else u % 128 + 128) :: pad n (u / 128)

theorem pad_length (n u : Nat) : (pad n u).length = n := by
  induction n generalizing u with
  | zero => rfl
  | succ n ih => simp [pad, ih]

theorem putF_pos (f u : Nat) (hf : 0 < f) : 0 < (putF f u).length := by
  cases f with
  | zero => omega
  | succ f => simp only [putF]; split <;> simp

theorem putF_le (f u : Nat) : (putF f u).length ≤ f := by
  induction f generalizing u with
  | zero => simp [putF]
  | succ f ih =>
    simp only [putF]; split
    · simp; exact ih _
    · simp

theorem putF_more (f u : Nat) (h : u < 128 ^ f) (hf : 0 < f) : putF (f + 1) u = putF f u := by
  induction f generalizing u with
  | zero => omega
  | succ f ih =>
    show (if 127 < u then (u % 128 + 128) :: putF (f + 1) (u / 128) else [u]) = (if 127 < u then (u % 128 + 128) :: putF f (u / 128) else [u])
    by_cases h1 : 127 < u
    · rw [if_pos h1, if_pos h1]
      have h2 : u / 128 < 128 ^ f := by
        rw [Nat.pow_succ] at h
        exact Nat.div_lt_of_lt_mul (by omega)
      cases f with
      | zero => simp at h; omega
      | succ f => rw [ih _ h2 (by omega)]
    · rw [if_neg h1, if_neg h1]

theorem putF_pad (f u : Nat) (h : u < 128 ^ f) : putF f u = pad (putF f u).length u := by
  induction f generalizing u with
  | zero => rfl
  | succ f ih =>
    simp only [putF]
    by_cases h1 : 127 < u
    · rw [if_pos h1]
      have h2 : u / 128 < 128 ^ f := by
        rw [Nat.pow_succ] at h
        exact Nat.div_lt_of_lt_mul (by omega)
      have hf : 0 < f := by
        rcases Nat.eq_zero_or_pos f with h0 | h0
        · subst h0; simp at h; omega
        · exact h0
      have hp := putF_pos f (u / 128) hf
      simp only [List.length_cons, pad]
      rw [if_neg (by omega), ← ih _ h2]
    · rw [if_neg h1]
      simp [pad, Nat.mod_eq_of_lt (by omega : u < 128)]

theorem pow10 : (18446744073709551616 : Nat) ≤ 128 ^ 10 := by decide

theorem put_pad (u : Nat) (h : u < 18446744073709551616) : put u = pad (vlen u) u := putF_pad 10 u (Nat.lt_of_lt_of_le h pow10)
theorem vlen_pos (u : Nat) : 0 < vlen u := putF_pos 10 u (by omega)
theorem vlen_le (u : Nat) : vlen u ≤ 10 := putF_le 10 u

/-- the value fits what its length says -/
theorem putF_fits (f u : Nat) (h : u < 128 ^ f) : u < 128 ^ (putF f u).length := by
  induction f generalizing u with
  | zero => simpa [putF] using h
  | succ f ih =>
    simp only [putF]
    by_cases h1 : 127 < u
    · rw [if_pos h1]
      have h2 : u / 128 < 128 ^ f := by
        rw [Nat.pow_succ] at h
        exact Nat.div_lt_of_lt_mul (by omega)
      have := ih _ h2
      simp only [List.length_cons, Nat.pow_succ]
      omega
    · rw [if_neg h1]; simp; omega
theorem vlen_fits (u : Nat) (h : u < 18446744073709551616) : u < 128 ^ vlen u := putF_fits 10 u (Nat.lt_of_lt_of_le h pow10)

/-- One more byte of padding. -/
def bump : List Nat → List Nat
  | [] => []
  | [x] => [x + 128]
  | x :: y :: r => x :: bump (y :: r)
theorem pad_succ (n u : Nat) (h : u < 128 ^ (n + 1)) : pad (n + 2) u = bump (pad (n + 1) u) ++ [0] := by
  induction n generalizing u with
  | zero =>
    simp at h
    have : u / 128 = 0 := Nat.div_eq_of_lt h
    simp [pad, bump, this]
  | succ n ih =>
    have h2 : u / 128 < 128 ^ (n + 1) := by
      rw [Nat.pow_succ] at h
      exact Nat.div_lt_of_lt_mul (by omega)
    have := ih (u / 128) h2
    rw [pad, this, if_neg (by omega)]
    simp only [pad]
    simp [bump]

/-- Decoding: (value, bytes taken, code), k bytes done, u so far. -/
def gv : List Nat → Nat → Nat → Nat × Nat × Nat
  | [], k, _ => (0, k, 1)
  | b :: r, k, u => if k = 9 ∧ 1 < b then (0, 9, 2) else if b < 128 then (u + b * 2 ^ (7 * k), k + 1, 0) else gv r (k + 1) (u + (b - 128) * 2 ^ (7 * k))

theorem pow7 (k : Nat) : (128 : Nat) ^ k = 2 ^ (7 * k) := by rw [Nat.pow_mul]

/-- A varint in n bytes decodes to its number. -/
theorem gv_pad (n u k acc : Nat) (r : List Nat) (hn : 0 < n) (hk : n + k ≤ 10) (h : u < 128 ^ n) (h64 : u * 2 ^ (7 * k) < 18446744073709551616) :
    gv (pad n u ++ r) k acc = (acc + u * 2 ^ (7 * k), k + n, 0) := by
  induction n generalizing u k acc with
  | zero => omega
  | succ n ih =>
    simp only [pad, List.cons_append, gv]
    by_cases h0 : n = 0
    · subst h0
      simp at h
      have hm : u % 128 = u := Nat.mod_eq_of_lt h
      have h9 : ¬ (k = 9 ∧ 1 < u) := by
        rintro ⟨rfl, h1⟩
        simp at h64
        omega
      rw [if_pos rfl, hm, if_neg h9, if_pos h]
    · have hlt : ¬ (k = 9 ∧ 1 < u % 128 + 128) := by omega
      rw [if_neg h0, if_neg hlt, if_neg (by omega)]
      have h2 : u / 128 < 128 ^ n := by
        rw [Nat.pow_succ] at h
        exact Nat.div_lt_of_lt_mul (by omega)
      have e : 2 ^ (7 * (k + 1)) = 128 * 2 ^ (7 * k) := by
        rw [← pow7, ← pow7, Nat.pow_succ, Nat.mul_comm]
      have hu : u = 128 * (u / 128) + u % 128 := by omega
      have h3 : u / 128 * 2 ^ (7 * (k + 1)) + u % 128 * 2 ^ (7 * k) = u * 2 ^ (7 * k) := by
        rw [e]
        calc u / 128 * (128 * 2 ^ (7 * k)) + u % 128 * 2 ^ (7 * k) = (128 * (u / 128) + u % 128) * 2 ^ (7 * k) := by
              rw [Nat.add_mul, Nat.mul_left_comm, Nat.mul_assoc]
          _ = u * 2 ^ (7 * k) := by rw [← hu]
      rw [ih (u / 128) (k + 1) _ (by omega) (by omega) h2 (by omega)]
      have h4 : acc + (u % 128 + 128 - 128) * 2 ^ (7 * k) + u / 128 * 2 ^ (7 * (k + 1)) = acc + u * 2 ^ (7 * k) := by
        rw [show u % 128 + 128 - 128 = u % 128 from by omega]; omega
      rw [h4, show k + 1 + n = k + (n + 1) from by omega]

/-- A varint that is cut off: more is wanted. -/
theorem gv_cut (n u k acc m : Nat) (hm : m < n) (hk : n + k ≤ 10) : gv ((pad n u).take m) k acc = (0, k + m, 1) := by
  induction n generalizing u k acc m with
  | zero => omega
  | succ n ih =>
    cases m with
    | zero => simp [gv]
    | succ m =>
      simp only [pad, List.take_succ_cons, gv]
      have h0 : n ≠ 0 := by omega
      have hlt : ¬ (k = 9 ∧ 1 < u % 128 + 128) := by omega
      rw [if_neg h0, if_neg hlt, if_neg (by omega), ih _ _ _ _ (by omega) (by omega)]
      rw [show k + 1 + m = k + (m + 1) from by omega]

/-- Where it decodes, code 0: the bytes taken are the value's, padded. -/
theorem gv_read (l : List Nat) (k acc : Nat) (hk : k ≤ 9) (hl : ∀ b ∈ l, b < 256) (h : (gv l k acc).2.2 = 0) :
    ∃ v n, gv l k acc = (acc + v * 2 ^ (7 * k), k + n, 0) ∧ 0 < n ∧ n + k ≤ 10 ∧ n ≤ l.length ∧ pad n v = l.take n ∧ v < 128 ^ n ∧ v * 2 ^ (7 * k) < 18446744073709551616 := by
  induction l generalizing k acc with
  | nil => simp [gv] at h
  | cons b r ih =>
    simp only [gv] at h ⊢
    have hb : b < 256 := hl b (by simp)
    by_cases h9 : k = 9 ∧ 1 < b
    · rw [if_pos h9] at h; simp at h
    · rw [if_neg h9] at h ⊢
      by_cases h1 : b < 128
      · rw [if_pos h1] at h ⊢
        refine ⟨b, 1, rfl, by omega, by omega, by simp, by simp [pad, Nat.mod_eq_of_lt h1], by simpa using h1, ?_⟩
        by_cases hk9 : k = 9
        · subst hk9; have : b ≤ 1 := by omega
          calc b * 2 ^ (7 * 9) ≤ 1 * 2 ^ (7 * 9) := Nat.mul_le_mul_right _ this
            _ < _ := by decide
        · calc b * 2 ^ (7 * k) ≤ 127 * 2 ^ (7 * 8) := Nat.mul_le_mul (by omega) (Nat.pow_le_pow_right (by omega) (by omega))
            _ < _ := by decide
      · rw [if_neg h1] at h ⊢
        have hk8 : k ≤ 8 := by omega
        obtain ⟨v, n, e, hn, hnk, hnl, hp, hv, h64⟩ := ih (k + 1) _ (by omega) (fun x hx => hl x (by simp [hx])) h
        have e7 : 2 ^ (7 * (k + 1)) = 128 * 2 ^ (7 * k) := by rw [← pow7, ← pow7, Nat.pow_succ, Nat.mul_comm]
        have hval : (b - 128 + 128 * v) * 2 ^ (7 * k) = (b - 128) * 2 ^ (7 * k) + v * 2 ^ (7 * (k + 1)) := by
          rw [e7, Nat.add_mul, Nat.mul_comm 128 v, Nat.mul_assoc]
        refine ⟨b - 128 + 128 * v, n + 1, ?_, by omega, by omega, by simp; omega, ?_, ?_, ?_⟩
        · rw [e, hval, show k + 1 + n = k + (n + 1) from by omega, Nat.add_assoc]
        · simp only [pad, List.take_succ_cons]
          rw [if_neg (by omega), show (b - 128 + 128 * v) % 128 + 128 = b from by omega, show (b - 128 + 128 * v) / 128 = v from by omega, hp]
        · rw [Nat.pow_succ]; omega
        · rw [hval]
          have h127 : (b - 128) * 2 ^ (7 * k) < 2 ^ (7 * (k + 1)) := by
            rw [e7]; exact Nat.mul_lt_mul_of_pos_right (by omega) (Nat.pow_pos (by omega))
          have hd : v * 2 ^ (7 * (k + 1)) + 2 ^ (7 * (k + 1)) ≤ 18446744073709551616 := by
            have hk1 : k + 1 ≤ 9 := by omega
            obtain ⟨c, hc⟩ : ∃ c, 18446744073709551616 = c * 2 ^ (7 * (k + 1)) := ⟨2 ^ (64 - 7 * (k + 1)), by rw [← Nat.pow_add, show 64 - 7 * (k + 1) + 7 * (k + 1) = 64 from by omega]⟩
            rw [hc] at h64 ⊢
            have : v < c := Nat.lt_of_mul_lt_mul_right h64
            calc v * 2 ^ (7 * (k + 1)) + 2 ^ (7 * (k + 1)) = (v + 1) * 2 ^ (7 * (k + 1)) := (Nat.succ_mul _ _).symm
              _ ≤ _ := Nat.mul_le_mul_right _ this
          omega

/- the loop that counts -/
def LenRel (u k v : Nat) : Prop := v < 128 ^ (11 - k) ∧ 1 ≤ k ∧ k ≤ 10 ∧ vlen u + 1 = k + (putF (11 - k) v).length
theorem LenRel.start (u : Nat) (h : u < 18446744073709551616) : LenRel u 1 u := ⟨Nat.lt_of_lt_of_le h pow10, by omega, by omega, by simp [vlen, put, Nat.add_comm]⟩
theorem LenRel.step {u k v : Nat} (h : LenRel u k v) (hv : 127 < v) : LenRel u (k + 1) (v / 128) := by
  obtain ⟨h1, h2, h3, h4⟩ := h
  have hk : k ≤ 9 := by
    rcases Nat.lt_or_ge k 10 with h | h
    · omega
    · have : k = 10 := by omega
      subst this; simp at h1; omega
  obtain ⟨f, hf⟩ : ∃ f, 11 - k = f + 1 := ⟨10 - k, by omega⟩
  have hf' : 11 - (k + 1) = f := by omega
  rw [hf] at h1 h4
  refine ⟨?_, by omega, by omega, ?_⟩
  · rw [hf']; rw [Nat.pow_succ] at h1; exact Nat.div_lt_of_lt_mul (by omega)
  · rw [hf']; simp only [putF] at h4; rw [if_pos hv] at h4; simp only [List.length_cons] at h4; omega
theorem LenRel.stop {u k v : Nat} (h : LenRel u k v) (hv : ¬ 127 < v) : k = vlen u := by
  obtain ⟨h1, h2, h3, h4⟩ := h
  obtain ⟨f, hf⟩ : ∃ f, 11 - k = f + 1 := ⟨10 - k, by omega⟩
  rw [hf] at h4; simp only [putF] at h4; rw [if_neg hv] at h4; simp at h4; omega

/- the loop that appends -/
def PutRel (u : Nat) (l : List Nat) (v : Nat) : Prop := l.length ≤ 9 ∧ v < 128 ^ (10 - l.length) ∧ put u = l ++ putF (10 - l.length) v
theorem PutRel.start (u : Nat) (h : u < 18446744073709551616) : PutRel u [] u := ⟨by simp, Nat.lt_of_lt_of_le h pow10, rfl⟩
theorem PutRel.step {u v : Nat} {l : List Nat} (h : PutRel u l v) (hv : 127 < v) : PutRel u (l ++ [v % 128 + 128]) (v / 128) := by
  obtain ⟨h1, h2, h3⟩ := h
  have h8 : l.length ≤ 8 := by
    rcases Nat.lt_or_ge l.length 9 with h | h
    · omega
    · have : l.length = 9 := by omega
      rw [this] at h2; simp at h2; omega
  obtain ⟨f, hf⟩ : ∃ f, 10 - l.length = f + 1 := ⟨9 - l.length, by omega⟩
  have hf' : 10 - (l ++ [v % 128 + 128]).length = f := by simp; omega
  rw [hf] at h2 h3
  refine ⟨by simp; omega, ?_, ?_⟩
  · rw [hf']; rw [Nat.pow_succ] at h2; exact Nat.div_lt_of_lt_mul (by omega)
  · rw [hf', h3]; simp only [putF]; rw [if_pos hv]; simp
theorem PutRel.stop {u v : Nat} {l : List Nat} (h : PutRel u l v) (hv : ¬ 127 < v) : l ++ [v] = put u := by
  obtain ⟨h1, h2, h3⟩ := h
  obtain ⟨f, hf⟩ : ∃ f, 10 - l.length = f + 1 := ⟨9 - l.length, by omega⟩
  rw [hf] at h3; rw [h3]; simp only [putF]; rw [if_neg hv]

/- the loop that stores -/
def hiF : Nat → Nat → List Nat
  | 0, _ => []
  | n + 1, u => (u % 128 + 128) :: hiF n (u / 128)
theorem hiF_length (n u : Nat) : (hiF n u).length = n := by
  induction n generalizing u with
  | zero => rfl
  | succ n ih => simp [hiF, ih]
theorem hiF_snoc (n u : Nat) : hiF (n + 1) u = hiF n u ++ [u / 128 ^ n % 128 + 128] := by
  induction n generalizing u with
  | zero => simp [hiF]
  | succ n ih =>
    rw [hiF, ih]
    simp only [hiF, List.cons_append]
    rw [Nat.div_div_eq_div_mul, Nat.pow_succ, Nat.mul_comm (128 ^ n) 128]
def StoreL (n i u : Nat) : List Nat := hiF i u ++ List.replicate (n - i) 0
theorem StoreL_length {n i : Nat} (u : Nat) (h : i ≤ n) : (StoreL n i u).length = n := by simp [StoreL, hiF_length]; omega
theorem StoreL_step {n i : Nat} (u : Nat) (h : i < n) : (StoreL n i u).set i (u / 128 ^ i % 128 + 128) = StoreL n (i + 1) u := by
  obtain ⟨m, hm⟩ : ∃ m, n - i = m + 1 := ⟨n - i - 1, by omega⟩
  have hm' : n - (i + 1) = m := by omega
  unfold StoreL
  rw [hm, hm', hiF_snoc, List.replicate_succ, List.set_append_right _ _ (by rw [hiF_length]; exact Nat.le_refl _), hiF_length]
  simp
theorem pad_hi (n u : Nat) : pad (n + 1) u = hiF n u ++ [u / 128 ^ n % 128] := by
  induction n generalizing u with
  | zero => simp [pad, hiF]
  | succ n ih =>
    rw [pad, ih, if_neg (by omega)]
    simp only [hiF, List.cons_append]
    rw [Nat.div_div_eq_div_mul, Nat.pow_succ, Nat.mul_comm (128 ^ n) 128]
theorem StoreL_last {n : Nat} (u : Nat) (h : 0 < n) : (StoreL n n u).getD (n - 1) 0 = u / 128 ^ (n - 1) % 128 + 128 ∧ (StoreL n n u).set (n - 1) (u / 128 ^ (n - 1) % 128) = pad n u := by
  obtain ⟨m, rfl⟩ : ∃ m, n = m + 1 := ⟨n - 1, by omega⟩
  unfold StoreL
  simp only [Nat.sub_self, List.replicate_zero, List.append_nil, Nat.add_sub_cancel]
  rw [hiF_snoc, pad_hi]
  constructor
  · simp [List.getD, hiF_length]
  · rw [List.set_append_right _ _ (by rw [hiF_length]; exact Nat.le_refl _), hiF_length]; simp
theorem pad_last {n : Nat} (u : Nat) (h : 0 < n) : (pad n u).getD (n - 1) 0 = u / 128 ^ (n - 1) % 128 := by
  obtain ⟨m, rfl⟩ : ∃ m, n = m + 1 := ⟨n - 1, by omega⟩
  rw [pad_hi]; simp [List.getD, hiF_length]
theorem pad_grow {n : Nat} (u : Nat) (h : 0 < n) (hu : u < 128 ^ n) : (pad n u).set (n - 1) ((pad n u).getD (n - 1) 0 + 128) ++ [0] = pad (n + 1) u := by
  rw [pad_last u h]
  obtain ⟨m, rfl⟩ : ∃ m, n = m + 1 := ⟨n - 1, by omega⟩
  rw [pad_hi (m + 1), pad_hi m, hiF_snoc]
  simp only [Nat.add_sub_cancel]
  rw [List.set_append_right _ _ (by rw [hiF_length]; exact Nat.le_refl _), hiF_length]
  have : u / 128 ^ (m + 1) = 0 := Nat.div_eq_of_lt hu
  simp [this]
theorem pad_lt (n u : Nat) : ∀ b ∈ pad n u, b < 256 := by
  induction n generalizing u with
  | zero => simp [pad]
  | succ n ih =>
    intro b hb
    simp only [pad, List.mem_cons] at hb
    rcases hb with rfl | hb
    · split <;> omega
    · exact ih _ b hb
theorem put_lt (u : Nat) (h : u < 18446744073709551616) : ∀ b ∈ put u, b < 256 := by rw [put_pad u h]; exact pad_lt _ _
theorem pow_mono {a b : Nat} (h : a ≤ b) : (128 : Nat) ^ a ≤ 128 ^ b := Nat.pow_le_pow_right (by omega) h

/- decoding at a place: value, next place, code -/
def gvAll (l : List Nat) (at_ : Int) : Nat × Int × Nat :=
  if 0 ≤ at_ ∧ at_ ≤ l.length then
    let r := gv (l.drop at_.toNat) 0 0
    (r.1, at_ + r.2.1, r.2.2)
  else (0, 0, 1)
def GvRel (l : List Nat) (a k u : Nat) : Prop := a + k ≤ l.length ∧ k ≤ 9 ∧ u < 2 ^ (7 * k) ∧ gv (l.drop a) 0 0 = gv (l.drop (a + k)) k u
theorem GvRel.start {l : List Nat} {a : Nat} (h : a ≤ l.length) : GvRel l a 0 0 := ⟨h, by omega, by simp, rfl⟩
theorem gvAll_in {l : List Nat} {a : Nat} (h : a ≤ l.length) {v n c : Nat} (e : gv (l.drop a) 0 0 = (v, n, c)) : gvAll l (a : Int) = (v, (a : Int) + (n : Int), c) := by
  unfold gvAll
  rw [if_pos ⟨by omega, by omega⟩]
  simp [e]
theorem gvAll_out {l : List Nat} {a : Int} (h : a < 0 ∨ (l.length : Int) < a) : gvAll l a = (0, 0, 1) := by
  unfold gvAll; rw [if_neg (by omega)]
theorem GvRel.end_ {l : List Nat} {a k u : Nat} (h : GvRel l a k u) (he : a + k = l.length) : gvAll l (a : Int) = (0, (l.length : Int), 1) := by
  obtain ⟨h1, h2, h3, h4⟩ := h
  rw [gvAll_in (by omega) (h4.trans (by rw [List.drop_of_length_le (by omega), gv]))]
  rw [show (a : Int) + (k : Int) = (l.length : Int) from by omega]
theorem drop_cons {l : List Nat} {i : Nat} (h : i < l.length) : l.drop i = l.getD i 0 :: l.drop (i + 1) := by
  rw [List.drop_eq_getElem_cons h]; simp [List.getD, List.getElem?_eq_getElem h]
theorem GvRel.over {l : List Nat} {a u : Nat} (h : GvRel l a 9 u) (hlt : a + 9 < l.length) (hb : 1 < l.getD (a + 9) 0) : gvAll l (a : Int) = (0, (a : Int) + 9, 2) := by
  obtain ⟨h1, h2, h3, h4⟩ := h
  rw [gvAll_in (by omega) (h4.trans (by rw [drop_cons hlt, gv, if_pos ⟨rfl, hb⟩]))]; rfl
theorem GvRel.done {l : List Nat} {a k u : Nat} (h : GvRel l a k u) (hlt : a + k < l.length) (hn : ¬ (k = 9 ∧ 1 < l.getD (a + k) 0)) (hb : l.getD (a + k) 0 < 128) :
    gvAll l (a : Int) = (u + l.getD (a + k) 0 * 2 ^ (7 * k), (a : Int) + (k : Int) + 1, 0) := by
  obtain ⟨h1, h2, h3, h4⟩ := h
  rw [gvAll_in (by omega) (h4.trans (by rw [drop_cons hlt, gv, if_neg hn, if_pos hb]))]
  rw [show (a : Int) + ((k + 1 : Nat) : Int) = (a : Int) + (k : Int) + 1 from by omega]
theorem GvRel.step {l : List Nat} {a k u : Nat} (h : GvRel l a k u) (hlt : a + k < l.length) (hn : ¬ (k = 9 ∧ 1 < l.getD (a + k) 0)) (hb : ¬ l.getD (a + k) 0 < 128) (h256 : l.getD (a + k) 0 < 256) :
    GvRel l a (k + 1) (u + (l.getD (a + k) 0 - 128) * 2 ^ (7 * k)) := by
  obtain ⟨h1, h2, h3, h4⟩ := h
  refine ⟨by omega, by omega, ?_, ?_⟩
  · have e7 : 2 ^ (7 * (k + 1)) = 128 * 2 ^ (7 * k) := by rw [← pow7, ← pow7, Nat.pow_succ, Nat.mul_comm]
    rw [e7]
    calc u + (l.getD (a + k) 0 - 128) * 2 ^ (7 * k) < 2 ^ (7 * k) + (l.getD (a + k) 0 - 128) * 2 ^ (7 * k) := by omega
      _ = (l.getD (a + k) 0 - 128 + 1) * 2 ^ (7 * k) := by rw [Nat.add_comm]; exact (Nat.succ_mul _ _).symm
      _ ≤ 128 * 2 ^ (7 * k) := Nat.mul_le_mul_right _ (by omega)
  · rw [h4, drop_cons hlt, gv, if_neg hn, if_neg hb, Nat.add_assoc]

/-- what PadVar answers -/
def padVar (u : Nat) (k : Int) : List Nat := if (vlen u : Int) ≤ k ∧ k ≤ 10 then pad k.toNat u else []
theorem padVar_yes {u m : Nat} (h : vlen u ≤ m) (h2 : m ≤ 10) : padVar u (m : Int) = pad m u := by
  unfold padVar; rw [if_pos ⟨by omega, by omega⟩]; simp
theorem padVar_no' {u : Nat} {k : Int} (h : k < (vlen u : Int) ∨ 10 < k) : padVar u k = [] := by
  unfold padVar; rw [if_neg (by omega)]
theorem padVar_self (u : Nat) (h : u < 18446744073709551616) : padVar u (vlen u : Int) = put u := by
  rw [padVar_yes (Nat.le_refl _) (vlen_le u), ← put_pad u h]
theorem padVar_lt (u : Nat) (k : Int) : ∀ b ∈ padVar u k, b < 256 := by
  unfold padVar; split
  · exact pad_lt _ _
  · simp

end Go.Proofs.Ytigmncilanejlaa.Plain
