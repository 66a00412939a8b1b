/- Numbers as bytes, the highest first: plain laws. -/
import Derived.Test.YtjfnmlheehbojaaCBytes
namespace Go.Proofs.Ytjfnmlheehbojaa.VA
set_option linter.unusedSimpArgs false
set_option linter.unusedVariables false

def bitsOf (n : Nat) : Nat := if n = 0 then 0 else Nat.log2 n + 1
theorem bits_le (n k : Nat) : bitsOf n ≤ k ↔ n < 2 ^ k := by
  unfold bitsOf
  split
  · rename_i h
    subst h
    simp [Nat.two_pow_pos]
  · rename_i h
    rw [← Nat.log2_lt h]
    omega
def byteLen (n : Nat) : Nat := (bitsOf n + 7) / 8
theorem byteLen_le (n k : Nat) : byteLen n ≤ k ↔ n < 256 ^ k := by
  have e : 256 ^ k = 2 ^ (8 * k) := by rw [show (256 : Nat) = 2 ^ 8 by decide, ← Nat.pow_mul]
  rw [e, ← bits_le]
  unfold byteLen
  omega
theorem byteLen_lt (n : Nat) : n < 256 ^ byteLen n := (byteLen_le n _).1 (Nat.le_refl _)
theorem byteLen_ge (n : Nat) (h : byteLen n ≠ 0) : 256 ^ (byteLen n - 1) ≤ n := by
  by_cases e : n < 256 ^ (byteLen n - 1)
  · have := (byteLen_le n _).2 e
    omega
  · omega
theorem byteLen_eq {n k : Nat} (h1 : n < 256 ^ k) (h2 : k = 0 ∨ 256 ^ (k - 1) ≤ n) : byteLen n = k := by
  have h3 := (byteLen_le n k).2 h1
  rcases h2 with rfl | h2
  · omega
  · by_cases e : byteLen n ≤ k - 1
    · have := (byteLen_le n _).1 e
      omega
    · omega
/-- The lowest k bytes. -/
def low : Nat → Nat → List UInt8
  | 0, _ => []
  | k + 1, n => UInt8.ofNat (n / 256 ^ k) :: low k n
theorem low_len : ∀ k n, (low k n).length = k
  | 0, _ => rfl
  | k + 1, n => by rw [low, List.length_cons, low_len k n]
theorem low_get : ∀ (k n i : Nat), i < k → (low k n)[i]? = some (UInt8.ofNat (n / 256 ^ (k - 1 - i)))
  | 0, _, _, h => by omega
  | k + 1, n, 0, _ => by rw [low]; rfl
  | k + 1, n, i + 1, h => by
    rw [low, List.getElem?_cons_succ, low_get k n i (by omega), show k + 1 - 1 - (i + 1) = k - 1 - i by omega]
def bytesOf (n : Nat) : List UInt8 := low (byteLen n) n
theorem bytesOf_len (n : Nat) : (bytesOf n).length = byteLen n := low_len _ _
/-- The number that bytes are. -/
def numOf (s : List UInt8) : Nat := s.foldl (fun a b => a * 256 + b.toNat) 0
theorem foldl_val : ∀ (s : List UInt8) (a : Nat), s.foldl (fun a b => a * 256 + b.toNat) a = a * 256 ^ s.length + numOf s
  | [], a => by simp [numOf]
  | b :: s, a => by
    have e : numOf (b :: s) = b.toNat * 256 ^ s.length + numOf s := by
      show (b :: s).foldl (fun a b => a * 256 + b.toNat) 0 = _
      rw [List.foldl_cons, foldl_val s, Nat.zero_mul, Nat.zero_add]
    rw [e, List.foldl_cons, foldl_val s, List.length_cons, Nat.pow_succ]
    rw [Nat.add_mul, Nat.mul_assoc, Nat.mul_comm 256, Nat.add_assoc]
theorem numOf_nil : numOf [] = 0 := rfl
theorem numOf_cons (b : UInt8) (s : List UInt8) : numOf (b :: s) = b.toNat * 256 ^ s.length + numOf s := by
  rw [numOf, List.foldl_cons, foldl_val]; simp
theorem numOf_lt : ∀ s : List UInt8, numOf s < 256 ^ s.length
  | [] => by decide
  | b :: s => by
    have h1 := numOf_lt s
    have h2 : b.toNat < 256 := b.toNat_lt
    rw [numOf_cons, List.length_cons, Nat.pow_succ]
    have : (b.toNat + 1) * 256 ^ s.length ≤ 256 * 256 ^ s.length := Nat.mul_le_mul_right _ h2
    rw [Nat.add_mul, Nat.one_mul, Nat.mul_comm 256] at this
    omega
theorem low_val : ∀ (k n : Nat), numOf (low k n) = n % 256 ^ k
  | 0, n => by rw [low, numOf_nil, Nat.pow_zero, Nat.mod_one]
  | k + 1, n => by
    rw [low, numOf_cons, low_len, low_val k n]
    have : (UInt8.ofNat (n / 256 ^ k)).toNat = n / 256 ^ k % 256 := by simp
    rw [this, Nat.pow_succ, Nat.mod_mul, Nat.mul_comm (256 ^ k)]
    omega
theorem bytesOf_val (n : Nat) : numOf (bytesOf n) = n := by
  unfold bytesOf
  rw [low_val, Nat.mod_eq_of_lt (byteLen_lt n)]
theorem low_mod {k m : Nat} (h : k ≤ m) (n : Nat) : low k (n % 256 ^ m) = low k n := by
  refine List.ext_getElem? fun i => ?_
  by_cases hi : i < k
  · rw [low_get _ _ _ hi, low_get _ _ _ hi]
    congr 1
    apply UInt8.toNat_inj.1
    simp only [UInt8.toNat_ofNat']
    have e : (256 : Nat) ^ m = 256 ^ (k - 1 - i) * 256 ^ (m - (k - 1 - i)) := by rw [← Nat.pow_add]; congr 1; omega
    have e2 : (256 : Nat) ^ (m - (k - 1 - i)) = 256 * 256 ^ (m - (k - 1 - i) - 1) := by
      conv => lhs; rw [show m - (k - 1 - i) = (m - (k - 1 - i) - 1) + 1 by omega, Nat.pow_succ, Nat.mul_comm]
    rw [e, Nat.mod_mul_right_div_self, e2]
    show _ % 2 ^ 8 = _ % 2 ^ 8
    rw [show (2 : Nat) ^ 8 = 256 by decide, Nat.mod_mul_right_mod]
  · rw [List.getElem?_eq_none (by rw [low_len]; omega), List.getElem?_eq_none (by rw [low_len]; omega)]
theorem low_numOf (s : List UInt8) : low s.length (numOf s) = s := by
  induction s with
  | nil => rfl
  | cons b s ih =>
    rw [List.length_cons, low, numOf_cons]
    have h1 := numOf_lt s
    have h2 : b.toNat < 256 := b.toNat_lt
    have e1 : (b.toNat * 256 ^ s.length + numOf s) / 256 ^ s.length = b.toNat := by
      rw [Nat.mul_comm, Nat.mul_add_div (by exact Nat.pow_pos (by decide)), Nat.div_eq_of_lt h1, Nat.add_zero]
    have e2 : low s.length (b.toNat * 256 ^ s.length + numOf s) = low s.length (numOf s) := by
      rw [← low_mod (Nat.le_refl _), Nat.mul_comm, Nat.mul_add_mod, Nat.mod_eq_of_lt h1]
    rw [e1, e2, ih]
    congr 1
    exact UInt8.ofNat_toNat
theorem bytesOf_numOf {s : List UInt8} (h : s.head? ≠ some 0) : byteLen (numOf s) = s.length ∧ bytesOf (numOf s) = s := by
  have e : byteLen (numOf s) = s.length := by
    refine byteLen_eq (numOf_lt s) ?_
    cases s with
    | nil => exact .inl rfl
    | cons b s =>
      refine .inr ?_
      rw [List.length_cons, Nat.add_sub_cancel, numOf_cons]
      have : b ≠ 0 := fun e => h (by rw [e]; rfl)
      have : b.toNat ≠ 0 := fun e => this (UInt8.toNat_inj.1 (by rw [e]; rfl))
      have : 1 * 256 ^ s.length ≤ b.toNat * 256 ^ s.length := Nat.mul_le_mul_right _ (by omega)
      omega
  refine ⟨e, ?_⟩
  unfold bytesOf
  rw [e, low_numOf]
theorem bytesOf_head (n : Nat) : (bytesOf n).head? ≠ some 0 := by
  unfold bytesOf
  cases hk : byteLen n with
  | zero => simp [low]
  | succ k =>
    rw [low, List.head?_cons]
    intro e
    have e := congrArg UInt8.toNat (Option.some.inj e)
    have h1 := byteLen_ge n (by omega)
    have h2 := byteLen_lt n
    rw [hk] at h1 h2
    rw [Nat.add_sub_cancel] at h1
    have h3 : n / 256 ^ k < 256 := Nat.div_lt_of_lt_mul (by rw [Nat.pow_succ] at h2; exact h2)
    have h4 : 1 ≤ n / 256 ^ k := (Nat.one_le_div_iff (Nat.pow_pos (by decide))).2 h1
    have e : n / 256 ^ k % 2 ^ 8 = 0 := by simpa using e
    rw [Nat.mod_eq_of_lt h3] at e
    omega
theorem numOf_append (s t : List UInt8) : numOf (s ++ t) = numOf s * 256 ^ t.length + numOf t := by
  rw [numOf, List.foldl_append, foldl_val]; rfl
theorem numOf_snoc (s : List UInt8) (b : UInt8) : numOf (s ++ [b]) = numOf s * 256 + b.toNat := by
  rw [numOf_append, numOf_cons, numOf_nil]; simp
/-- From the end: one byte more at the front. -/
theorem numOf_drop {s : List UInt8} {i : Nat} {b : UInt8} (h : s[i]? = some b) : numOf (s.drop i) = b.toNat * 256 ^ (s.length - 1 - i) + numOf (s.drop (i + 1)) := by
  obtain ⟨hi, rfl⟩ := List.getElem?_eq_some_iff.1 h
  rw [← List.getElem_cons_drop hi, numOf_cons, List.length_drop]
  congr 3
  omega
end Go.Proofs.Ytjfnmlheehbojaa.VA
