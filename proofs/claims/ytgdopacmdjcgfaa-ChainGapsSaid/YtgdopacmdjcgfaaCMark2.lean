/- MarkTells: the law's function answers true for every list of texts. -/
import Derived.Test.YtgdopacmdjcgfaaCMark
import Derived.Test.YtgdopacmdjcgfaaCBytes
namespace Go.Proofs.Ytgdopacmdjcgfaa.VA
set_option maxRecDepth 10000
set_option linter.unusedSimpArgs false
set_option linter.unusedVariables false

theorem takeStep_nat (m : Nat) (b : UInt8) (hm : m < 72057594037927936) : takeStep (m : Int) b = ((m * 256 + b.toNat : Nat) : Int) := by
  have hb : b.toNat < 256 := b.toNat_lt
  have h8 : (2 : Int) ^ (min 8 IntKind.u64.bits) = 256 := by decide
  unfold takeStep
  rw [h8, wu64 (x := (m : Int) * 256) (by omega) (by omega), wu64 (x := (b.toNat : Int)) (by omega) (by omega)]
  have e1 : ((m : Int) * 256) = ((m * 256 : Nat) : Int) := by simp
  rw [e1, show IntKind.u64.bits = 64 from rfl, ofInt_nat, ofInt_nat, BitVec.toNat_or]
  have e2 : (BitVec.ofNat 64 (m * 256)).toNat = m * 256 := by rw [BitVec.toNat_ofNat]; omega
  have e3 : (BitVec.ofNat 64 b.toNat).toNat = b.toNat := by rw [BitVec.toNat_ofNat]; omega
  rw [e2, e3]
  have e4 : m * 256 ||| b.toNat = m * 256 + b.toNat := by
    have := Nat.two_pow_add_eq_or_of_lt (i := 8) hb m
    rw [Nat.mul_comm m 256]
    exact this.symm
  rw [e4, wu64 (by omega) (by omega)]
theorem byteAt_nat (m : Nat) (k j : Nat) (hk : k ≤ 64) (hj : 2 ^ k = j) : (byteAt (m : Int) (k : Int)).toNat = m / j % 256 := by
  unfold byteAt
  have e0 : min ((k : Int)).toNat IntKind.u64.bits = k := by rw [Int.toNat_natCast]; exact Nat.min_eq_left hk
  rw [e0]
  have e1 : ((m : Int)).fdiv (2 ^ k) = ((m / j : Nat) : Int) := by
    rw [← hj, Int.fdiv_eq_ediv_of_nonneg _ (by exact Int.le_of_lt (Int.pow_pos (by decide)))]
    simp
  rw [e1, IntKind.wrap_u8]
  have e2 : (((m / j : Nat) : Int) % 256).toNat = m / j % 256 := by omega
  rw [e2]
  simp
theorem take_step (q : Nat) (hq : q < 18446744073709551616) (b : UInt8) (hb : b.toNat = q % 256) (p : Nat) (hp : p = q / 256) : takeStep (p : Int) b = (q : Int) := by
  subst hp
  rw [takeStep_nat _ _ (by omega), hb]
  congr 1
  omega
theorem take_text (m : Nat) (hm : m < 18446744073709551616) : takeOf (textOf (m : Int)) = ((m : Int), true) := by
  unfold takeOf textOf
  rw [if_pos (show [byteAt (m : Int) 56, byteAt m 48, byteAt m 40, byteAt m 32, byteAt m 24, byteAt m 16, byteAt m 8, byteAt m 0].length = 8 from rfl)]
  simp only [List.foldl_cons, List.foldl_nil]
  have lt : ∀ k, m / k < 18446744073709551616 := fun k => Nat.lt_of_le_of_lt (Nat.div_le_self m k) hm
  have dd : ∀ k, m / (k * 256) = m / k / 256 := fun k => (Nat.div_div_eq_div_mul m k 256).symm
  have s7 := take_step (m / 72057594037927936) (lt _) (byteAt m 56) (byteAt_nat m 56 _ (by omega) (by decide)) 0 (by omega)
  have s6 := take_step (m / 281474976710656) (lt _) (byteAt m 48) (byteAt_nat m 48 _ (by omega) (by decide)) (m / 72057594037927936) (dd 281474976710656)
  have s5 := take_step (m / 1099511627776) (lt _) (byteAt m 40) (byteAt_nat m 40 _ (by omega) (by decide)) (m / 281474976710656) (dd 1099511627776)
  have s4 := take_step (m / 4294967296) (lt _) (byteAt m 32) (byteAt_nat m 32 _ (by omega) (by decide)) (m / 1099511627776) (dd 4294967296)
  have s3 := take_step (m / 16777216) (lt _) (byteAt m 24) (byteAt_nat m 24 _ (by omega) (by decide)) (m / 4294967296) (dd 16777216)
  have s2 := take_step (m / 65536) (lt _) (byteAt m 16) (byteAt_nat m 16 _ (by omega) (by decide)) (m / 16777216) (dd 65536)
  have s1 := take_step (m / 256) (lt _) (byteAt m 8) (byteAt_nat m 8 _ (by omega) (by decide)) (m / 65536) (dd 256)
  have s0 := take_step m hm (byteAt m 0) (by rw [show (0 : Int) = ((0 : Nat) : Int) from rfl, byteAt_nat m 0 1 (by omega) (by decide), Nat.div_one]) (m / 256) rfl
  rw [show takeStep 0 (byteAt (m : Int) 56) = takeStep ((0 : Nat) : Int) (byteAt (m : Int) 56) from rfl, s7, s6, s5, s4, s3, s2, s1, s0]

theorem markFrom_range (s : List UInt8) : ∀ m : Int, 0 ≤ m → m < 18446744073709551616 → 0 ≤ markFrom' m s ∧ markFrom' m s < 18446744073709551616 := by
  induction s with
  | nil => intro m h1 h2; exact ⟨h1, h2⟩
  | cons b s ih => intro m h1 h2; exact ih _ (u64_range _).1 (u64_range _).2
theorem take_text_mark (s : List UInt8) : takeOf (textOf (markOf s)) = (markOf s, true) := by
  obtain ⟨h1, h2⟩ := markFrom_range s 14695981039346656037 (by decide) (by decide)
  have := take_text (markOf s).toNat (by unfold markOf; omega)
  have e : ((markOf s).toNat : Int) = markOf s := Int.toNat_of_nonneg h1
  rw [e] at this
  exact this
end Go.Proofs.Ytgdopacmdjcgfaa.VA
