/- Bytes and numbers; small functions that many laws use. -/
import Derived.Test.YtjfnmlheehbojaaCLib
namespace Go.Proofs.Ytjfnmlheehbojaa.VA
set_option maxRecDepth 10000
set_option linter.unusedSimpArgs false
set_option linter.unusedVariables false
set_option maxHeartbeats 4000000

theorem wu64 {x : Int} (h1 : 0 ≤ x) (h2 : x < 18446744073709551616) : IntKind.u64.wrap x = x := by
  rw [IntKind.wrap_u64]; omega
theorem wu8 {x : Int} (h1 : 0 ≤ x) (h2 : x < 256) : IntKind.u8.wrap x = x := by
  rw [IntKind.wrap_u8]; omega
theorem ofInt_nat (n : Nat) : BitVec.ofInt 64 (n : Int) = BitVec.ofNat 64 n := by
  apply BitVec.eq_of_toNat_eq; simp
theorem u64_range (x : Int) : 0 ≤ IntKind.u64.wrap x ∧ IntKind.u64.wrap x < 18446744073709551616 := by
  rw [IntKind.wrap_u64]; omega
theorem asU8_map : ∀ s : List UInt8, asU8 (s.map u8) = some s
  | [] => rfl
  | b :: s => by
    have ih := asU8_map s
    have hb : b.toNat < 256 := b.toNat_lt
    simp only [List.map_cons, u8, asU8, ih, Option.map_some, Int.toNat_natCast] at *
    simp
theorem turned (b : UInt8) (x : Int) (h1 : 1 ≤ x) (h2 : x ≤ 255) : ∃ c : UInt8, b ≠ c ∧ AV.int .u8 (IntKind.u8.wrap (BitVec.ofInt IntKind.u8.bits (b.toNat : Int) ^^^ BitVec.ofInt IntKind.u8.bits x).toNat) = u8 c := by
  have hb : b.toNat < 256 := b.toNat_lt
  have e : IntKind.u8.bits = 8 := rfl
  rw [e]
  have hlt := (BitVec.ofInt 8 (b.toNat : Int) ^^^ BitVec.ofInt 8 x).isLt
  generalize hy : (BitVec.ofInt 8 (b.toNat : Int) ^^^ BitVec.ofInt 8 x) = y at hlt
  refine ⟨UInt8.ofNat y.toNat, fun e => ?_, ?_⟩
  · have e2 : BitVec.ofInt 8 (b.toNat : Int) = y := by
      apply BitVec.eq_of_toNat_eq
      rw [BitVec.toNat_ofInt, e, UInt8.toNat_ofNat']
      omega
    rw [e2] at hy
    have h3 := congrArg (y ^^^ ·) hy
    simp only [← BitVec.xor_assoc, BitVec.xor_self, BitVec.zero_xor] at h3
    have h4 := congrArg BitVec.toNat h3
    rw [BitVec.toNat_ofInt] at h4
    simp at h4
    omega
  · rw [wu8 (by omega) (by omega)]
    unfold u8
    congr 2
    rw [UInt8.toNat_ofNat']
    omega
theorem set_u8 (s : List UInt8) (k : Nat) (c : UInt8) : (s.map u8).set k (u8 c) = (s.set k c).map u8 := by rw [List.map_set]
def withinOf (i : Int) (n : Nat) : Nat := (i % 18446744073709551616).toNat % n
theorem c_Within (i : Int) (n : Nat) (h0 : 0 < n) (hn : n ≤ 9223372036854775807) : Contract Try.prog 32 [.int .i64 i, .int .i64 n] (.int .i64 (withinOf i n)) := by
  refine contract_of (C := cf 11 [0, 1, 4] (fun _ => [])) (cf_ok _ _ _) (fn := Try.f32) Try.func32 (by kernel_rfl) rfl (by kernel_rfl) (by simp [cf]) (plain2 (.int _ i) (.int _ n)) (by decide) (noCell (by kernel_rfl)) ?_
  simp only [go_sem, ↓reduceIte, Nat.reduceLT, Nat.reduceLeDiff, Nat.reduceAdd, Nat.reduceSub, Nat.reduceMul, Nat.reduceEqDiff, Nat.reduceBEq, Nat.reduceMod, Nat.reduceDiv, Int.reduceToNat, reduceCtorEq, Int.reduceLT, Int.reduceLE, Int.reduceGT, Int.reduceGE, Int.reduceAdd, Int.reduceSub, Int.reduceMul, Int.reduceNeg, Int.reduceEq, Int.reduceNe, Int.reduceBNe, Int.reduceBEq, Int.reduceDiv]
  have e1 : IntKind.u64.wrap (n : Int) = n := wu64 (by omega) (by omega)
  have h64 := u64_range i
  have e2 : IntKind.u64.wrap i = ((IntKind.u64.wrap i).toNat : Int) := by omega
  have e3 : (IntKind.u64.wrap i).toNat = (i % 18446744073709551616).toNat := by rw [IntKind.wrap_u64]
  have e4 : ((i % 18446744073709551616).toNat : Int).tmod (n : Int) = ((withinOf i n : Nat) : Int) := (Int.ofNat_tmod _ _).symm
  have e5 : withinOf i n < n := Nat.mod_lt _ h0
  refine And.intro (by rw [e1]; omega) ?_
  refine finOne ?_ (fun _ e => by cases e)
  show resOf _ _ [.tmp 4] = _
  simp only [go_sem, ↓reduceIte, Nat.reduceLT, Nat.reduceLeDiff, Nat.reduceAdd, Nat.reduceSub, Nat.reduceMul, Nat.reduceEqDiff, Nat.reduceBEq, Nat.reduceMod, Nat.reduceDiv, Int.reduceToNat, reduceCtorEq, Int.reduceLT, Int.reduceLE, Int.reduceGT, Int.reduceGE, Int.reduceAdd, Int.reduceSub, Int.reduceMul, Int.reduceNeg, Int.reduceEq, Int.reduceNe, Int.reduceBNe, Int.reduceBEq, Int.reduceDiv]
  rw [e1, e2, e3, e4, wi64 (by omega) (by omega)]

theorem c_Num (a b : Int) : Contract Try.prog 33 [.int .i64 a, .int .i64 b] (.bool (decide (0 ≤ a) && decide (a ≤ b))) := by
  refine contract_of (C := cf 12 [0, 1, 4] (fun _ => [])) (cf_ok _ _ _) (fn := Try.f33) Try.func33 (by kernel_rfl) rfl (by kernel_rfl) (by simp [cf]) (plain2 (.int _ a) (.int _ b)) (by decide) (noCell (by kernel_rfl)) ?_
  simp only [go_sem, ↓reduceIte, Nat.reduceLT, Nat.reduceLeDiff, Nat.reduceAdd, Nat.reduceSub, Nat.reduceMul, Nat.reduceEqDiff, Nat.reduceBEq, Nat.reduceMod, Nat.reduceDiv, Int.reduceToNat, reduceCtorEq, Int.reduceLT, Int.reduceLE, Int.reduceGT, Int.reduceGE, Int.reduceAdd, Int.reduceSub, Int.reduceMul, Int.reduceNeg, Int.reduceEq, Int.reduceNe, Int.reduceBNe, Int.reduceBEq, Int.reduceDiv]
  refine ex_joinB 4 (decide (0 ≤ a) && decide (a ≤ b)) ?_ ?_
  · repeat' (first | (refine ex_split (fun h => ?_) (fun h => ?_)) | (with_reducible refine And.intro (by omega) ?_) |
      (simp only [go_sem, ↓reduceIte, Nat.reduceLT, Nat.reduceLeDiff, Nat.reduceAdd, Nat.reduceSub, Nat.reduceMul, Nat.reduceEqDiff, Nat.reduceBEq, Nat.reduceMod, Nat.reduceDiv, Int.reduceToNat, reduceCtorEq, Int.reduceLT, Int.reduceLE, Int.reduceGT, Int.reduceGE, Int.reduceAdd, Int.reduceSub, Int.reduceMul, Int.reduceNeg, Int.reduceEq, Int.reduceNe, Int.reduceBNe, Int.reduceBEq, Int.reduceDiv]))
    all_goals (try simp only [ASt.mk.injEq, List.cons.injEq, Prod.mk.injEq, AV.bool.injEq, true_and, and_true, eq_self])
    all_goals first | (simp_all; done) | (simp_all; omega) | (rw [Bool.eq_iff_iff]; simp only [List.length_map, Bool.or_eq_true, Bool.and_eq_true, Bool.not_eq_true', Bool.not_eq_false', decide_eq_true_eq, decide_eq_false_iff_not, bne_iff_ne, beq_iff_eq, ne_eq, true_iff, iff_true, false_iff, iff_false, Bool.false_eq_true, not_false_eq_true, not_true_eq_false] at *; omega)
  simp only [go_sem, ↓reduceIte, Nat.reduceLT, Nat.reduceLeDiff, Nat.reduceAdd, Nat.reduceSub, Nat.reduceMul, Nat.reduceEqDiff, Nat.reduceBEq, Nat.reduceMod, Nat.reduceDiv, Int.reduceToNat, reduceCtorEq, Int.reduceLT, Int.reduceLE, Int.reduceGT, Int.reduceGE, Int.reduceAdd, Int.reduceSub, Int.reduceMul, Int.reduceNeg, Int.reduceEq, Int.reduceNe, Int.reduceBNe, Int.reduceBEq, Int.reduceDiv]
  refine finOne ?_ (fun _ e => by cases e)
  show resOf _ _ [.tmp 4] = _
  simp only [go_sem, ↓reduceIte, Nat.reduceLT, Nat.reduceLeDiff, Nat.reduceAdd, Nat.reduceSub, Nat.reduceMul, Nat.reduceEqDiff, Nat.reduceBEq, Nat.reduceMod, Nat.reduceDiv, Int.reduceToNat, reduceCtorEq, Int.reduceLT, Int.reduceLE, Int.reduceGT, Int.reduceGE, Int.reduceAdd, Int.reduceSub, Int.reduceMul, Int.reduceNeg, Int.reduceEq, Int.reduceNe, Int.reduceBNe, Int.reduceBEq, Int.reduceDiv]

end Go.Proofs.Ytjfnmlheehbojaa.VA
