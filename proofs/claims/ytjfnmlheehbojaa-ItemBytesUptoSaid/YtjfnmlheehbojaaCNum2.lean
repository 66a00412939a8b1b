/- Numbers of 256 bits: how many bits, bytes. -/
import Derived.Test.YtjfnmlheehbojaaCNum
import Derived.Test.YtjfnmlheehbojaaCU256
namespace Go.Proofs.Ytjfnmlheehbojaa.VA
set_option maxRecDepth 10000
set_option linter.unusedSimpArgs false
set_option linter.unusedVariables false
set_option maxHeartbeats 4000000

theorem u_small (n : Nat) (h : n < 18446744073709551616) : u n = .agg [.int .u64 n, .int .u64 (0 : Int), .int .u64 (0 : Int), .int .u64 (0 : Int)] :=
  u_eq (b := 0) (c := 0) (d := 0) h (by decide) (by decide) (by decide) (by omega)
theorem c_u256_Of (n : Nat) (h : n < 9223372036854775808) : Contract Try.prog 75 [.int .i64 n] (.tup [u n, .int .i64 0]) := by
  rw [u_small n (by omega)]
  refine contract_of (C := cf 10 [0, 2, 3, 5] (fun _ => [])) (cf_ok _ _ _) (fn := Try.f75) Try.func75 (by kernel_rfl) rfl (by kernel_rfl) (by simp [cf]) (plain1 (.int _ _)) (by decide) (cellsOk (by kernel_rfl)) ?_
  have w : IntKind.u64.wrap (n : Int) = n := wu64 (by omega) (by omega)
  have e : decide ((n : Int) < 0) = false := decide_eq_false (by omega)
  simp only [go_sem, ↓reduceIte, Nat.reduceLT, Nat.reduceLeDiff, Nat.reduceAdd, Nat.reduceSub, Nat.reduceMul, Nat.reduceEqDiff, Nat.reduceBEq, Nat.reduceMod, Nat.reduceDiv, Int.reduceToNat, reduceCtorEq, Int.reduceLT, Int.reduceLE, Int.reduceGT, Int.reduceGE, Int.reduceAdd, Int.reduceSub, Int.reduceMul, Int.reduceNeg, Int.reduceEq, Int.reduceNe, Int.reduceBNe, Int.reduceBEq, Int.reduceDiv, w, e]
  refine finTup ?_
  show resOf _ _ [.cell 2 99, .tmp 3] = _
  simp only [go_sem, ↓reduceIte, Nat.reduceLT, Nat.reduceLeDiff, Nat.reduceAdd, Nat.reduceSub, Nat.reduceMul, Nat.reduceEqDiff, Nat.reduceBEq, Nat.reduceMod, Nat.reduceDiv, Int.reduceToNat, reduceCtorEq, Int.reduceLT, Int.reduceLE, Int.reduceGT, Int.reduceGE, Int.reduceAdd, Int.reduceSub, Int.reduceMul, Int.reduceNeg, Int.reduceEq, Int.reduceNe, Int.reduceBNe, Int.reduceBEq, Int.reduceDiv]
theorem c_ref1_Of (n : Nat) (h : n < 9223372036854775808) : Contract Try.prog 72 [.int .i64 n] (u n) := by
  rw [u_small n (by omega)]
  refine contract_of (C := cf 6 [0, 2] (fun _ => [])) (cf_ok _ _ _) (fn := Try.f72) Try.func72 (by kernel_rfl) rfl (by kernel_rfl) (by simp [cf]) (plain1 (.int _ _)) (by decide) (cellsOk (by kernel_rfl)) ?_
  have w : IntKind.u64.wrap (n : Int) = n := wu64 (by omega) (by omega)
  simp only [go_sem, ↓reduceIte, Nat.reduceLT, Nat.reduceLeDiff, Nat.reduceAdd, Nat.reduceSub, Nat.reduceMul, Nat.reduceEqDiff, Nat.reduceBEq, Nat.reduceMod, Nat.reduceDiv, Int.reduceToNat, reduceCtorEq, Int.reduceLT, Int.reduceLE, Int.reduceGT, Int.reduceGE, Int.reduceAdd, Int.reduceSub, Int.reduceMul, Int.reduceNeg, Int.reduceEq, Int.reduceNe, Int.reduceBNe, Int.reduceBEq, Int.reduceDiv, w]
  refine finOne ?_ (fun _ e => by cases e)
  show resOf _ _ [.cell 2 99] = _
  simp only [go_sem, ↓reduceIte, Nat.reduceLT, Nat.reduceLeDiff, Nat.reduceAdd, Nat.reduceSub, Nat.reduceMul, Nat.reduceEqDiff, Nat.reduceBEq, Nat.reduceMod, Nat.reduceDiv, Int.reduceToNat, reduceCtorEq, Int.reduceLT, Int.reduceLE, Int.reduceGT, Int.reduceGE, Int.reduceAdd, Int.reduceSub, Int.reduceMul, Int.reduceNeg, Int.reduceEq, Int.reduceNe, Int.reduceBNe, Int.reduceBEq, Int.reduceDiv]
theorem bits_div (n k : Nat) : bitsOf (n / 2 ^ k) = bitsOf n - k := by
  have h : ∀ j, bitsOf (n / 2 ^ k) ≤ j ↔ bitsOf n ≤ j + k := fun j => by
    rw [bits_le, bits_le, Nat.div_lt_iff_lt_mul (Nat.two_pow_pos k), Nat.pow_add]
  have h1 := (h (bitsOf n - k)).2 (by omega)
  have h2 := (h (bitsOf (n / 2 ^ k))).1 (Nat.le_refl _)
  omega
def limbsOf (n : Nat) : Nat := (bitsOf n + 63) / 64
theorem limbs_eq {n i : Nat} (h1 : n < 2 ^ (64 * i)) (h2 : i = 0 ∨ 2 ^ (64 * (i - 1)) ≤ n) : limbsOf n = i := by
  have h3 := (bits_le n _).2 h1
  unfold limbsOf
  rcases h2 with rfl | h2
  · omega
  · have : ¬ bitsOf n ≤ 64 * (i - 1) := fun e => by
      have := (bits_le n _).1 e
      omega
    omega
theorem wi0 : IntKind.i64.wrap 0 = 0 := by decide
theorem wi1 : IntKind.i64.wrap 1 = 1 := by decide
theorem wi2 : IntKind.i64.wrap 2 = 2 := by decide
theorem wi3 : IntKind.i64.wrap 3 = 3 := by decide
theorem c_u256_limbs (n : Nat) (hn : n < U) : Contract Try.prog 78 [u n] (.int .i64 (limbsOf n)) := by
  obtain ⟨s0, s1, s2, s3, h0, h1, h2, h3, en⟩ := u_limbs n hn
  rw [u_eq h0 h1 h2 h3 en]
  refine contract_of (C := cf 16 [1, 2, 3, 12] (fun _ => [])) (cf_ok _ _ _) (fn := Try.f78) Try.func78 (by kernel_rfl) rfl (by kernel_rfl) (by simp [cf]) (plain1 (u4_plain _ _ _ _)) (by decide) (noCell (by kernel_rfl)) ?_
  simp only [go_sem, ↓reduceIte, Nat.reduceLT, Nat.reduceLeDiff, Nat.reduceAdd, Nat.reduceSub, Nat.reduceMul, Nat.reduceEqDiff, Nat.reduceBEq, Nat.reduceMod, Nat.reduceDiv, Int.reduceToNat, reduceCtorEq, Int.reduceLT, Int.reduceLE, Int.reduceGT, Int.reduceGE, Int.reduceAdd, Int.reduceSub, Int.reduceMul, Int.reduceNeg, Int.reduceEq, Int.reduceNe, Int.reduceBNe, Int.reduceBEq, Int.reduceDiv]
  refine ex_iter [1, 3] (fun i : Nat => ⟨[(1, .var 1 0), (3, .int .i64 i)], [(1, [.int .u64 s0, .int .u64 s1, .int .u64 s2, .int .u64 s3])]⟩) (fun i => i ≤ 4 ∧ n < 2 ^ (64 * i)) (fun i => i) 4 ?_ ?_ ?_
  · simp only [ASt.keep, consIf, keepL, keepV, AV.isBot, List.contains_cons, List.contains_nil, Nat.reduceBEq, Bool.or_false, Bool.false_or, Bool.or_true, Bool.true_or, beq_self_eq_true, Bool.false_eq_true, ↓reduceIte, if_false, if_true]
    rfl
  · exact ⟨Nat.le_refl _, by unfold U at hn; omega⟩
  · rintro r i ⟨hi, hlt⟩ next
    have fin : limbsOf n = i → True := fun _ => trivial
    have fin : ∀ {σ : ASt}, look σ.tmps 2 = some (.int .i64 i) → limbsOf n = i → BodyPost (cf 16 [1, 2, 3, 12] (fun _ => [])) Try.f78.results.toList (.int .i64 (limbsOf n)) .ret σ := fun h1 h2 => by
      refine finOne ?_ (fun _ e => by cases e)
      show resOf _ _ [.tmp 2] = _
      rw [h2]
      simp only [resOf, resAll, resOne, resCons, resTup, resTmp, h1, AV.isImm, if_true]
    obtain rfl | rfl | rfl | rfl | rfl : i = 0 ∨ i = 1 ∨ i = 2 ∨ i = 3 ∨ i = 4 := by omega
    · simp only [go_sem, ↓reduceIte, Nat.reduceLT, Nat.reduceLeDiff, Nat.reduceAdd, Nat.reduceSub, Nat.reduceMul, Nat.reduceEqDiff, Nat.reduceBEq, Nat.reduceMod, Nat.reduceDiv, Int.reduceToNat, reduceCtorEq, Int.reduceLT, Int.reduceLE, Int.reduceGT, Int.reduceGE, Int.reduceAdd, Int.reduceSub, Int.reduceMul, Int.reduceNeg, Int.reduceEq, Int.reduceNe, Int.reduceBNe, Int.reduceBEq, Int.reduceDiv, Int.cast_ofNat_Int]
      exact fin rfl (limbs_eq hlt (.inl rfl))
    · simp only [go_sem, ↓reduceIte, Nat.reduceLT, Nat.reduceLeDiff, Nat.reduceAdd, Nat.reduceSub, Nat.reduceMul, Nat.reduceEqDiff, Nat.reduceBEq, Nat.reduceMod, Nat.reduceDiv, Int.reduceToNat, reduceCtorEq, Int.reduceLT, Int.reduceLE, Int.reduceGT, Int.reduceGE, Int.reduceAdd, Int.reduceSub, Int.reduceMul, Int.reduceNeg, Int.reduceEq, Int.reduceNe, Int.reduceBNe, Int.reduceBEq, Int.reduceDiv, Int.cast_ofNat_Int, wi0, wi1, wi2, wi3]
      refine ex_br (fun hc => ?_) (fun hc => ?_)
      · simp only [go_sem, ↓reduceIte, Nat.reduceLT, Nat.reduceLeDiff, Nat.reduceAdd, Nat.reduceSub, Nat.reduceMul, Nat.reduceEqDiff, Nat.reduceBEq, Nat.reduceMod, Nat.reduceDiv, Int.reduceToNat, reduceCtorEq, Int.reduceLT, Int.reduceLE, Int.reduceGT, Int.reduceGE, Int.reduceAdd, Int.reduceSub, Int.reduceMul, Int.reduceNeg, Int.reduceEq, Int.reduceNe, Int.reduceBNe, Int.reduceBEq, Int.reduceDiv, wi0, wi1, wi2, wi3]
        have hc : s0 = 0 := by simpa using hc
        exact next 0 _ ⟨by omega, by omega⟩ (by omega) rfl
      · have hc : s0 ≠ 0 := by simpa using hc
        simp only [go_sem, ↓reduceIte, Nat.reduceLT, Nat.reduceLeDiff, Nat.reduceAdd, Nat.reduceSub, Nat.reduceMul, Nat.reduceEqDiff, Nat.reduceBEq, Nat.reduceMod, Nat.reduceDiv, Int.reduceToNat, reduceCtorEq, Int.reduceLT, Int.reduceLE, Int.reduceGT, Int.reduceGE, Int.reduceAdd, Int.reduceSub, Int.reduceMul, Int.reduceNeg, Int.reduceEq, Int.reduceNe, Int.reduceBNe, Int.reduceBEq, Int.reduceDiv]
        exact fin rfl (limbs_eq hlt (.inr (by omega)))
    · simp only [go_sem, ↓reduceIte, Nat.reduceLT, Nat.reduceLeDiff, Nat.reduceAdd, Nat.reduceSub, Nat.reduceMul, Nat.reduceEqDiff, Nat.reduceBEq, Nat.reduceMod, Nat.reduceDiv, Int.reduceToNat, reduceCtorEq, Int.reduceLT, Int.reduceLE, Int.reduceGT, Int.reduceGE, Int.reduceAdd, Int.reduceSub, Int.reduceMul, Int.reduceNeg, Int.reduceEq, Int.reduceNe, Int.reduceBNe, Int.reduceBEq, Int.reduceDiv, Int.cast_ofNat_Int, wi0, wi1, wi2, wi3]
      refine ex_br (fun hc => ?_) (fun hc => ?_)
      · simp only [go_sem, ↓reduceIte, Nat.reduceLT, Nat.reduceLeDiff, Nat.reduceAdd, Nat.reduceSub, Nat.reduceMul, Nat.reduceEqDiff, Nat.reduceBEq, Nat.reduceMod, Nat.reduceDiv, Int.reduceToNat, reduceCtorEq, Int.reduceLT, Int.reduceLE, Int.reduceGT, Int.reduceGE, Int.reduceAdd, Int.reduceSub, Int.reduceMul, Int.reduceNeg, Int.reduceEq, Int.reduceNe, Int.reduceBNe, Int.reduceBEq, Int.reduceDiv, wi0, wi1, wi2, wi3]
        have hc : s1 = 0 := by simpa using hc
        exact next 1 _ ⟨by omega, by omega⟩ (by omega) rfl
      · have hc : s1 ≠ 0 := by simpa using hc
        simp only [go_sem, ↓reduceIte, Nat.reduceLT, Nat.reduceLeDiff, Nat.reduceAdd, Nat.reduceSub, Nat.reduceMul, Nat.reduceEqDiff, Nat.reduceBEq, Nat.reduceMod, Nat.reduceDiv, Int.reduceToNat, reduceCtorEq, Int.reduceLT, Int.reduceLE, Int.reduceGT, Int.reduceGE, Int.reduceAdd, Int.reduceSub, Int.reduceMul, Int.reduceNeg, Int.reduceEq, Int.reduceNe, Int.reduceBNe, Int.reduceBEq, Int.reduceDiv]
        exact fin rfl (limbs_eq hlt (.inr (by omega)))
    · simp only [go_sem, ↓reduceIte, Nat.reduceLT, Nat.reduceLeDiff, Nat.reduceAdd, Nat.reduceSub, Nat.reduceMul, Nat.reduceEqDiff, Nat.reduceBEq, Nat.reduceMod, Nat.reduceDiv, Int.reduceToNat, reduceCtorEq, Int.reduceLT, Int.reduceLE, Int.reduceGT, Int.reduceGE, Int.reduceAdd, Int.reduceSub, Int.reduceMul, Int.reduceNeg, Int.reduceEq, Int.reduceNe, Int.reduceBNe, Int.reduceBEq, Int.reduceDiv, Int.cast_ofNat_Int, wi0, wi1, wi2, wi3]
      refine ex_br (fun hc => ?_) (fun hc => ?_)
      · simp only [go_sem, ↓reduceIte, Nat.reduceLT, Nat.reduceLeDiff, Nat.reduceAdd, Nat.reduceSub, Nat.reduceMul, Nat.reduceEqDiff, Nat.reduceBEq, Nat.reduceMod, Nat.reduceDiv, Int.reduceToNat, reduceCtorEq, Int.reduceLT, Int.reduceLE, Int.reduceGT, Int.reduceGE, Int.reduceAdd, Int.reduceSub, Int.reduceMul, Int.reduceNeg, Int.reduceEq, Int.reduceNe, Int.reduceBNe, Int.reduceBEq, Int.reduceDiv, wi0, wi1, wi2, wi3]
        have hc : s2 = 0 := by simpa using hc
        exact next 2 _ ⟨by omega, by omega⟩ (by omega) rfl
      · have hc : s2 ≠ 0 := by simpa using hc
        simp only [go_sem, ↓reduceIte, Nat.reduceLT, Nat.reduceLeDiff, Nat.reduceAdd, Nat.reduceSub, Nat.reduceMul, Nat.reduceEqDiff, Nat.reduceBEq, Nat.reduceMod, Nat.reduceDiv, Int.reduceToNat, reduceCtorEq, Int.reduceLT, Int.reduceLE, Int.reduceGT, Int.reduceGE, Int.reduceAdd, Int.reduceSub, Int.reduceMul, Int.reduceNeg, Int.reduceEq, Int.reduceNe, Int.reduceBNe, Int.reduceBEq, Int.reduceDiv]
        exact fin rfl (limbs_eq hlt (.inr (by omega)))
    · simp only [go_sem, ↓reduceIte, Nat.reduceLT, Nat.reduceLeDiff, Nat.reduceAdd, Nat.reduceSub, Nat.reduceMul, Nat.reduceEqDiff, Nat.reduceBEq, Nat.reduceMod, Nat.reduceDiv, Int.reduceToNat, reduceCtorEq, Int.reduceLT, Int.reduceLE, Int.reduceGT, Int.reduceGE, Int.reduceAdd, Int.reduceSub, Int.reduceMul, Int.reduceNeg, Int.reduceEq, Int.reduceNe, Int.reduceBNe, Int.reduceBEq, Int.reduceDiv, Int.cast_ofNat_Int, wi0, wi1, wi2, wi3]
      refine ex_br (fun hc => ?_) (fun hc => ?_)
      · simp only [go_sem, ↓reduceIte, Nat.reduceLT, Nat.reduceLeDiff, Nat.reduceAdd, Nat.reduceSub, Nat.reduceMul, Nat.reduceEqDiff, Nat.reduceBEq, Nat.reduceMod, Nat.reduceDiv, Int.reduceToNat, reduceCtorEq, Int.reduceLT, Int.reduceLE, Int.reduceGT, Int.reduceGE, Int.reduceAdd, Int.reduceSub, Int.reduceMul, Int.reduceNeg, Int.reduceEq, Int.reduceNe, Int.reduceBNe, Int.reduceBEq, Int.reduceDiv, wi0, wi1, wi2, wi3]
        have hc : s3 = 0 := by simpa using hc
        exact next 3 _ ⟨by omega, by omega⟩ (by omega) rfl
      · have hc : s3 ≠ 0 := by simpa using hc
        simp only [go_sem, ↓reduceIte, Nat.reduceLT, Nat.reduceLeDiff, Nat.reduceAdd, Nat.reduceSub, Nat.reduceMul, Nat.reduceEqDiff, Nat.reduceBEq, Nat.reduceMod, Nat.reduceDiv, Int.reduceToNat, reduceCtorEq, Int.reduceLT, Int.reduceLE, Int.reduceGT, Int.reduceGE, Int.reduceAdd, Int.reduceSub, Int.reduceMul, Int.reduceNeg, Int.reduceEq, Int.reduceNe, Int.reduceBNe, Int.reduceBEq, Int.reduceDiv]
        exact fin rfl (limbs_eq hlt (.inr (by omega)))
theorem shr_nat (n k : Nat) (hk : k ≤ 64) : (n : Int).fdiv (2 ^ (min k 64)) = ((n / 2 ^ k : Nat) : Int) := by
  rw [show min k 64 = k from Nat.min_eq_left hk, Int.fdiv_eq_ediv_of_nonneg _ (Int.pow_nonneg (by decide))]
  norm_cast
theorem tab_at (x : Nat) (hx : x < 256) : ((([0, 1, 2, 2, 3, 3, 3, 3, 4, 4, 4, 4, 4, 4, 4, 4, 5, 5, 5, 5, 5, 5, 5, 5, 5, 5, 5, 5, 5, 5, 5, 5, 6, 6, 6, 6, 6, 6, 6, 6, 6, 6, 6, 6, 6, 6, 6, 6, 6, 6, 6, 6, 6, 6, 6, 6, 6, 6, 6, 6, 6, 6, 6, 6].append [7, 7, 7, 7, 7, 7, 7, 7, 7, 7, 7, 7, 7, 7, 7, 7, 7, 7, 7, 7, 7, 7, 7, 7, 7, 7, 7, 7, 7, 7, 7, 7, 7, 7, 7, 7, 7, 7, 7, 7, 7, 7, 7, 7, 7, 7, 7, 7, 7, 7, 7, 7, 7, 7, 7, 7, 7, 7, 7, 7, 7, 7, 7, 7]).append ([8, 8, 8, 8, 8, 8, 8, 8, 8, 8, 8, 8, 8, 8, 8, 8, 8, 8, 8, 8, 8, 8, 8, 8, 8, 8, 8, 8, 8, 8, 8, 8, 8, 8, 8, 8, 8, 8, 8, 8, 8, 8, 8, 8, 8, 8, 8, 8, 8, 8, 8, 8, 8, 8, 8, 8, 8, 8, 8, 8, 8, 8, 8, 8].append [8, 8, 8, 8, 8, 8, 8, 8, 8, 8, 8, 8, 8, 8, 8, 8, 8, 8, 8, 8, 8, 8, 8, 8, 8, 8, 8, 8, 8, 8, 8, 8, 8, 8, 8, 8, 8, 8, 8, 8, 8, 8, 8, 8, 8, 8, 8, 8, 8, 8, 8, 8, 8, 8, 8, 8, 8, 8, 8, 8, 8, 8, 8, 8])) : List UInt8)[x]? = some (UInt8.ofNat (bitsOf x)) := by
  have h : (List.range 256).all (fun x => ((([0, 1, 2, 2, 3, 3, 3, 3, 4, 4, 4, 4, 4, 4, 4, 4, 5, 5, 5, 5, 5, 5, 5, 5, 5, 5, 5, 5, 5, 5, 5, 5, 6, 6, 6, 6, 6, 6, 6, 6, 6, 6, 6, 6, 6, 6, 6, 6, 6, 6, 6, 6, 6, 6, 6, 6, 6, 6, 6, 6, 6, 6, 6, 6].append [7, 7, 7, 7, 7, 7, 7, 7, 7, 7, 7, 7, 7, 7, 7, 7, 7, 7, 7, 7, 7, 7, 7, 7, 7, 7, 7, 7, 7, 7, 7, 7, 7, 7, 7, 7, 7, 7, 7, 7, 7, 7, 7, 7, 7, 7, 7, 7, 7, 7, 7, 7, 7, 7, 7, 7, 7, 7, 7, 7, 7, 7, 7, 7]).append ([8, 8, 8, 8, 8, 8, 8, 8, 8, 8, 8, 8, 8, 8, 8, 8, 8, 8, 8, 8, 8, 8, 8, 8, 8, 8, 8, 8, 8, 8, 8, 8, 8, 8, 8, 8, 8, 8, 8, 8, 8, 8, 8, 8, 8, 8, 8, 8, 8, 8, 8, 8, 8, 8, 8, 8, 8, 8, 8, 8, 8, 8, 8, 8].append [8, 8, 8, 8, 8, 8, 8, 8, 8, 8, 8, 8, 8, 8, 8, 8, 8, 8, 8, 8, 8, 8, 8, 8, 8, 8, 8, 8, 8, 8, 8, 8, 8, 8, 8, 8, 8, 8, 8, 8, 8, 8, 8, 8, 8, 8, 8, 8, 8, 8, 8, 8, 8, 8, 8, 8, 8, 8, 8, 8, 8, 8, 8, 8])) : List UInt8)[x]? == some (UInt8.ofNat (bitsOf x))) = true := by kernel_rfl
  have := List.all_eq_true.1 h x (List.mem_range.2 hx)
  simpa using this
theorem tab_len : ((([0, 1, 2, 2, 3, 3, 3, 3, 4, 4, 4, 4, 4, 4, 4, 4, 5, 5, 5, 5, 5, 5, 5, 5, 5, 5, 5, 5, 5, 5, 5, 5, 6, 6, 6, 6, 6, 6, 6, 6, 6, 6, 6, 6, 6, 6, 6, 6, 6, 6, 6, 6, 6, 6, 6, 6, 6, 6, 6, 6, 6, 6, 6, 6].append [7, 7, 7, 7, 7, 7, 7, 7, 7, 7, 7, 7, 7, 7, 7, 7, 7, 7, 7, 7, 7, 7, 7, 7, 7, 7, 7, 7, 7, 7, 7, 7, 7, 7, 7, 7, 7, 7, 7, 7, 7, 7, 7, 7, 7, 7, 7, 7, 7, 7, 7, 7, 7, 7, 7, 7, 7, 7, 7, 7, 7, 7, 7, 7]).append ([8, 8, 8, 8, 8, 8, 8, 8, 8, 8, 8, 8, 8, 8, 8, 8, 8, 8, 8, 8, 8, 8, 8, 8, 8, 8, 8, 8, 8, 8, 8, 8, 8, 8, 8, 8, 8, 8, 8, 8, 8, 8, 8, 8, 8, 8, 8, 8, 8, 8, 8, 8, 8, 8, 8, 8, 8, 8, 8, 8, 8, 8, 8, 8].append [8, 8, 8, 8, 8, 8, 8, 8, 8, 8, 8, 8, 8, 8, 8, 8, 8, 8, 8, 8, 8, 8, 8, 8, 8, 8, 8, 8, 8, 8, 8, 8, 8, 8, 8, 8, 8, 8, 8, 8, 8, 8, 8, 8, 8, 8, 8, 8, 8, 8, 8, 8, 8, 8, 8, 8, 8, 8, 8, 8, 8, 8, 8, 8])) : List UInt8).length = 256 := by kernel_rfl
theorem bits_8 {n : Nat} (h : n < 256) : bitsOf n ≤ 8 := (bits_le n 8).2 h
theorem wiK (k : Nat) (h : k ≤ 1000) : IntKind.i64.wrap (k : Int) = (k : Int) := wi64 (by omega) (by omega)
theorem wi64k : IntKind.i64.wrap 64 = 64 := by decide
theorem wi128k : IntKind.i64.wrap 128 = 128 := by decide
theorem wi192k : IntKind.i64.wrap 192 = 192 := by decide
theorem w8_bits {x : Nat} (h : x < 256) : IntKind.i64.wrap ((UInt8.ofNat (bitsOf x)).toNat : Int) = (bitsOf x : Int) := by
  have := bits_8 h
  rw [show (UInt8.ofNat (bitsOf x)).toNat = bitsOf x by rw [UInt8.toNat_ofNat']; omega]
  exact wi64 (by omega) (by omega)
theorem wi8 : IntKind.i64.wrap 8 = 8 := by decide
theorem wi16 : IntKind.i64.wrap 16 = 16 := by decide
theorem wi24 : IntKind.i64.wrap 24 = 24 := by decide
theorem wi40 : IntKind.i64.wrap 40 = 40 := by decide
theorem wi48 : IntKind.i64.wrap 48 = 48 := by decide
theorem wi56 : IntKind.i64.wrap 56 = 56 := by decide
theorem bits_ge {n k : Nat} (h : 2 ^ k ≤ n) : k < bitsOf n := by
  have := bits_le n k
  omega
theorem c_Len64 (n : Nat) (hn : n < 18446744073709551616) : Contract Try.prog 79 [.int .u64 n] (.int .i64 (bitsOf n)) := by
  have d32 := bits_div n 32
  have d16 := bits_div n 16
  have d8 := bits_div n 8
  have d3216 := bits_div (n / 2 ^ 32) 16
  have d328 := bits_div (n / 2 ^ 32) 8
  have d168 := bits_div (n / 2 ^ 16) 8
  have d32168 := bits_div (n / 2 ^ 32 / 2 ^ 16) 8
  refine contract_of (C := cf 25 [0, 2, 4, 8, 14] (fun _ => [])) (cf_ok _ _ _) (fn := Try.f79) Try.func79 (by kernel_rfl) rfl (by kernel_rfl) (by simp [cf]) (plain1 (.int _ _)) (by decide) (noCell (by kernel_rfl)) ?_
  simp only [go_sem, ↓reduceIte, Nat.reduceLT, Nat.reduceLeDiff, Nat.reduceAdd, Nat.reduceSub, Nat.reduceMul, Nat.reduceEqDiff, Nat.reduceBEq, Nat.reduceMod, Nat.reduceDiv, Int.reduceToNat, reduceCtorEq, Int.reduceLT, Int.reduceLE, Int.reduceGT, Int.reduceGE, Int.reduceAdd, Int.reduceSub, Int.reduceMul, Int.reduceNeg, Int.reduceEq, Int.reduceNe, Int.reduceBNe, Int.reduceBEq, Int.reduceDiv]
  have s32 := shr_nat n 32 (by decide)
  have s16 := shr_nat n 16 (by decide)
  have s8 := shr_nat n 8 (by decide)
  have s3216 := shr_nat (n / 2 ^ 32) 16 (by decide)
  have s328 := shr_nat (n / 2 ^ 32) 8 (by decide)
  have s168 := shr_nat (n / 2 ^ 16) 8 (by decide)
  have s32168 := shr_nat (n / 2 ^ 32 / 2 ^ 16) 8 (by decide)
  refine ex_br (fun e1 => ?_) (fun e1 => ?_)
  · simp only [decide_eq_true_eq, decide_eq_false_iff_not] at e1
    simp only [go_sem, ↓reduceIte, Nat.reduceLT, Nat.reduceLeDiff, Nat.reduceAdd, Nat.reduceSub, Nat.reduceMul, Nat.reduceEqDiff, Nat.reduceBEq, Nat.reduceMod, Nat.reduceDiv, Int.reduceToNat, reduceCtorEq, Int.reduceLT, Int.reduceLE, Int.reduceGT, Int.reduceGE, Int.reduceAdd, Int.reduceSub, Int.reduceMul, Int.reduceNeg, Int.reduceEq, Int.reduceNe, Int.reduceBNe, Int.reduceBEq, Int.reduceDiv, s32, s16, s8, s3216, s328, s168, s32168, wi8, wi16, wi24, wi40, wi48, wi56]
    refine ex_br (fun e2 => ?_) (fun e2 => ?_)
    · simp only [decide_eq_true_eq, decide_eq_false_iff_not] at e2
      simp only [go_sem, ↓reduceIte, Nat.reduceLT, Nat.reduceLeDiff, Nat.reduceAdd, Nat.reduceSub, Nat.reduceMul, Nat.reduceEqDiff, Nat.reduceBEq, Nat.reduceMod, Nat.reduceDiv, Int.reduceToNat, reduceCtorEq, Int.reduceLT, Int.reduceLE, Int.reduceGT, Int.reduceGE, Int.reduceAdd, Int.reduceSub, Int.reduceMul, Int.reduceNeg, Int.reduceEq, Int.reduceNe, Int.reduceBNe, Int.reduceBEq, Int.reduceDiv, s32, s16, s8, s3216, s328, s168, s32168, wi8, wi16, wi24, wi40, wi48, wi56]
      refine ex_br (fun e3 => ?_) (fun e3 => ?_)
      · simp only [decide_eq_true_eq, decide_eq_false_iff_not] at e3
        have hx : n / 2 ^ 32 / 2 ^ 16 / 2 ^ 8 < 256 := by omega
        have wx : IntKind.u8.wrap ((n / 2 ^ 32 / 2 ^ 16 / 2 ^ 8 : Nat) : Int) = ((n / 2 ^ 32 / 2 ^ 16 / 2 ^ 8 : Nat) : Int) := wu8 (by omega) (by omega)
        have hb := bits_ge (n := n) (k := 56) (by omega)
        have hb2 := bits_8 hx
        have hfin : IntKind.i64.wrap ((56 : Int) + (bitsOf (n / 2 ^ 32 / 2 ^ 16 / 2 ^ 8) : Int)) = (bitsOf n : Int) := by rw [wi64 (by omega) (by omega)]; omega
        simp only [go_sem, ↓reduceIte, Nat.reduceLT, Nat.reduceLeDiff, Nat.reduceAdd, Nat.reduceSub, Nat.reduceMul, Nat.reduceEqDiff, Nat.reduceBEq, Nat.reduceMod, Nat.reduceDiv, Int.reduceToNat, reduceCtorEq, Int.reduceLT, Int.reduceLE, Int.reduceGT, Int.reduceGE, Int.reduceAdd, Int.reduceSub, Int.reduceMul, Int.reduceNeg, Int.reduceEq, Int.reduceNe, Int.reduceBNe, Int.reduceBEq, Int.reduceDiv, s32, s16, s8, s3216, s328, s168, s32168, wi8, wi16, wi24, wi40, wi48, wi56, wx, Int.toNat_natCast, tab_len, tab_at _ hx, w8_bits hx, hfin, Int.zero_add]
        refine ⟨⟨by omega, by omega⟩, ?_⟩
        refine finOne ?_ (fun _ e => by cases e)
        show resOf _ _ [.tmp 2] = _
        simp only [go_sem, ↓reduceIte, Nat.reduceLT, Nat.reduceLeDiff, Nat.reduceAdd, Nat.reduceSub, Nat.reduceMul, Nat.reduceEqDiff, Nat.reduceBEq, Nat.reduceMod, Nat.reduceDiv, Int.reduceToNat, reduceCtorEq, Int.reduceLT, Int.reduceLE, Int.reduceGT, Int.reduceGE, Int.reduceAdd, Int.reduceSub, Int.reduceMul, Int.reduceNeg, Int.reduceEq, Int.reduceNe, Int.reduceBNe, Int.reduceBEq, Int.reduceDiv]
      · simp only [decide_eq_true_eq, decide_eq_false_iff_not] at e3
        have hx : n / 2 ^ 32 / 2 ^ 16 < 256 := by omega
        have wx : IntKind.u8.wrap ((n / 2 ^ 32 / 2 ^ 16 : Nat) : Int) = ((n / 2 ^ 32 / 2 ^ 16 : Nat) : Int) := wu8 (by omega) (by omega)
        have hb := bits_ge (n := n) (k := 48) (by omega)
        have hb2 := bits_8 hx
        have hfin : IntKind.i64.wrap ((48 : Int) + (bitsOf (n / 2 ^ 32 / 2 ^ 16) : Int)) = (bitsOf n : Int) := by rw [wi64 (by omega) (by omega)]; omega
        simp only [go_sem, ↓reduceIte, Nat.reduceLT, Nat.reduceLeDiff, Nat.reduceAdd, Nat.reduceSub, Nat.reduceMul, Nat.reduceEqDiff, Nat.reduceBEq, Nat.reduceMod, Nat.reduceDiv, Int.reduceToNat, reduceCtorEq, Int.reduceLT, Int.reduceLE, Int.reduceGT, Int.reduceGE, Int.reduceAdd, Int.reduceSub, Int.reduceMul, Int.reduceNeg, Int.reduceEq, Int.reduceNe, Int.reduceBNe, Int.reduceBEq, Int.reduceDiv, s32, s16, s8, s3216, s328, s168, s32168, wi8, wi16, wi24, wi40, wi48, wi56, wx, Int.toNat_natCast, tab_len, tab_at _ hx, w8_bits hx, hfin, Int.zero_add]
        refine ⟨⟨by omega, by omega⟩, ?_⟩
        refine finOne ?_ (fun _ e => by cases e)
        show resOf _ _ [.tmp 2] = _
        simp only [go_sem, ↓reduceIte, Nat.reduceLT, Nat.reduceLeDiff, Nat.reduceAdd, Nat.reduceSub, Nat.reduceMul, Nat.reduceEqDiff, Nat.reduceBEq, Nat.reduceMod, Nat.reduceDiv, Int.reduceToNat, reduceCtorEq, Int.reduceLT, Int.reduceLE, Int.reduceGT, Int.reduceGE, Int.reduceAdd, Int.reduceSub, Int.reduceMul, Int.reduceNeg, Int.reduceEq, Int.reduceNe, Int.reduceBNe, Int.reduceBEq, Int.reduceDiv]
    · simp only [decide_eq_true_eq, decide_eq_false_iff_not] at e2
      simp only [go_sem, ↓reduceIte, Nat.reduceLT, Nat.reduceLeDiff, Nat.reduceAdd, Nat.reduceSub, Nat.reduceMul, Nat.reduceEqDiff, Nat.reduceBEq, Nat.reduceMod, Nat.reduceDiv, Int.reduceToNat, reduceCtorEq, Int.reduceLT, Int.reduceLE, Int.reduceGT, Int.reduceGE, Int.reduceAdd, Int.reduceSub, Int.reduceMul, Int.reduceNeg, Int.reduceEq, Int.reduceNe, Int.reduceBNe, Int.reduceBEq, Int.reduceDiv, s32, s16, s8, s3216, s328, s168, s32168, wi8, wi16, wi24, wi40, wi48, wi56]
      refine ex_br (fun e3 => ?_) (fun e3 => ?_)
      · simp only [decide_eq_true_eq, decide_eq_false_iff_not] at e3
        have hx : n / 2 ^ 32 / 2 ^ 8 < 256 := by omega
        have wx : IntKind.u8.wrap ((n / 2 ^ 32 / 2 ^ 8 : Nat) : Int) = ((n / 2 ^ 32 / 2 ^ 8 : Nat) : Int) := wu8 (by omega) (by omega)
        have hb := bits_ge (n := n) (k := 40) (by omega)
        have hb2 := bits_8 hx
        have hfin : IntKind.i64.wrap ((40 : Int) + (bitsOf (n / 2 ^ 32 / 2 ^ 8) : Int)) = (bitsOf n : Int) := by rw [wi64 (by omega) (by omega)]; omega
        simp only [go_sem, ↓reduceIte, Nat.reduceLT, Nat.reduceLeDiff, Nat.reduceAdd, Nat.reduceSub, Nat.reduceMul, Nat.reduceEqDiff, Nat.reduceBEq, Nat.reduceMod, Nat.reduceDiv, Int.reduceToNat, reduceCtorEq, Int.reduceLT, Int.reduceLE, Int.reduceGT, Int.reduceGE, Int.reduceAdd, Int.reduceSub, Int.reduceMul, Int.reduceNeg, Int.reduceEq, Int.reduceNe, Int.reduceBNe, Int.reduceBEq, Int.reduceDiv, s32, s16, s8, s3216, s328, s168, s32168, wi8, wi16, wi24, wi40, wi48, wi56, wx, Int.toNat_natCast, tab_len, tab_at _ hx, w8_bits hx, hfin, Int.zero_add]
        refine ⟨⟨by omega, by omega⟩, ?_⟩
        refine finOne ?_ (fun _ e => by cases e)
        show resOf _ _ [.tmp 2] = _
        simp only [go_sem, ↓reduceIte, Nat.reduceLT, Nat.reduceLeDiff, Nat.reduceAdd, Nat.reduceSub, Nat.reduceMul, Nat.reduceEqDiff, Nat.reduceBEq, Nat.reduceMod, Nat.reduceDiv, Int.reduceToNat, reduceCtorEq, Int.reduceLT, Int.reduceLE, Int.reduceGT, Int.reduceGE, Int.reduceAdd, Int.reduceSub, Int.reduceMul, Int.reduceNeg, Int.reduceEq, Int.reduceNe, Int.reduceBNe, Int.reduceBEq, Int.reduceDiv]
      · simp only [decide_eq_true_eq, decide_eq_false_iff_not] at e3
        have hx : n / 2 ^ 32 < 256 := by omega
        have wx : IntKind.u8.wrap ((n / 2 ^ 32 : Nat) : Int) = ((n / 2 ^ 32 : Nat) : Int) := wu8 (by omega) (by omega)
        have hb := bits_ge (n := n) (k := 32) (by omega)
        have hb2 := bits_8 hx
        have hfin : IntKind.i64.wrap ((32 : Int) + (bitsOf (n / 2 ^ 32) : Int)) = (bitsOf n : Int) := by rw [wi64 (by omega) (by omega)]; omega
        simp only [go_sem, ↓reduceIte, Nat.reduceLT, Nat.reduceLeDiff, Nat.reduceAdd, Nat.reduceSub, Nat.reduceMul, Nat.reduceEqDiff, Nat.reduceBEq, Nat.reduceMod, Nat.reduceDiv, Int.reduceToNat, reduceCtorEq, Int.reduceLT, Int.reduceLE, Int.reduceGT, Int.reduceGE, Int.reduceAdd, Int.reduceSub, Int.reduceMul, Int.reduceNeg, Int.reduceEq, Int.reduceNe, Int.reduceBNe, Int.reduceBEq, Int.reduceDiv, s32, s16, s8, s3216, s328, s168, s32168, wi8, wi16, wi24, wi40, wi48, wi56, wx, Int.toNat_natCast, tab_len, tab_at _ hx, w8_bits hx, hfin, Int.zero_add]
        refine ⟨⟨by omega, by omega⟩, ?_⟩
        refine finOne ?_ (fun _ e => by cases e)
        show resOf _ _ [.tmp 2] = _
        simp only [go_sem, ↓reduceIte, Nat.reduceLT, Nat.reduceLeDiff, Nat.reduceAdd, Nat.reduceSub, Nat.reduceMul, Nat.reduceEqDiff, Nat.reduceBEq, Nat.reduceMod, Nat.reduceDiv, Int.reduceToNat, reduceCtorEq, Int.reduceLT, Int.reduceLE, Int.reduceGT, Int.reduceGE, Int.reduceAdd, Int.reduceSub, Int.reduceMul, Int.reduceNeg, Int.reduceEq, Int.reduceNe, Int.reduceBNe, Int.reduceBEq, Int.reduceDiv]
  · simp only [decide_eq_true_eq, decide_eq_false_iff_not] at e1
    simp only [go_sem, ↓reduceIte, Nat.reduceLT, Nat.reduceLeDiff, Nat.reduceAdd, Nat.reduceSub, Nat.reduceMul, Nat.reduceEqDiff, Nat.reduceBEq, Nat.reduceMod, Nat.reduceDiv, Int.reduceToNat, reduceCtorEq, Int.reduceLT, Int.reduceLE, Int.reduceGT, Int.reduceGE, Int.reduceAdd, Int.reduceSub, Int.reduceMul, Int.reduceNeg, Int.reduceEq, Int.reduceNe, Int.reduceBNe, Int.reduceBEq, Int.reduceDiv, s32, s16, s8, s3216, s328, s168, s32168, wi8, wi16, wi24, wi40, wi48, wi56]
    refine ex_br (fun e2 => ?_) (fun e2 => ?_)
    · simp only [decide_eq_true_eq, decide_eq_false_iff_not] at e2
      simp only [go_sem, ↓reduceIte, Nat.reduceLT, Nat.reduceLeDiff, Nat.reduceAdd, Nat.reduceSub, Nat.reduceMul, Nat.reduceEqDiff, Nat.reduceBEq, Nat.reduceMod, Nat.reduceDiv, Int.reduceToNat, reduceCtorEq, Int.reduceLT, Int.reduceLE, Int.reduceGT, Int.reduceGE, Int.reduceAdd, Int.reduceSub, Int.reduceMul, Int.reduceNeg, Int.reduceEq, Int.reduceNe, Int.reduceBNe, Int.reduceBEq, Int.reduceDiv, s32, s16, s8, s3216, s328, s168, s32168, wi8, wi16, wi24, wi40, wi48, wi56]
      refine ex_br (fun e3 => ?_) (fun e3 => ?_)
      · simp only [decide_eq_true_eq, decide_eq_false_iff_not] at e3
        have hx : n / 2 ^ 16 / 2 ^ 8 < 256 := by omega
        have wx : IntKind.u8.wrap ((n / 2 ^ 16 / 2 ^ 8 : Nat) : Int) = ((n / 2 ^ 16 / 2 ^ 8 : Nat) : Int) := wu8 (by omega) (by omega)
        have hb := bits_ge (n := n) (k := 24) (by omega)
        have hb2 := bits_8 hx
        have hfin : IntKind.i64.wrap ((24 : Int) + (bitsOf (n / 2 ^ 16 / 2 ^ 8) : Int)) = (bitsOf n : Int) := by rw [wi64 (by omega) (by omega)]; omega
        simp only [go_sem, ↓reduceIte, Nat.reduceLT, Nat.reduceLeDiff, Nat.reduceAdd, Nat.reduceSub, Nat.reduceMul, Nat.reduceEqDiff, Nat.reduceBEq, Nat.reduceMod, Nat.reduceDiv, Int.reduceToNat, reduceCtorEq, Int.reduceLT, Int.reduceLE, Int.reduceGT, Int.reduceGE, Int.reduceAdd, Int.reduceSub, Int.reduceMul, Int.reduceNeg, Int.reduceEq, Int.reduceNe, Int.reduceBNe, Int.reduceBEq, Int.reduceDiv, s32, s16, s8, s3216, s328, s168, s32168, wi8, wi16, wi24, wi40, wi48, wi56, wx, Int.toNat_natCast, tab_len, tab_at _ hx, w8_bits hx, hfin, Int.zero_add]
        refine ⟨⟨by omega, by omega⟩, ?_⟩
        refine finOne ?_ (fun _ e => by cases e)
        show resOf _ _ [.tmp 2] = _
        simp only [go_sem, ↓reduceIte, Nat.reduceLT, Nat.reduceLeDiff, Nat.reduceAdd, Nat.reduceSub, Nat.reduceMul, Nat.reduceEqDiff, Nat.reduceBEq, Nat.reduceMod, Nat.reduceDiv, Int.reduceToNat, reduceCtorEq, Int.reduceLT, Int.reduceLE, Int.reduceGT, Int.reduceGE, Int.reduceAdd, Int.reduceSub, Int.reduceMul, Int.reduceNeg, Int.reduceEq, Int.reduceNe, Int.reduceBNe, Int.reduceBEq, Int.reduceDiv]
      · simp only [decide_eq_true_eq, decide_eq_false_iff_not] at e3
        have hx : n / 2 ^ 16 < 256 := by omega
        have wx : IntKind.u8.wrap ((n / 2 ^ 16 : Nat) : Int) = ((n / 2 ^ 16 : Nat) : Int) := wu8 (by omega) (by omega)
        have hb := bits_ge (n := n) (k := 16) (by omega)
        have hb2 := bits_8 hx
        have hfin : IntKind.i64.wrap ((16 : Int) + (bitsOf (n / 2 ^ 16) : Int)) = (bitsOf n : Int) := by rw [wi64 (by omega) (by omega)]; omega
        simp only [go_sem, ↓reduceIte, Nat.reduceLT, Nat.reduceLeDiff, Nat.reduceAdd, Nat.reduceSub, Nat.reduceMul, Nat.reduceEqDiff, Nat.reduceBEq, Nat.reduceMod, Nat.reduceDiv, Int.reduceToNat, reduceCtorEq, Int.reduceLT, Int.reduceLE, Int.reduceGT, Int.reduceGE, Int.reduceAdd, Int.reduceSub, Int.reduceMul, Int.reduceNeg, Int.reduceEq, Int.reduceNe, Int.reduceBNe, Int.reduceBEq, Int.reduceDiv, s32, s16, s8, s3216, s328, s168, s32168, wi8, wi16, wi24, wi40, wi48, wi56, wx, Int.toNat_natCast, tab_len, tab_at _ hx, w8_bits hx, hfin, Int.zero_add]
        refine ⟨⟨by omega, by omega⟩, ?_⟩
        refine finOne ?_ (fun _ e => by cases e)
        show resOf _ _ [.tmp 2] = _
        simp only [go_sem, ↓reduceIte, Nat.reduceLT, Nat.reduceLeDiff, Nat.reduceAdd, Nat.reduceSub, Nat.reduceMul, Nat.reduceEqDiff, Nat.reduceBEq, Nat.reduceMod, Nat.reduceDiv, Int.reduceToNat, reduceCtorEq, Int.reduceLT, Int.reduceLE, Int.reduceGT, Int.reduceGE, Int.reduceAdd, Int.reduceSub, Int.reduceMul, Int.reduceNeg, Int.reduceEq, Int.reduceNe, Int.reduceBNe, Int.reduceBEq, Int.reduceDiv]
    · simp only [decide_eq_true_eq, decide_eq_false_iff_not] at e2
      simp only [go_sem, ↓reduceIte, Nat.reduceLT, Nat.reduceLeDiff, Nat.reduceAdd, Nat.reduceSub, Nat.reduceMul, Nat.reduceEqDiff, Nat.reduceBEq, Nat.reduceMod, Nat.reduceDiv, Int.reduceToNat, reduceCtorEq, Int.reduceLT, Int.reduceLE, Int.reduceGT, Int.reduceGE, Int.reduceAdd, Int.reduceSub, Int.reduceMul, Int.reduceNeg, Int.reduceEq, Int.reduceNe, Int.reduceBNe, Int.reduceBEq, Int.reduceDiv, s32, s16, s8, s3216, s328, s168, s32168, wi8, wi16, wi24, wi40, wi48, wi56]
      refine ex_br (fun e3 => ?_) (fun e3 => ?_)
      · simp only [decide_eq_true_eq, decide_eq_false_iff_not] at e3
        have hx : n / 2 ^ 8 < 256 := by omega
        have wx : IntKind.u8.wrap ((n / 2 ^ 8 : Nat) : Int) = ((n / 2 ^ 8 : Nat) : Int) := wu8 (by omega) (by omega)
        have hb := bits_ge (n := n) (k := 8) (by omega)
        have hb2 := bits_8 hx
        have hfin : IntKind.i64.wrap ((8 : Int) + (bitsOf (n / 2 ^ 8) : Int)) = (bitsOf n : Int) := by rw [wi64 (by omega) (by omega)]; omega
        simp only [go_sem, ↓reduceIte, Nat.reduceLT, Nat.reduceLeDiff, Nat.reduceAdd, Nat.reduceSub, Nat.reduceMul, Nat.reduceEqDiff, Nat.reduceBEq, Nat.reduceMod, Nat.reduceDiv, Int.reduceToNat, reduceCtorEq, Int.reduceLT, Int.reduceLE, Int.reduceGT, Int.reduceGE, Int.reduceAdd, Int.reduceSub, Int.reduceMul, Int.reduceNeg, Int.reduceEq, Int.reduceNe, Int.reduceBNe, Int.reduceBEq, Int.reduceDiv, s32, s16, s8, s3216, s328, s168, s32168, wi8, wi16, wi24, wi40, wi48, wi56, wx, Int.toNat_natCast, tab_len, tab_at _ hx, w8_bits hx, hfin, Int.zero_add]
        refine ⟨⟨by omega, by omega⟩, ?_⟩
        refine finOne ?_ (fun _ e => by cases e)
        show resOf _ _ [.tmp 2] = _
        simp only [go_sem, ↓reduceIte, Nat.reduceLT, Nat.reduceLeDiff, Nat.reduceAdd, Nat.reduceSub, Nat.reduceMul, Nat.reduceEqDiff, Nat.reduceBEq, Nat.reduceMod, Nat.reduceDiv, Int.reduceToNat, reduceCtorEq, Int.reduceLT, Int.reduceLE, Int.reduceGT, Int.reduceGE, Int.reduceAdd, Int.reduceSub, Int.reduceMul, Int.reduceNeg, Int.reduceEq, Int.reduceNe, Int.reduceBNe, Int.reduceBEq, Int.reduceDiv]
      · simp only [decide_eq_true_eq, decide_eq_false_iff_not] at e3
        have hx : n < 256 := by omega
        have wx : IntKind.u8.wrap ((n : Nat) : Int) = ((n : Nat) : Int) := wu8 (by omega) (by omega)
        have hb2 := bits_8 hx
        have hfin : IntKind.i64.wrap ((0 : Int) + (bitsOf (n) : Int)) = (bitsOf n : Int) := by rw [wi64 (by omega) (by omega)]; omega
        rw [Int.zero_add] at hfin
        simp only [go_sem, ↓reduceIte, Nat.reduceLT, Nat.reduceLeDiff, Nat.reduceAdd, Nat.reduceSub, Nat.reduceMul, Nat.reduceEqDiff, Nat.reduceBEq, Nat.reduceMod, Nat.reduceDiv, Int.reduceToNat, reduceCtorEq, Int.reduceLT, Int.reduceLE, Int.reduceGT, Int.reduceGE, Int.reduceAdd, Int.reduceSub, Int.reduceMul, Int.reduceNeg, Int.reduceEq, Int.reduceNe, Int.reduceBNe, Int.reduceBEq, Int.reduceDiv, s32, s16, s8, s3216, s328, s168, s32168, wi8, wi16, wi24, wi40, wi48, wi56, wx, Int.toNat_natCast, tab_len, tab_at _ hx, w8_bits hx, hfin, Int.zero_add]
        refine ⟨⟨by omega, by omega⟩, ?_⟩
        refine finOne ?_ (fun _ e => by cases e)
        show resOf _ _ [.tmp 2] = _
        simp only [go_sem, ↓reduceIte, Nat.reduceLT, Nat.reduceLeDiff, Nat.reduceAdd, Nat.reduceSub, Nat.reduceMul, Nat.reduceEqDiff, Nat.reduceBEq, Nat.reduceMod, Nat.reduceDiv, Int.reduceToNat, reduceCtorEq, Int.reduceLT, Int.reduceLE, Int.reduceGT, Int.reduceGE, Int.reduceAdd, Int.reduceSub, Int.reduceMul, Int.reduceNeg, Int.reduceEq, Int.reduceNe, Int.reduceBNe, Int.reduceBEq, Int.reduceDiv]
end Go.Proofs.Ytjfnmlheehbojaa.VA
