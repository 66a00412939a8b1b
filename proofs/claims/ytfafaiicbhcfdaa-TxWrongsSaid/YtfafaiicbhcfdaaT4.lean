/- Numbers of 256 bits: how many bits, bytes. Numbers of 256 bits as bytes. Numbers of 256 bits as bytes: the page's own, and back. The number of bytes. Items: whether two are alike, copies; what is too heavy. Items' bytes: the small functions. Items out of bytes: the head. Items out of bytes: one item, all of them. Where paths come together behind a choice, some of them having returned before. Items out of bytes: the page's own. Items out of bytes: the page's answer at the top. Products of numbers of 256 bits. -/
import Derived.Test.YtfafaiicbhcfdaaT1
import Derived.Test.YtfafaiicbhcfdaaT2
import Derived.Test.YtfafaiicbhcfdaaT3
section
/- Numbers of 256 bits: how many bits, bytes. -/
namespace Go.Proofs.Ytfafaiicbhcfdaa.VA
set_option maxRecDepth 10000
set_option linter.unusedSimpArgs false
set_option linter.unusedVariables false
set_option maxHeartbeats 4000000

theorem u_small (n : Nat) (h : n < 18446744073709551616) : u n = .agg [.int .u64 n, .int .u64 (0 : Int), .int .u64 (0 : Int), .int .u64 (0 : Int)] :=
  u_eq (b := 0) (c := 0) (d := 0) h (by decide) (by decide) (by decide) (by omega)
theorem c_u256_Of (n : Nat) (h : n < 9223372036854775808) : Contract Try.prog 113 [.int .i64 n] (.tup [u n, .int .i64 0]) := by
  rw [u_small n (by omega)]
  refine contract_of (C := cf 10 [0, 2, 3, 5] (fun _ => [])) (cf_ok _ _ _) (fn := Try.f113) Try.func113 (by kernel_rfl) rfl (by kernel_rfl) (by simp [cf]) (plain1 (.int _ _)) (by decide) (cellsOk (by kernel_rfl)) ?_
  have w : IntKind.u64.wrap (n : Int) = n := wu64 (by omega) (by omega)
  have e : decide ((n : Int) < 0) = false := decide_eq_false (by omega)
  simp only [go_sem, ↓reduceIte, Nat.reduceLT, Nat.reduceLeDiff, Nat.reduceAdd, Nat.reduceSub, Nat.reduceMul, Nat.reduceEqDiff, Nat.reduceBEq, Nat.reduceMod, Nat.reduceDiv, Int.reduceToNat, reduceCtorEq, Int.reduceLT, Int.reduceLE, Int.reduceGT, Int.reduceGE, Int.reduceAdd, Int.reduceSub, Int.reduceMul, Int.reduceNeg, Int.reduceEq, Int.reduceNe, Int.reduceBNe, Int.reduceBEq, Int.reduceDiv, w, e]
  refine finTup ?_
  show resOf _ _ [.cell 2 26, .tmp 3] = _
  simp only [go_sem, ↓reduceIte, Nat.reduceLT, Nat.reduceLeDiff, Nat.reduceAdd, Nat.reduceSub, Nat.reduceMul, Nat.reduceEqDiff, Nat.reduceBEq, Nat.reduceMod, Nat.reduceDiv, Int.reduceToNat, reduceCtorEq, Int.reduceLT, Int.reduceLE, Int.reduceGT, Int.reduceGE, Int.reduceAdd, Int.reduceSub, Int.reduceMul, Int.reduceNeg, Int.reduceEq, Int.reduceNe, Int.reduceBNe, Int.reduceBEq, Int.reduceDiv]
theorem c_ref1_Of (n : Nat) (h : n < 9223372036854775808) : Contract Try.prog 75 [.int .i64 n] (u n) := by
  rw [u_small n (by omega)]
  refine contract_of (C := cf 6 [0, 2] (fun _ => [])) (cf_ok _ _ _) (fn := Try.f75) Try.func75 (by kernel_rfl) rfl (by kernel_rfl) (by simp [cf]) (plain1 (.int _ _)) (by decide) (cellsOk (by kernel_rfl)) ?_
  have w : IntKind.u64.wrap (n : Int) = n := wu64 (by omega) (by omega)
  simp only [go_sem, ↓reduceIte, Nat.reduceLT, Nat.reduceLeDiff, Nat.reduceAdd, Nat.reduceSub, Nat.reduceMul, Nat.reduceEqDiff, Nat.reduceBEq, Nat.reduceMod, Nat.reduceDiv, Int.reduceToNat, reduceCtorEq, Int.reduceLT, Int.reduceLE, Int.reduceGT, Int.reduceGE, Int.reduceAdd, Int.reduceSub, Int.reduceMul, Int.reduceNeg, Int.reduceEq, Int.reduceNe, Int.reduceBNe, Int.reduceBEq, Int.reduceDiv, w]
  refine finOne ?_ (fun _ e => by cases e)
  show resOf _ _ [.cell 2 26] = _
  simp only [go_sem, ↓reduceIte, Nat.reduceLT, Nat.reduceLeDiff, Nat.reduceAdd, Nat.reduceSub, Nat.reduceMul, Nat.reduceEqDiff, Nat.reduceBEq, Nat.reduceMod, Nat.reduceDiv, Int.reduceToNat, reduceCtorEq, Int.reduceLT, Int.reduceLE, Int.reduceGT, Int.reduceGE, Int.reduceAdd, Int.reduceSub, Int.reduceMul, Int.reduceNeg, Int.reduceEq, Int.reduceNe, Int.reduceBNe, Int.reduceBEq, Int.reduceDiv]
theorem bits_div (n k : Nat) : bitsOf (n / 2 ^ k) = bitsOf n - k := by
  have h : ∀ j, bitsOf (n / 2 ^ k) ≤ j ↔ bitsOf n ≤ j + k := fun j => by
    rw [bits_le, bits_le, Nat.div_lt_iff_lt_mul (Nat.two_pow_pos k), Nat.pow_add]
  have h1 := (h (bitsOf n - k)).2 (by omega)
  have h2 := (h (bitsOf (n / 2 ^ k))).1 (Nat.le_refl _)
  omega
def limbsOf (n : Nat) : Nat := (bitsOf n + 63) / 64
theorem limbs_eq {n i : Nat} (h1 : n < 2 ^ (64 * i)) (h2 : i = 0 ∨ 2 ^ (64 * (i - 1)) ≤ n) : limbsOf n = i := by
  have h3 := (bits_le n _).2 h1
  unfold limbsOf
  rcases h2 with rfl | h2
  · omega
  · have : ¬ bitsOf n ≤ 64 * (i - 1) := fun e => by
      have := (bits_le n _).1 e
      omega
    omega
theorem wi0 : IntKind.i64.wrap 0 = 0 := by decide
theorem wi1 : IntKind.i64.wrap 1 = 1 := by decide
theorem wi2 : IntKind.i64.wrap 2 = 2 := by decide
theorem wi3 : IntKind.i64.wrap 3 = 3 := by decide
theorem c_u256_limbs (n : Nat) (hn : n < U) : Contract Try.prog 109 [u n] (.int .i64 (limbsOf n)) := by
  obtain ⟨s0, s1, s2, s3, h0, h1, h2, h3, en⟩ := u_limbs n hn
  rw [u_eq h0 h1 h2 h3 en]
  refine contract_of (C := cf 16 [1, 2, 3, 12] (fun _ => [])) (cf_ok _ _ _) (fn := Try.f109) Try.func109 (by kernel_rfl) rfl (by kernel_rfl) (by simp [cf]) (plain1 (u4_plain _ _ _ _)) (by decide) (noCell (by kernel_rfl)) ?_
  simp only [go_sem, ↓reduceIte, Nat.reduceLT, Nat.reduceLeDiff, Nat.reduceAdd, Nat.reduceSub, Nat.reduceMul, Nat.reduceEqDiff, Nat.reduceBEq, Nat.reduceMod, Nat.reduceDiv, Int.reduceToNat, reduceCtorEq, Int.reduceLT, Int.reduceLE, Int.reduceGT, Int.reduceGE, Int.reduceAdd, Int.reduceSub, Int.reduceMul, Int.reduceNeg, Int.reduceEq, Int.reduceNe, Int.reduceBNe, Int.reduceBEq, Int.reduceDiv]
  refine ex_iter [1, 3] (fun i : Nat => ⟨[(1, .var 1 0), (3, .int .i64 i)], [(1, [.int .u64 s0, .int .u64 s1, .int .u64 s2, .int .u64 s3])]⟩) (fun i => i ≤ 4 ∧ n < 2 ^ (64 * i)) (fun i => i) 4 ?_ ?_ ?_
  · simp only [ASt.keep, consIf, keepL, keepV, AV.isBot, List.contains_cons, List.contains_nil, Nat.reduceBEq, Bool.or_false, Bool.false_or, Bool.or_true, Bool.true_or, beq_self_eq_true, Bool.false_eq_true, ↓reduceIte, if_false, if_true]
    rfl
  · exact ⟨Nat.le_refl _, by unfold U at hn; omega⟩
  · rintro r i ⟨hi, hlt⟩ next
    have fin : limbsOf n = i → True := fun _ => trivial
    have fin : ∀ {σ : ASt}, look σ.tmps 2 = some (.int .i64 i) → limbsOf n = i → BodyPost (cf 16 [1, 2, 3, 12] (fun _ => [])) Try.f109.results.toList (.int .i64 (limbsOf n)) .ret σ := fun h1 h2 => by
      refine finOne ?_ (fun _ e => by cases e)
      show resOf _ _ [.tmp 2] = _
      rw [h2]
      simp only [resOf, resAll, resOne, resCons, resTup, resTmp, h1, AV.isImm, if_true]
    obtain rfl | rfl | rfl | rfl | rfl : i = 0 ∨ i = 1 ∨ i = 2 ∨ i = 3 ∨ i = 4 := by omega
    · simp only [go_sem, ↓reduceIte, Nat.reduceLT, Nat.reduceLeDiff, Nat.reduceAdd, Nat.reduceSub, Nat.reduceMul, Nat.reduceEqDiff, Nat.reduceBEq, Nat.reduceMod, Nat.reduceDiv, Int.reduceToNat, reduceCtorEq, Int.reduceLT, Int.reduceLE, Int.reduceGT, Int.reduceGE, Int.reduceAdd, Int.reduceSub, Int.reduceMul, Int.reduceNeg, Int.reduceEq, Int.reduceNe, Int.reduceBNe, Int.reduceBEq, Int.reduceDiv, Int.cast_ofNat_Int]
      exact fin rfl (limbs_eq hlt (.inl rfl))
    · simp only [go_sem, ↓reduceIte, Nat.reduceLT, Nat.reduceLeDiff, Nat.reduceAdd, Nat.reduceSub, Nat.reduceMul, Nat.reduceEqDiff, Nat.reduceBEq, Nat.reduceMod, Nat.reduceDiv, Int.reduceToNat, reduceCtorEq, Int.reduceLT, Int.reduceLE, Int.reduceGT, Int.reduceGE, Int.reduceAdd, Int.reduceSub, Int.reduceMul, Int.reduceNeg, Int.reduceEq, Int.reduceNe, Int.reduceBNe, Int.reduceBEq, Int.reduceDiv, Int.cast_ofNat_Int, wi0, wi1, wi2, wi3]
      refine ex_br (fun hc => ?_) (fun hc => ?_)
      · simp only [go_sem, ↓reduceIte, Nat.reduceLT, Nat.reduceLeDiff, Nat.reduceAdd, Nat.reduceSub, Nat.reduceMul, Nat.reduceEqDiff, Nat.reduceBEq, Nat.reduceMod, Nat.reduceDiv, Int.reduceToNat, reduceCtorEq, Int.reduceLT, Int.reduceLE, Int.reduceGT, Int.reduceGE, Int.reduceAdd, Int.reduceSub, Int.reduceMul, Int.reduceNeg, Int.reduceEq, Int.reduceNe, Int.reduceBNe, Int.reduceBEq, Int.reduceDiv, wi0, wi1, wi2, wi3]
        have hc : s0 = 0 := by simpa using hc
        exact next 0 _ ⟨by omega, by omega⟩ (by omega) rfl
      · have hc : s0 ≠ 0 := by simpa using hc
        simp only [go_sem, ↓reduceIte, Nat.reduceLT, Nat.reduceLeDiff, Nat.reduceAdd, Nat.reduceSub, Nat.reduceMul, Nat.reduceEqDiff, Nat.reduceBEq, Nat.reduceMod, Nat.reduceDiv, Int.reduceToNat, reduceCtorEq, Int.reduceLT, Int.reduceLE, Int.reduceGT, Int.reduceGE, Int.reduceAdd, Int.reduceSub, Int.reduceMul, Int.reduceNeg, Int.reduceEq, Int.reduceNe, Int.reduceBNe, Int.reduceBEq, Int.reduceDiv]
        exact fin rfl (limbs_eq hlt (.inr (by omega)))
    · simp only [go_sem, ↓reduceIte, Nat.reduceLT, Nat.reduceLeDiff, Nat.reduceAdd, Nat.reduceSub, Nat.reduceMul, Nat.reduceEqDiff, Nat.reduceBEq, Nat.reduceMod, Nat.reduceDiv, Int.reduceToNat, reduceCtorEq, Int.reduceLT, Int.reduceLE, Int.reduceGT, Int.reduceGE, Int.reduceAdd, Int.reduceSub, Int.reduceMul, Int.reduceNeg, Int.reduceEq, Int.reduceNe, Int.reduceBNe, Int.reduceBEq, Int.reduceDiv, Int.cast_ofNat_Int, wi0, wi1, wi2, wi3]
      refine ex_br (fun hc => ?_) (fun hc => ?_)
      · simp only [go_sem, ↓reduceIte, Nat.reduceLT, Nat.reduceLeDiff, Nat.reduceAdd, Nat.reduceSub, Nat.reduceMul, Nat.reduceEqDiff, Nat.reduceBEq, Nat.reduceMod, Nat.reduceDiv, Int.reduceToNat, reduceCtorEq, Int.reduceLT, Int.reduceLE, Int.reduceGT, Int.reduceGE, Int.reduceAdd, Int.reduceSub, Int.reduceMul, Int.reduceNeg, Int.reduceEq, Int.reduceNe, Int.reduceBNe, Int.reduceBEq, Int.reduceDiv, wi0, wi1, wi2, wi3]
        have hc : s1 = 0 := by simpa using hc
        exact next 1 _ ⟨by omega, by omega⟩ (by omega) rfl
      · have hc : s1 ≠ 0 := by simpa using hc
        simp only [go_sem, ↓reduceIte, Nat.reduceLT, Nat.reduceLeDiff, Nat.reduceAdd, Nat.reduceSub, Nat.reduceMul, Nat.reduceEqDiff, Nat.reduceBEq, Nat.reduceMod, Nat.reduceDiv, Int.reduceToNat, reduceCtorEq, Int.reduceLT, Int.reduceLE, Int.reduceGT, Int.reduceGE, Int.reduceAdd, Int.reduceSub, Int.reduceMul, Int.reduceNeg, Int.reduceEq, Int.reduceNe, Int.reduceBNe, Int.reduceBEq, Int.reduceDiv]
        exact fin rfl (limbs_eq hlt (.inr (by omega)))
    · simp only [go_sem, ↓reduceIte, Nat.reduceLT, Nat.reduceLeDiff, Nat.reduceAdd, Nat.reduceSub, Nat.reduceMul, Nat.reduceEqDiff, Nat.reduceBEq, Nat.reduceMod, Nat.reduceDiv, Int.reduceToNat, reduceCtorEq, Int.reduceLT, Int.reduceLE, Int.reduceGT, Int.reduceGE, Int.reduceAdd, Int.reduceSub, Int.reduceMul, Int.reduceNeg, Int.reduceEq, Int.reduceNe, Int.reduceBNe, Int.reduceBEq, Int.reduceDiv, Int.cast_ofNat_Int, wi0, wi1, wi2, wi3]
      refine ex_br (fun hc => ?_) (fun hc => ?_)
      · simp only [go_sem, ↓reduceIte, Nat.reduceLT, Nat.reduceLeDiff, Nat.reduceAdd, Nat.reduceSub, Nat.reduceMul, Nat.reduceEqDiff, Nat.reduceBEq, Nat.reduceMod, Nat.reduceDiv, Int.reduceToNat, reduceCtorEq, Int.reduceLT, Int.reduceLE, Int.reduceGT, Int.reduceGE, Int.reduceAdd, Int.reduceSub, Int.reduceMul, Int.reduceNeg, Int.reduceEq, Int.reduceNe, Int.reduceBNe, Int.reduceBEq, Int.reduceDiv, wi0, wi1, wi2, wi3]
        have hc : s2 = 0 := by simpa using hc
        exact next 2 _ ⟨by omega, by omega⟩ (by omega) rfl
      · have hc : s2 ≠ 0 := by simpa using hc
        simp only [go_sem, ↓reduceIte, Nat.reduceLT, Nat.reduceLeDiff, Nat.reduceAdd, Nat.reduceSub, Nat.reduceMul, Nat.reduceEqDiff, Nat.reduceBEq, Nat.reduceMod, Nat.reduceDiv, Int.reduceToNat, reduceCtorEq, Int.reduceLT, Int.reduceLE, Int.reduceGT, Int.reduceGE, Int.reduceAdd, Int.reduceSub, Int.reduceMul, Int.reduceNeg, Int.reduceEq, Int.reduceNe, Int.reduceBNe, Int.reduceBEq, Int.reduceDiv]
        exact fin rfl (limbs_eq hlt (.inr (by omega)))
    · simp only [go_sem, ↓reduceIte, Nat.reduceLT, Nat.reduceLeDiff, Nat.reduceAdd, Nat.reduceSub, Nat.reduceMul, Nat.reduceEqDiff, Nat.reduceBEq, Nat.reduceMod, Nat.reduceDiv, Int.reduceToNat, reduceCtorEq, Int.reduceLT, Int.reduceLE, Int.reduceGT, Int.reduceGE, Int.reduceAdd, Int.reduceSub, Int.reduceMul, Int.reduceNeg, Int.reduceEq, Int.reduceNe, Int.reduceBNe, Int.reduceBEq, Int.reduceDiv, Int.cast_ofNat_Int, wi0, wi1, wi2, wi3]
      refine ex_br (fun hc => ?_) (fun hc => ?_)
      · simp only [go_sem, ↓reduceIte, Nat.reduceLT, Nat.reduceLeDiff, Nat.reduceAdd, Nat.reduceSub, Nat.reduceMul, Nat.reduceEqDiff, Nat.reduceBEq, Nat.reduceMod, Nat.reduceDiv, Int.reduceToNat, reduceCtorEq, Int.reduceLT, Int.reduceLE, Int.reduceGT, Int.reduceGE, Int.reduceAdd, Int.reduceSub, Int.reduceMul, Int.reduceNeg, Int.reduceEq, Int.reduceNe, Int.reduceBNe, Int.reduceBEq, Int.reduceDiv, wi0, wi1, wi2, wi3]
        have hc : s3 = 0 := by simpa using hc
        exact next 3 _ ⟨by omega, by omega⟩ (by omega) rfl
      · have hc : s3 ≠ 0 := by simpa using hc
        simp only [go_sem, ↓reduceIte, Nat.reduceLT, Nat.reduceLeDiff, Nat.reduceAdd, Nat.reduceSub, Nat.reduceMul, Nat.reduceEqDiff, Nat.reduceBEq, Nat.reduceMod, Nat.reduceDiv, Int.reduceToNat, reduceCtorEq, Int.reduceLT, Int.reduceLE, Int.reduceGT, Int.reduceGE, Int.reduceAdd, Int.reduceSub, Int.reduceMul, Int.reduceNeg, Int.reduceEq, Int.reduceNe, Int.reduceBNe, Int.reduceBEq, Int.reduceDiv]
        exact fin rfl (limbs_eq hlt (.inr (by omega)))
theorem shr_nat (n k : Nat) (hk : k ≤ 64) : (n : Int).fdiv (2 ^ (min k 64)) = ((n / 2 ^ k : Nat) : Int) := by
  rw [show min k 64 = k from Nat.min_eq_left hk, Int.fdiv_eq_ediv_of_nonneg _ (Int.pow_nonneg (by decide))]
  norm_cast
theorem tab_at (x : Nat) (hx : x < 256) : ((([0, 1, 2, 2, 3, 3, 3, 3, 4, 4, 4, 4, 4, 4, 4, 4, 5, 5, 5, 5, 5, 5, 5, 5, 5, 5, 5, 5, 5, 5, 5, 5, 6, 6, 6, 6, 6, 6, 6, 6, 6, 6, 6, 6, 6, 6, 6, 6, 6, 6, 6, 6, 6, 6, 6, 6, 6, 6, 6, 6, 6, 6, 6, 6].append [7, 7, 7, 7, 7, 7, 7, 7, 7, 7, 7, 7, 7, 7, 7, 7, 7, 7, 7, 7, 7, 7, 7, 7, 7, 7, 7, 7, 7, 7, 7, 7, 7, 7, 7, 7, 7, 7, 7, 7, 7, 7, 7, 7, 7, 7, 7, 7, 7, 7, 7, 7, 7, 7, 7, 7, 7, 7, 7, 7, 7, 7, 7, 7]).append ([8, 8, 8, 8, 8, 8, 8, 8, 8, 8, 8, 8, 8, 8, 8, 8, 8, 8, 8, 8, 8, 8, 8, 8, 8, 8, 8, 8, 8, 8, 8, 8, 8, 8, 8, 8, 8, 8, 8, 8, 8, 8, 8, 8, 8, 8, 8, 8, 8, 8, 8, 8, 8, 8, 8, 8, 8, 8, 8, 8, 8, 8, 8, 8].append [8, 8, 8, 8, 8, 8, 8, 8, 8, 8, 8, 8, 8, 8, 8, 8, 8, 8, 8, 8, 8, 8, 8, 8, 8, 8, 8, 8, 8, 8, 8, 8, 8, 8, 8, 8, 8, 8, 8, 8, 8, 8, 8, 8, 8, 8, 8, 8, 8, 8, 8, 8, 8, 8, 8, 8, 8, 8, 8, 8, 8, 8, 8, 8])) : List UInt8)[x]? = some (UInt8.ofNat (bitsOf x)) := by
  have h : (List.range 256).all (fun x => ((([0, 1, 2, 2, 3, 3, 3, 3, 4, 4, 4, 4, 4, 4, 4, 4, 5, 5, 5, 5, 5, 5, 5, 5, 5, 5, 5, 5, 5, 5, 5, 5, 6, 6, 6, 6, 6, 6, 6, 6, 6, 6, 6, 6, 6, 6, 6, 6, 6, 6, 6, 6, 6, 6, 6, 6, 6, 6, 6, 6, 6, 6, 6, 6].append [7, 7, 7, 7, 7, 7, 7, 7, 7, 7, 7, 7, 7, 7, 7, 7, 7, 7, 7, 7, 7, 7, 7, 7, 7, 7, 7, 7, 7, 7, 7, 7, 7, 7, 7, 7, 7, 7, 7, 7, 7, 7, 7, 7, 7, 7, 7, 7, 7, 7, 7, 7, 7, 7, 7, 7, 7, 7, 7, 7, 7, 7, 7, 7]).append ([8, 8, 8, 8, 8, 8, 8, 8, 8, 8, 8, 8, 8, 8, 8, 8, 8, 8, 8, 8, 8, 8, 8, 8, 8, 8, 8, 8, 8, 8, 8, 8, 8, 8, 8, 8, 8, 8, 8, 8, 8, 8, 8, 8, 8, 8, 8, 8, 8, 8, 8, 8, 8, 8, 8, 8, 8, 8, 8, 8, 8, 8, 8, 8].append [8, 8, 8, 8, 8, 8, 8, 8, 8, 8, 8, 8, 8, 8, 8, 8, 8, 8, 8, 8, 8, 8, 8, 8, 8, 8, 8, 8, 8, 8, 8, 8, 8, 8, 8, 8, 8, 8, 8, 8, 8, 8, 8, 8, 8, 8, 8, 8, 8, 8, 8, 8, 8, 8, 8, 8, 8, 8, 8, 8, 8, 8, 8, 8])) : List UInt8)[x]? == some (UInt8.ofNat (bitsOf x))) = true := by kernel_rfl
  have := List.all_eq_true.1 h x (List.mem_range.2 hx)
  simpa using this
theorem tab_len : ((([0, 1, 2, 2, 3, 3, 3, 3, 4, 4, 4, 4, 4, 4, 4, 4, 5, 5, 5, 5, 5, 5, 5, 5, 5, 5, 5, 5, 5, 5, 5, 5, 6, 6, 6, 6, 6, 6, 6, 6, 6, 6, 6, 6, 6, 6, 6, 6, 6, 6, 6, 6, 6, 6, 6, 6, 6, 6, 6, 6, 6, 6, 6, 6].append [7, 7, 7, 7, 7, 7, 7, 7, 7, 7, 7, 7, 7, 7, 7, 7, 7, 7, 7, 7, 7, 7, 7, 7, 7, 7, 7, 7, 7, 7, 7, 7, 7, 7, 7, 7, 7, 7, 7, 7, 7, 7, 7, 7, 7, 7, 7, 7, 7, 7, 7, 7, 7, 7, 7, 7, 7, 7, 7, 7, 7, 7, 7, 7]).append ([8, 8, 8, 8, 8, 8, 8, 8, 8, 8, 8, 8, 8, 8, 8, 8, 8, 8, 8, 8, 8, 8, 8, 8, 8, 8, 8, 8, 8, 8, 8, 8, 8, 8, 8, 8, 8, 8, 8, 8, 8, 8, 8, 8, 8, 8, 8, 8, 8, 8, 8, 8, 8, 8, 8, 8, 8, 8, 8, 8, 8, 8, 8, 8].append [8, 8, 8, 8, 8, 8, 8, 8, 8, 8, 8, 8, 8, 8, 8, 8, 8, 8, 8, 8, 8, 8, 8, 8, 8, 8, 8, 8, 8, 8, 8, 8, 8, 8, 8, 8, 8, 8, 8, 8, 8, 8, 8, 8, 8, 8, 8, 8, 8, 8, 8, 8, 8, 8, 8, 8, 8, 8, 8, 8, 8, 8, 8, 8])) : List UInt8).length = 256 := by kernel_rfl
theorem bits_8 {n : Nat} (h : n < 256) : bitsOf n ≤ 8 := (bits_le n 8).2 h
theorem wiK (k : Nat) (h : k ≤ 1000) : IntKind.i64.wrap (k : Int) = (k : Int) := wi64 (by omega) (by omega)
theorem wi64k : IntKind.i64.wrap 64 = 64 := by decide
theorem wi128k : IntKind.i64.wrap 128 = 128 := by decide
theorem wi192k : IntKind.i64.wrap 192 = 192 := by decide
theorem w8_bits {x : Nat} (h : x < 256) : IntKind.i64.wrap ((UInt8.ofNat (bitsOf x)).toNat : Int) = (bitsOf x : Int) := by
  have := bits_8 h
  rw [show (UInt8.ofNat (bitsOf x)).toNat = bitsOf x by rw [UInt8.toNat_ofNat']; omega]
  exact wi64 (by omega) (by omega)
theorem wi8 : IntKind.i64.wrap 8 = 8 := by decide
theorem wi16 : IntKind.i64.wrap 16 = 16 := by decide
theorem wi24 : IntKind.i64.wrap 24 = 24 := by decide
theorem wi40 : IntKind.i64.wrap 40 = 40 := by decide
theorem wi48 : IntKind.i64.wrap 48 = 48 := by decide
theorem wi56 : IntKind.i64.wrap 56 = 56 := by decide
theorem bits_ge {n k : Nat} (h : 2 ^ k ≤ n) : k < bitsOf n := by
  have := bits_le n k
  omega
theorem c_Len64 (n : Nat) (hn : n < 18446744073709551616) : Contract Try.prog 110 [.int .u64 n] (.int .i64 (bitsOf n)) := by
  have d32 := bits_div n 32
  have d16 := bits_div n 16
  have d8 := bits_div n 8
  have d3216 := bits_div (n / 2 ^ 32) 16
  have d328 := bits_div (n / 2 ^ 32) 8
  have d168 := bits_div (n / 2 ^ 16) 8
  have d32168 := bits_div (n / 2 ^ 32 / 2 ^ 16) 8
  refine contract_of (C := cf 25 [0, 2, 4, 8, 14] (fun _ => [])) (cf_ok _ _ _) (fn := Try.f110) Try.func110 (by kernel_rfl) rfl (by kernel_rfl) (by simp [cf]) (plain1 (.int _ _)) (by decide) (noCell (by kernel_rfl)) ?_
  simp only [go_sem, ↓reduceIte, Nat.reduceLT, Nat.reduceLeDiff, Nat.reduceAdd, Nat.reduceSub, Nat.reduceMul, Nat.reduceEqDiff, Nat.reduceBEq, Nat.reduceMod, Nat.reduceDiv, Int.reduceToNat, reduceCtorEq, Int.reduceLT, Int.reduceLE, Int.reduceGT, Int.reduceGE, Int.reduceAdd, Int.reduceSub, Int.reduceMul, Int.reduceNeg, Int.reduceEq, Int.reduceNe, Int.reduceBNe, Int.reduceBEq, Int.reduceDiv]
  have s32 := shr_nat n 32 (by decide)
  have s16 := shr_nat n 16 (by decide)
  have s8 := shr_nat n 8 (by decide)
  have s3216 := shr_nat (n / 2 ^ 32) 16 (by decide)
  have s328 := shr_nat (n / 2 ^ 32) 8 (by decide)
  have s168 := shr_nat (n / 2 ^ 16) 8 (by decide)
  have s32168 := shr_nat (n / 2 ^ 32 / 2 ^ 16) 8 (by decide)
  refine ex_br (fun e1 => ?_) (fun e1 => ?_)
  · simp only [decide_eq_true_eq, decide_eq_false_iff_not] at e1
    simp only [go_sem, ↓reduceIte, Nat.reduceLT, Nat.reduceLeDiff, Nat.reduceAdd, Nat.reduceSub, Nat.reduceMul, Nat.reduceEqDiff, Nat.reduceBEq, Nat.reduceMod, Nat.reduceDiv, Int.reduceToNat, reduceCtorEq, Int.reduceLT, Int.reduceLE, Int.reduceGT, Int.reduceGE, Int.reduceAdd, Int.reduceSub, Int.reduceMul, Int.reduceNeg, Int.reduceEq, Int.reduceNe, Int.reduceBNe, Int.reduceBEq, Int.reduceDiv, s32, s16, s8, s3216, s328, s168, s32168, wi8, wi16, wi24, wi40, wi48, wi56]
    refine ex_br (fun e2 => ?_) (fun e2 => ?_)
    · simp only [decide_eq_true_eq, decide_eq_false_iff_not] at e2
      simp only [go_sem, ↓reduceIte, Nat.reduceLT, Nat.reduceLeDiff, Nat.reduceAdd, Nat.reduceSub, Nat.reduceMul, Nat.reduceEqDiff, Nat.reduceBEq, Nat.reduceMod, Nat.reduceDiv, Int.reduceToNat, reduceCtorEq, Int.reduceLT, Int.reduceLE, Int.reduceGT, Int.reduceGE, Int.reduceAdd, Int.reduceSub, Int.reduceMul, Int.reduceNeg, Int.reduceEq, Int.reduceNe, Int.reduceBNe, Int.reduceBEq, Int.reduceDiv, s32, s16, s8, s3216, s328, s168, s32168, wi8, wi16, wi24, wi40, wi48, wi56]
      refine ex_br (fun e3 => ?_) (fun e3 => ?_)
      · simp only [decide_eq_true_eq, decide_eq_false_iff_not] at e3
        have hx : n / 2 ^ 32 / 2 ^ 16 / 2 ^ 8 < 256 := by omega
        have wx : IntKind.u8.wrap ((n / 2 ^ 32 / 2 ^ 16 / 2 ^ 8 : Nat) : Int) = ((n / 2 ^ 32 / 2 ^ 16 / 2 ^ 8 : Nat) : Int) := wu8 (by omega) (by omega)
        have hb := bits_ge (n := n) (k := 56) (by omega)
        have hb2 := bits_8 hx
        have hfin : IntKind.i64.wrap ((56 : Int) + (bitsOf (n / 2 ^ 32 / 2 ^ 16 / 2 ^ 8) : Int)) = (bitsOf n : Int) := by rw [wi64 (by omega) (by omega)]; omega
        simp only [go_sem, ↓reduceIte, Nat.reduceLT, Nat.reduceLeDiff, Nat.reduceAdd, Nat.reduceSub, Nat.reduceMul, Nat.reduceEqDiff, Nat.reduceBEq, Nat.reduceMod, Nat.reduceDiv, Int.reduceToNat, reduceCtorEq, Int.reduceLT, Int.reduceLE, Int.reduceGT, Int.reduceGE, Int.reduceAdd, Int.reduceSub, Int.reduceMul, Int.reduceNeg, Int.reduceEq, Int.reduceNe, Int.reduceBNe, Int.reduceBEq, Int.reduceDiv, s32, s16, s8, s3216, s328, s168, s32168, wi8, wi16, wi24, wi40, wi48, wi56, wx, Int.toNat_natCast, tab_len, tab_at _ hx, w8_bits hx, hfin, Int.zero_add]
        refine ⟨⟨by omega, by omega⟩, ?_⟩
        refine finOne ?_ (fun _ e => by cases e)
        show resOf _ _ [.tmp 2] = _
        simp only [go_sem, ↓reduceIte, Nat.reduceLT, Nat.reduceLeDiff, Nat.reduceAdd, Nat.reduceSub, Nat.reduceMul, Nat.reduceEqDiff, Nat.reduceBEq, Nat.reduceMod, Nat.reduceDiv, Int.reduceToNat, reduceCtorEq, Int.reduceLT, Int.reduceLE, Int.reduceGT, Int.reduceGE, Int.reduceAdd, Int.reduceSub, Int.reduceMul, Int.reduceNeg, Int.reduceEq, Int.reduceNe, Int.reduceBNe, Int.reduceBEq, Int.reduceDiv]
      · simp only [decide_eq_true_eq, decide_eq_false_iff_not] at e3
        have hx : n / 2 ^ 32 / 2 ^ 16 < 256 := by omega
        have wx : IntKind.u8.wrap ((n / 2 ^ 32 / 2 ^ 16 : Nat) : Int) = ((n / 2 ^ 32 / 2 ^ 16 : Nat) : Int) := wu8 (by omega) (by omega)
        have hb := bits_ge (n := n) (k := 48) (by omega)
        have hb2 := bits_8 hx
        have hfin : IntKind.i64.wrap ((48 : Int) + (bitsOf (n / 2 ^ 32 / 2 ^ 16) : Int)) = (bitsOf n : Int) := by rw [wi64 (by omega) (by omega)]; omega
        simp only [go_sem, ↓reduceIte, Nat.reduceLT, Nat.reduceLeDiff, Nat.reduceAdd, Nat.reduceSub, Nat.reduceMul, Nat.reduceEqDiff, Nat.reduceBEq, Nat.reduceMod, Nat.reduceDiv, Int.reduceToNat, reduceCtorEq, Int.reduceLT, Int.reduceLE, Int.reduceGT, Int.reduceGE, Int.reduceAdd, Int.reduceSub, Int.reduceMul, Int.reduceNeg, Int.reduceEq, Int.reduceNe, Int.reduceBNe, Int.reduceBEq, Int.reduceDiv, s32, s16, s8, s3216, s328, s168, s32168, wi8, wi16, wi24, wi40, wi48, wi56, wx, Int.toNat_natCast, tab_len, tab_at _ hx, w8_bits hx, hfin, Int.zero_add]
        refine ⟨⟨by omega, by omega⟩, ?_⟩
        refine finOne ?_ (fun _ e => by cases e)
        show resOf _ _ [.tmp 2] = _
        simp only [go_sem, ↓reduceIte, Nat.reduceLT, Nat.reduceLeDiff, Nat.reduceAdd, Nat.reduceSub, Nat.reduceMul, Nat.reduceEqDiff, Nat.reduceBEq, Nat.reduceMod, Nat.reduceDiv, Int.reduceToNat, reduceCtorEq, Int.reduceLT, Int.reduceLE, Int.reduceGT, Int.reduceGE, Int.reduceAdd, Int.reduceSub, Int.reduceMul, Int.reduceNeg, Int.reduceEq, Int.reduceNe, Int.reduceBNe, Int.reduceBEq, Int.reduceDiv]
    · simp only [decide_eq_true_eq, decide_eq_false_iff_not] at e2
      simp only [go_sem, ↓reduceIte, Nat.reduceLT, Nat.reduceLeDiff, Nat.reduceAdd, Nat.reduceSub, Nat.reduceMul, Nat.reduceEqDiff, Nat.reduceBEq, Nat.reduceMod, Nat.reduceDiv, Int.reduceToNat, reduceCtorEq, Int.reduceLT, Int.reduceLE, Int.reduceGT, Int.reduceGE, Int.reduceAdd, Int.reduceSub, Int.reduceMul, Int.reduceNeg, Int.reduceEq, Int.reduceNe, Int.reduceBNe, Int.reduceBEq, Int.reduceDiv, s32, s16, s8, s3216, s328, s168, s32168, wi8, wi16, wi24, wi40, wi48, wi56]
      refine ex_br (fun e3 => ?_) (fun e3 => ?_)
      · simp only [decide_eq_true_eq, decide_eq_false_iff_not] at e3
        have hx : n / 2 ^ 32 / 2 ^ 8 < 256 := by omega
        have wx : IntKind.u8.wrap ((n / 2 ^ 32 / 2 ^ 8 : Nat) : Int) = ((n / 2 ^ 32 / 2 ^ 8 : Nat) : Int) := wu8 (by omega) (by omega)
        have hb := bits_ge (n := n) (k := 40) (by omega)
        have hb2 := bits_8 hx
        have hfin : IntKind.i64.wrap ((40 : Int) + (bitsOf (n / 2 ^ 32 / 2 ^ 8) : Int)) = (bitsOf n : Int) := by rw [wi64 (by omega) (by omega)]; omega
        simp only [go_sem, ↓reduceIte, Nat.reduceLT, Nat.reduceLeDiff, Nat.reduceAdd, Nat.reduceSub, Nat.reduceMul, Nat.reduceEqDiff, Nat.reduceBEq, Nat.reduceMod, Nat.reduceDiv, Int.reduceToNat, reduceCtorEq, Int.reduceLT, Int.reduceLE, Int.reduceGT, Int.reduceGE, Int.reduceAdd, Int.reduceSub, Int.reduceMul, Int.reduceNeg, Int.reduceEq, Int.reduceNe, Int.reduceBNe, Int.reduceBEq, Int.reduceDiv, s32, s16, s8, s3216, s328, s168, s32168, wi8, wi16, wi24, wi40, wi48, wi56, wx, Int.toNat_natCast, tab_len, tab_at _ hx, w8_bits hx, hfin, Int.zero_add]
        refine ⟨⟨by omega, by omega⟩, ?_⟩
        refine finOne ?_ (fun _ e => by cases e)
        show resOf _ _ [.tmp 2] = _
        simp only [go_sem, ↓reduceIte, Nat.reduceLT, Nat.reduceLeDiff, Nat.reduceAdd, Nat.reduceSub, Nat.reduceMul, Nat.reduceEqDiff, Nat.reduceBEq, Nat.reduceMod, Nat.reduceDiv, Int.reduceToNat, reduceCtorEq, Int.reduceLT, Int.reduceLE, Int.reduceGT, Int.reduceGE, Int.reduceAdd, Int.reduceSub, Int.reduceMul, Int.reduceNeg, Int.reduceEq, Int.reduceNe, Int.reduceBNe, Int.reduceBEq, Int.reduceDiv]
      · simp only [decide_eq_true_eq, decide_eq_false_iff_not] at e3
        have hx : n / 2 ^ 32 < 256 := by omega
        have wx : IntKind.u8.wrap ((n / 2 ^ 32 : Nat) : Int) = ((n / 2 ^ 32 : Nat) : Int) := wu8 (by omega) (by omega)
        have hb := bits_ge (n := n) (k := 32) (by omega)
        have hb2 := bits_8 hx
        have hfin : IntKind.i64.wrap ((32 : Int) + (bitsOf (n / 2 ^ 32) : Int)) = (bitsOf n : Int) := by rw [wi64 (by omega) (by omega)]; omega
        simp only [go_sem, ↓reduceIte, Nat.reduceLT, Nat.reduceLeDiff, Nat.reduceAdd, Nat.reduceSub, Nat.reduceMul, Nat.reduceEqDiff, Nat.reduceBEq, Nat.reduceMod, Nat.reduceDiv, Int.reduceToNat, reduceCtorEq, Int.reduceLT, Int.reduceLE, Int.reduceGT, Int.reduceGE, Int.reduceAdd, Int.reduceSub, Int.reduceMul, Int.reduceNeg, Int.reduceEq, Int.reduceNe, Int.reduceBNe, Int.reduceBEq, Int.reduceDiv, s32, s16, s8, s3216, s328, s168, s32168, wi8, wi16, wi24, wi40, wi48, wi56, wx, Int.toNat_natCast, tab_len, tab_at _ hx, w8_bits hx, hfin, Int.zero_add]
        refine ⟨⟨by omega, by omega⟩, ?_⟩
        refine finOne ?_ (fun _ e => by cases e)
        show resOf _ _ [.tmp 2] = _
        simp only [go_sem, ↓reduceIte, Nat.reduceLT, Nat.reduceLeDiff, Nat.reduceAdd, Nat.reduceSub, Nat.reduceMul, Nat.reduceEqDiff, Nat.reduceBEq, Nat.reduceMod, Nat.reduceDiv, Int.reduceToNat, reduceCtorEq, Int.reduceLT, Int.reduceLE, Int.reduceGT, Int.reduceGE, Int.reduceAdd, Int.reduceSub, Int.reduceMul, Int.reduceNeg, Int.reduceEq, Int.reduceNe, Int.reduceBNe, Int.reduceBEq, Int.reduceDiv]
  · simp only [decide_eq_true_eq, decide_eq_false_iff_not] at e1
    simp only [go_sem, ↓reduceIte, Nat.reduceLT, Nat.reduceLeDiff, Nat.reduceAdd, Nat.reduceSub, Nat.reduceMul, Nat.reduceEqDiff, Nat.reduceBEq, Nat.reduceMod, Nat.reduceDiv, Int.reduceToNat, reduceCtorEq, Int.reduceLT, Int.reduceLE, Int.reduceGT, Int.reduceGE, Int.reduceAdd, Int.reduceSub, Int.reduceMul, Int.reduceNeg, Int.reduceEq, Int.reduceNe, Int.reduceBNe, Int.reduceBEq, Int.reduceDiv, s32, s16, s8, s3216, s328, s168, s32168, wi8, wi16, wi24, wi40, wi48, wi56]
    refine ex_br (fun e2 => ?_) (fun e2 => ?_)
    · simp only [decide_eq_true_eq, decide_eq_false_iff_not] at e2
      simp only [go_sem, ↓reduceIte, Nat.reduceLT, Nat.reduceLeDiff, Nat.reduceAdd, Nat.reduceSub, Nat.reduceMul, Nat.reduceEqDiff, Nat.reduceBEq, Nat.reduceMod, Nat.reduceDiv, Int.reduceToNat, reduceCtorEq, Int.reduceLT, Int.reduceLE, Int.reduceGT, Int.reduceGE, Int.reduceAdd, Int.reduceSub, Int.reduceMul, Int.reduceNeg, Int.reduceEq, Int.reduceNe, Int.reduceBNe, Int.reduceBEq, Int.reduceDiv, s32, s16, s8, s3216, s328, s168, s32168, wi8, wi16, wi24, wi40, wi48, wi56]
      refine ex_br (fun e3 => ?_) (fun e3 => ?_)
      · simp only [decide_eq_true_eq, decide_eq_false_iff_not] at e3
        have hx : n / 2 ^ 16 / 2 ^ 8 < 256 := by omega
        have wx : IntKind.u8.wrap ((n / 2 ^ 16 / 2 ^ 8 : Nat) : Int) = ((n / 2 ^ 16 / 2 ^ 8 : Nat) : Int) := wu8 (by omega) (by omega)
        have hb := bits_ge (n := n) (k := 24) (by omega)
        have hb2 := bits_8 hx
        have hfin : IntKind.i64.wrap ((24 : Int) + (bitsOf (n / 2 ^ 16 / 2 ^ 8) : Int)) = (bitsOf n : Int) := by rw [wi64 (by omega) (by omega)]; omega
        simp only [go_sem, ↓reduceIte, Nat.reduceLT, Nat.reduceLeDiff, Nat.reduceAdd, Nat.reduceSub, Nat.reduceMul, Nat.reduceEqDiff, Nat.reduceBEq, Nat.reduceMod, Nat.reduceDiv, Int.reduceToNat, reduceCtorEq, Int.reduceLT, Int.reduceLE, Int.reduceGT, Int.reduceGE, Int.reduceAdd, Int.reduceSub, Int.reduceMul, Int.reduceNeg, Int.reduceEq, Int.reduceNe, Int.reduceBNe, Int.reduceBEq, Int.reduceDiv, s32, s16, s8, s3216, s328, s168, s32168, wi8, wi16, wi24, wi40, wi48, wi56, wx, Int.toNat_natCast, tab_len, tab_at _ hx, w8_bits hx, hfin, Int.zero_add]
        refine ⟨⟨by omega, by omega⟩, ?_⟩
        refine finOne ?_ (fun _ e => by cases e)
        show resOf _ _ [.tmp 2] = _
        simp only [go_sem, ↓reduceIte, Nat.reduceLT, Nat.reduceLeDiff, Nat.reduceAdd, Nat.reduceSub, Nat.reduceMul, Nat.reduceEqDiff, Nat.reduceBEq, Nat.reduceMod, Nat.reduceDiv, Int.reduceToNat, reduceCtorEq, Int.reduceLT, Int.reduceLE, Int.reduceGT, Int.reduceGE, Int.reduceAdd, Int.reduceSub, Int.reduceMul, Int.reduceNeg, Int.reduceEq, Int.reduceNe, Int.reduceBNe, Int.reduceBEq, Int.reduceDiv]
      · simp only [decide_eq_true_eq, decide_eq_false_iff_not] at e3
        have hx : n / 2 ^ 16 < 256 := by omega
        have wx : IntKind.u8.wrap ((n / 2 ^ 16 : Nat) : Int) = ((n / 2 ^ 16 : Nat) : Int) := wu8 (by omega) (by omega)
        have hb := bits_ge (n := n) (k := 16) (by omega)
        have hb2 := bits_8 hx
        have hfin : IntKind.i64.wrap ((16 : Int) + (bitsOf (n / 2 ^ 16) : Int)) = (bitsOf n : Int) := by rw [wi64 (by omega) (by omega)]; omega
        simp only [go_sem, ↓reduceIte, Nat.reduceLT, Nat.reduceLeDiff, Nat.reduceAdd, Nat.reduceSub, Nat.reduceMul, Nat.reduceEqDiff, Nat.reduceBEq, Nat.reduceMod, Nat.reduceDiv, Int.reduceToNat, reduceCtorEq, Int.reduceLT, Int.reduceLE, Int.reduceGT, Int.reduceGE, Int.reduceAdd, Int.reduceSub, Int.reduceMul, Int.reduceNeg, Int.reduceEq, Int.reduceNe, Int.reduceBNe, Int.reduceBEq, Int.reduceDiv, s32, s16, s8, s3216, s328, s168, s32168, wi8, wi16, wi24, wi40, wi48, wi56, wx, Int.toNat_natCast, tab_len, tab_at _ hx, w8_bits hx, hfin, Int.zero_add]
        refine ⟨⟨by omega, by omega⟩, ?_⟩
        refine finOne ?_ (fun _ e => by cases e)
        show resOf _ _ [.tmp 2] = _
        simp only [go_sem, ↓reduceIte, Nat.reduceLT, Nat.reduceLeDiff, Nat.reduceAdd, Nat.reduceSub, Nat.reduceMul, Nat.reduceEqDiff, Nat.reduceBEq, Nat.reduceMod, Nat.reduceDiv, Int.reduceToNat, reduceCtorEq, Int.reduceLT, Int.reduceLE, Int.reduceGT, Int.reduceGE, Int.reduceAdd, Int.reduceSub, Int.reduceMul, Int.reduceNeg, Int.reduceEq, Int.reduceNe, Int.reduceBNe, Int.reduceBEq, Int.reduceDiv]
    · simp only [decide_eq_true_eq, decide_eq_false_iff_not] at e2
      simp only [go_sem, ↓reduceIte, Nat.reduceLT, Nat.reduceLeDiff, Nat.reduceAdd, Nat.reduceSub, Nat.reduceMul, Nat.reduceEqDiff, Nat.reduceBEq, Nat.reduceMod, Nat.reduceDiv, Int.reduceToNat, reduceCtorEq, Int.reduceLT, Int.reduceLE, Int.reduceGT, Int.reduceGE, Int.reduceAdd, Int.reduceSub, Int.reduceMul, Int.reduceNeg, Int.reduceEq, Int.reduceNe, Int.reduceBNe, Int.reduceBEq, Int.reduceDiv, s32, s16, s8, s3216, s328, s168, s32168, wi8, wi16, wi24, wi40, wi48, wi56]
      refine ex_br (fun e3 => ?_) (fun e3 => ?_)
      · simp only [decide_eq_true_eq, decide_eq_false_iff_not] at e3
        have hx : n / 2 ^ 8 < 256 := by omega
        have wx : IntKind.u8.wrap ((n / 2 ^ 8 : Nat) : Int) = ((n / 2 ^ 8 : Nat) : Int) := wu8 (by omega) (by omega)
        have hb := bits_ge (n := n) (k := 8) (by omega)
        have hb2 := bits_8 hx
        have hfin : IntKind.i64.wrap ((8 : Int) + (bitsOf (n / 2 ^ 8) : Int)) = (bitsOf n : Int) := by rw [wi64 (by omega) (by omega)]; omega
        simp only [go_sem, ↓reduceIte, Nat.reduceLT, Nat.reduceLeDiff, Nat.reduceAdd, Nat.reduceSub, Nat.reduceMul, Nat.reduceEqDiff, Nat.reduceBEq, Nat.reduceMod, Nat.reduceDiv, Int.reduceToNat, reduceCtorEq, Int.reduceLT, Int.reduceLE, Int.reduceGT, Int.reduceGE, Int.reduceAdd, Int.reduceSub, Int.reduceMul, Int.reduceNeg, Int.reduceEq, Int.reduceNe, Int.reduceBNe, Int.reduceBEq, Int.reduceDiv, s32, s16, s8, s3216, s328, s168, s32168, wi8, wi16, wi24, wi40, wi48, wi56, wx, Int.toNat_natCast, tab_len, tab_at _ hx, w8_bits hx, hfin, Int.zero_add]
        refine ⟨⟨by omega, by omega⟩, ?_⟩
        refine finOne ?_ (fun _ e => by cases e)
        show resOf _ _ [.tmp 2] = _
        simp only [go_sem, ↓reduceIte, Nat.reduceLT, Nat.reduceLeDiff, Nat.reduceAdd, Nat.reduceSub, Nat.reduceMul, Nat.reduceEqDiff, Nat.reduceBEq, Nat.reduceMod, Nat.reduceDiv, Int.reduceToNat, reduceCtorEq, Int.reduceLT, Int.reduceLE, Int.reduceGT, Int.reduceGE, Int.reduceAdd, Int.reduceSub, Int.reduceMul, Int.reduceNeg, Int.reduceEq, Int.reduceNe, Int.reduceBNe, Int.reduceBEq, Int.reduceDiv]
      · simp only [decide_eq_true_eq, decide_eq_false_iff_not] at e3
        have hx : n < 256 := by omega
        have wx : IntKind.u8.wrap ((n : Nat) : Int) = ((n : Nat) : Int) := wu8 (by omega) (by omega)
        have hb2 := bits_8 hx
        have hfin : IntKind.i64.wrap ((0 : Int) + (bitsOf (n) : Int)) = (bitsOf n : Int) := by rw [wi64 (by omega) (by omega)]; omega
        rw [Int.zero_add] at hfin
        simp only [go_sem, ↓reduceIte, Nat.reduceLT, Nat.reduceLeDiff, Nat.reduceAdd, Nat.reduceSub, Nat.reduceMul, Nat.reduceEqDiff, Nat.reduceBEq, Nat.reduceMod, Nat.reduceDiv, Int.reduceToNat, reduceCtorEq, Int.reduceLT, Int.reduceLE, Int.reduceGT, Int.reduceGE, Int.reduceAdd, Int.reduceSub, Int.reduceMul, Int.reduceNeg, Int.reduceEq, Int.reduceNe, Int.reduceBNe, Int.reduceBEq, Int.reduceDiv, s32, s16, s8, s3216, s328, s168, s32168, wi8, wi16, wi24, wi40, wi48, wi56, wx, Int.toNat_natCast, tab_len, tab_at _ hx, w8_bits hx, hfin, Int.zero_add]
        refine ⟨⟨by omega, by omega⟩, ?_⟩
        refine finOne ?_ (fun _ e => by cases e)
        show resOf _ _ [.tmp 2] = _
        simp only [go_sem, ↓reduceIte, Nat.reduceLT, Nat.reduceLeDiff, Nat.reduceAdd, Nat.reduceSub, Nat.reduceMul, Nat.reduceEqDiff, Nat.reduceBEq, Nat.reduceMod, Nat.reduceDiv, Int.reduceToNat, reduceCtorEq, Int.reduceLT, Int.reduceLE, Int.reduceGT, Int.reduceGE, Int.reduceAdd, Int.reduceSub, Int.reduceMul, Int.reduceNeg, Int.reduceEq, Int.reduceNe, Int.reduceBNe, Int.reduceBEq, Int.reduceDiv]
end Go.Proofs.Ytfafaiicbhcfdaa.VA
end
section
/- Numbers of 256 bits as bytes. -/
namespace Go.Proofs.Ytfafaiicbhcfdaa.VA
set_option maxRecDepth 10000
set_option linter.unusedSimpArgs false
set_option linter.unusedVariables false
set_option maxHeartbeats 4000000

theorem wi64n (n : Nat) (h : n < 9223372036854775808) : IntKind.i64.wrap (n : Int) = (n : Int) := wi64 (by omega) (by omega)
theorem c_u256_Bits (n : Nat) (hn : n < U) : Contract Try.prog 102 [u n] (.int .i64 (bitsOf n)) := by
  have hc := c_u256_limbs n hn
  obtain ⟨s0, s1, s2, s3, h0, h1, h2, h3, en⟩ := u_limbs n hn
  have hle : bitsOf n ≤ 256 := (bits_le n 256).2 (by unfold U at hn; omega)
  have hb := bits_le n 0
  have hb1 := bits_le n 64
  have hb2 := bits_le n 128
  have hb3 := bits_le n 192
  have hl : limbsOf n = (bitsOf n + 63) / 64 := rfl
  rw [u_eq h0 h1 h2 h3 en] at hc ⊢
  refine contract_of (C := cf 17 [1, 2, 3, 7] (fun _ => [])) (cf_ok _ _ _) (fn := Try.f102) Try.func102 (by kernel_rfl) rfl (by kernel_rfl) (by simp [cf]) (plain1 (u4_plain _ _ _ _)) (by decide) (noCell (by kernel_rfl)) ?_
  simp only [go_sem, ↓reduceIte, Nat.reduceLT, Nat.reduceLeDiff, Nat.reduceAdd, Nat.reduceSub, Nat.reduceMul, Nat.reduceEqDiff, Nat.reduceBEq, Nat.reduceMod, Nat.reduceDiv, Int.reduceToNat, reduceCtorEq, Int.reduceLT, Int.reduceLE, Int.reduceGT, Int.reduceGE, Int.reduceAdd, Int.reduceSub, Int.reduceMul, Int.reduceNeg, Int.reduceEq, Int.reduceNe, Int.reduceBNe, Int.reduceBEq, Int.reduceDiv]
  refine ex_call (by exact hc) ?_
  have d1 := bits_div n 64
  have d2 := bits_div n 128
  have d3 := bits_div n 192
  obtain e | e | e | e | e : limbsOf n = 0 ∨ limbsOf n = 1 ∨ limbsOf n = 2 ∨ limbsOf n = 3 ∨ limbsOf n = 4 := by omega
  · rw [show (limbsOf n : Int) = 0 by omega]
    simp only [go_sem, ↓reduceIte, Nat.reduceLT, Nat.reduceLeDiff, Nat.reduceAdd, Nat.reduceSub, Nat.reduceMul, Nat.reduceEqDiff, Nat.reduceBEq, Nat.reduceMod, Nat.reduceDiv, Int.reduceToNat, reduceCtorEq, Int.reduceLT, Int.reduceLE, Int.reduceGT, Int.reduceGE, Int.reduceAdd, Int.reduceSub, Int.reduceMul, Int.reduceNeg, Int.reduceEq, Int.reduceNe, Int.reduceBNe, Int.reduceBEq, Int.reduceDiv]
    have e0 : (bitsOf n : Int) = 0 := by omega
    rw [e0]
    refine finOne ?_ (fun _ e => by cases e)
    show resOf _ _ [.tmp 2] = _
    simp only [go_sem, ↓reduceIte, Nat.reduceLT, Nat.reduceLeDiff, Nat.reduceAdd, Nat.reduceSub, Nat.reduceMul, Nat.reduceEqDiff, Nat.reduceBEq, Nat.reduceMod, Nat.reduceDiv, Int.reduceToNat, reduceCtorEq, Int.reduceLT, Int.reduceLE, Int.reduceGT, Int.reduceGE, Int.reduceAdd, Int.reduceSub, Int.reduceMul, Int.reduceNeg, Int.reduceEq, Int.reduceNe, Int.reduceBNe, Int.reduceBEq, Int.reduceDiv]
  · rw [show (limbsOf n : Int) = 1 by omega]
    have e0 : n = s0 := by omega
    have w : IntKind.i64.wrap (0 + (bitsOf s0 : Int)) = bitsOf n := by rw [← e0, wi64 (by omega) (by omega)]; omega
    rw [Int.zero_add] at w
    simp only [go_sem, ↓reduceIte, Nat.reduceLT, Nat.reduceLeDiff, Nat.reduceAdd, Nat.reduceSub, Nat.reduceMul, Nat.reduceEqDiff, Nat.reduceBEq, Nat.reduceMod, Nat.reduceDiv, Int.reduceToNat, reduceCtorEq, Int.reduceLT, Int.reduceLE, Int.reduceGT, Int.reduceGE, Int.reduceAdd, Int.reduceSub, Int.reduceMul, Int.reduceNeg, Int.reduceEq, Int.reduceNe, Int.reduceBNe, Int.reduceBEq, Int.reduceDiv, wi0, wi1, wi2, wi3]
    repeat with_reducible refine And.intro (by first | omega | (simp only [List.length_cons, List.length_append, List.length_nil, List.length_map, List.length_take, List.length_drop, List.length_set]; omega)) ?_
    refine ex_call (by exact c_Len64 s0 h0) ?_
    simp only [go_sem, ↓reduceIte, Nat.reduceLT, Nat.reduceLeDiff, Nat.reduceAdd, Nat.reduceSub, Nat.reduceMul, Nat.reduceEqDiff, Nat.reduceBEq, Nat.reduceMod, Nat.reduceDiv, Int.reduceToNat, reduceCtorEq, Int.reduceLT, Int.reduceLE, Int.reduceGT, Int.reduceGE, Int.reduceAdd, Int.reduceSub, Int.reduceMul, Int.reduceNeg, Int.reduceEq, Int.reduceNe, Int.reduceBNe, Int.reduceBEq, Int.reduceDiv, w, Int.zero_add]
    refine finOne ?_ (fun _ e => by cases e)
    show resOf _ _ [.tmp 2] = _
    simp only [go_sem, ↓reduceIte, Nat.reduceLT, Nat.reduceLeDiff, Nat.reduceAdd, Nat.reduceSub, Nat.reduceMul, Nat.reduceEqDiff, Nat.reduceBEq, Nat.reduceMod, Nat.reduceDiv, Int.reduceToNat, reduceCtorEq, Int.reduceLT, Int.reduceLE, Int.reduceGT, Int.reduceGE, Int.reduceAdd, Int.reduceSub, Int.reduceMul, Int.reduceNeg, Int.reduceEq, Int.reduceNe, Int.reduceBNe, Int.reduceBEq, Int.reduceDiv]
  · rw [show (limbsOf n : Int) = 2 by omega]
    have e0 : n / 2 ^ 64 = s1 := by omega
    have w : IntKind.i64.wrap (64 + (bitsOf s1 : Int)) = bitsOf n := by rw [← e0, wi64 (by omega) (by omega)]; omega
    simp only [go_sem, ↓reduceIte, Nat.reduceLT, Nat.reduceLeDiff, Nat.reduceAdd, Nat.reduceSub, Nat.reduceMul, Nat.reduceEqDiff, Nat.reduceBEq, Nat.reduceMod, Nat.reduceDiv, Int.reduceToNat, reduceCtorEq, Int.reduceLT, Int.reduceLE, Int.reduceGT, Int.reduceGE, Int.reduceAdd, Int.reduceSub, Int.reduceMul, Int.reduceNeg, Int.reduceEq, Int.reduceNe, Int.reduceBNe, Int.reduceBEq, Int.reduceDiv, wi0, wi1, wi2, wi3, wi64k]
    repeat with_reducible refine And.intro (by first | omega | (simp only [List.length_cons, List.length_append, List.length_nil, List.length_map, List.length_take, List.length_drop, List.length_set]; omega)) ?_
    refine ex_call (by exact c_Len64 s1 h1) ?_
    simp only [go_sem, ↓reduceIte, Nat.reduceLT, Nat.reduceLeDiff, Nat.reduceAdd, Nat.reduceSub, Nat.reduceMul, Nat.reduceEqDiff, Nat.reduceBEq, Nat.reduceMod, Nat.reduceDiv, Int.reduceToNat, reduceCtorEq, Int.reduceLT, Int.reduceLE, Int.reduceGT, Int.reduceGE, Int.reduceAdd, Int.reduceSub, Int.reduceMul, Int.reduceNeg, Int.reduceEq, Int.reduceNe, Int.reduceBNe, Int.reduceBEq, Int.reduceDiv, w]
    refine finOne ?_ (fun _ e => by cases e)
    show resOf _ _ [.tmp 2] = _
    simp only [go_sem, ↓reduceIte, Nat.reduceLT, Nat.reduceLeDiff, Nat.reduceAdd, Nat.reduceSub, Nat.reduceMul, Nat.reduceEqDiff, Nat.reduceBEq, Nat.reduceMod, Nat.reduceDiv, Int.reduceToNat, reduceCtorEq, Int.reduceLT, Int.reduceLE, Int.reduceGT, Int.reduceGE, Int.reduceAdd, Int.reduceSub, Int.reduceMul, Int.reduceNeg, Int.reduceEq, Int.reduceNe, Int.reduceBNe, Int.reduceBEq, Int.reduceDiv]
  · rw [show (limbsOf n : Int) = 3 by omega]
    have e0 : n / 2 ^ 128 = s2 := by omega
    have w : IntKind.i64.wrap (128 + (bitsOf s2 : Int)) = bitsOf n := by rw [← e0, wi64 (by omega) (by omega)]; omega
    simp only [go_sem, ↓reduceIte, Nat.reduceLT, Nat.reduceLeDiff, Nat.reduceAdd, Nat.reduceSub, Nat.reduceMul, Nat.reduceEqDiff, Nat.reduceBEq, Nat.reduceMod, Nat.reduceDiv, Int.reduceToNat, reduceCtorEq, Int.reduceLT, Int.reduceLE, Int.reduceGT, Int.reduceGE, Int.reduceAdd, Int.reduceSub, Int.reduceMul, Int.reduceNeg, Int.reduceEq, Int.reduceNe, Int.reduceBNe, Int.reduceBEq, Int.reduceDiv, wi0, wi1, wi2, wi3, wi128k]
    repeat with_reducible refine And.intro (by first | omega | (simp only [List.length_cons, List.length_append, List.length_nil, List.length_map, List.length_take, List.length_drop, List.length_set]; omega)) ?_
    refine ex_call (by exact c_Len64 s2 h2) ?_
    simp only [go_sem, ↓reduceIte, Nat.reduceLT, Nat.reduceLeDiff, Nat.reduceAdd, Nat.reduceSub, Nat.reduceMul, Nat.reduceEqDiff, Nat.reduceBEq, Nat.reduceMod, Nat.reduceDiv, Int.reduceToNat, reduceCtorEq, Int.reduceLT, Int.reduceLE, Int.reduceGT, Int.reduceGE, Int.reduceAdd, Int.reduceSub, Int.reduceMul, Int.reduceNeg, Int.reduceEq, Int.reduceNe, Int.reduceBNe, Int.reduceBEq, Int.reduceDiv, w]
    refine finOne ?_ (fun _ e => by cases e)
    show resOf _ _ [.tmp 2] = _
    simp only [go_sem, ↓reduceIte, Nat.reduceLT, Nat.reduceLeDiff, Nat.reduceAdd, Nat.reduceSub, Nat.reduceMul, Nat.reduceEqDiff, Nat.reduceBEq, Nat.reduceMod, Nat.reduceDiv, Int.reduceToNat, reduceCtorEq, Int.reduceLT, Int.reduceLE, Int.reduceGT, Int.reduceGE, Int.reduceAdd, Int.reduceSub, Int.reduceMul, Int.reduceNeg, Int.reduceEq, Int.reduceNe, Int.reduceBNe, Int.reduceBEq, Int.reduceDiv]
  · rw [show (limbsOf n : Int) = 4 by omega]
    have e0 : n / 2 ^ 192 = s3 := by omega
    have w : IntKind.i64.wrap (192 + (bitsOf s3 : Int)) = bitsOf n := by rw [← e0, wi64 (by omega) (by omega)]; omega
    simp only [go_sem, ↓reduceIte, Nat.reduceLT, Nat.reduceLeDiff, Nat.reduceAdd, Nat.reduceSub, Nat.reduceMul, Nat.reduceEqDiff, Nat.reduceBEq, Nat.reduceMod, Nat.reduceDiv, Int.reduceToNat, reduceCtorEq, Int.reduceLT, Int.reduceLE, Int.reduceGT, Int.reduceGE, Int.reduceAdd, Int.reduceSub, Int.reduceMul, Int.reduceNeg, Int.reduceEq, Int.reduceNe, Int.reduceBNe, Int.reduceBEq, Int.reduceDiv, wi0, wi1, wi2, wi3, wi192k]
    repeat with_reducible refine And.intro (by first | omega | (simp only [List.length_cons, List.length_append, List.length_nil, List.length_map, List.length_take, List.length_drop, List.length_set]; omega)) ?_
    refine ex_call (by exact c_Len64 s3 h3) ?_
    simp only [go_sem, ↓reduceIte, Nat.reduceLT, Nat.reduceLeDiff, Nat.reduceAdd, Nat.reduceSub, Nat.reduceMul, Nat.reduceEqDiff, Nat.reduceBEq, Nat.reduceMod, Nat.reduceDiv, Int.reduceToNat, reduceCtorEq, Int.reduceLT, Int.reduceLE, Int.reduceGT, Int.reduceGE, Int.reduceAdd, Int.reduceSub, Int.reduceMul, Int.reduceNeg, Int.reduceEq, Int.reduceNe, Int.reduceBNe, Int.reduceBEq, Int.reduceDiv, w]
    refine finOne ?_ (fun _ e => by cases e)
    show resOf _ _ [.tmp 2] = _
    simp only [go_sem, ↓reduceIte, Nat.reduceLT, Nat.reduceLeDiff, Nat.reduceAdd, Nat.reduceSub, Nat.reduceMul, Nat.reduceEqDiff, Nat.reduceBEq, Nat.reduceMod, Nat.reduceDiv, Int.reduceToNat, reduceCtorEq, Int.reduceLT, Int.reduceLE, Int.reduceGT, Int.reduceGE, Int.reduceAdd, Int.reduceSub, Int.reduceMul, Int.reduceNeg, Int.reduceEq, Int.reduceNe, Int.reduceBNe, Int.reduceBEq, Int.reduceDiv]
theorem limb_at (n j : Nat) (h : j < 4) : ([.int .u64 (lim n 0), .int .u64 (lim n 1), .int .u64 (lim n 2), .int .u64 (lim n 3)] : List AV)[j]? = some (.int .u64 (lim n j)) := by
  obtain rfl | rfl | rfl | rfl : j = 0 ∨ j = 1 ∨ j = 2 ∨ j = 3 := by omega
  all_goals rfl
theorem lim_byte (n i : Nat) : (n / 2 ^ (64 * (i / 8)) % 18446744073709551616) / 2 ^ (i % 8 * 8) % 256 = n / 256 ^ i % 256 := by
  have e1 : 18446744073709551616 = 2 ^ (i % 8 * 8) * 2 ^ (64 - i % 8 * 8) := by
    rw [← Nat.pow_add, show i % 8 * 8 + (64 - i % 8 * 8) = 64 by omega]
  have e2 : (256 : Nat) ^ i = 2 ^ (64 * (i / 8)) * 2 ^ (i % 8 * 8) := by
    rw [← Nat.pow_add, show (256 : Nat) = 2 ^ 8 by decide, ← Nat.pow_mul]
    congr 1; omega
  rw [e1, Nat.mod_mul_right_div_self, Nat.div_div_eq_div_mul, ← e2]
  refine Nat.mod_mod_of_dvd _ ?_
  rw [show (256 : Nat) = 2 ^ 8 by decide]
  exact Nat.pow_dvd_pow 2 (by omega)
def fill (n k i : Nat) : List AV := List.replicate (k - i) (u8 0) ++ (low i n).map u8
theorem fill_len {n k i : Nat} (h : i ≤ k) : (fill n k i).length = k := by unfold fill; simp [low_len]; omega
theorem fill_set (n k i : Nat) (h : i < k) : (fill n k i).set (k - 1 - i) (.int .u8 ((n / 256 ^ i % 256 : Nat) : Int)) = fill n k (i + 1) := by
  unfold fill
  rw [show (AV.int .u8 ((n / 256 ^ i % 256 : Nat) : Int)) = u8 (UInt8.ofNat (n / 256 ^ i)) by unfold u8; rw [UInt8.toNat_ofNat']]
  rw [show k - i = (k - (i + 1)) + 1 by omega, List.replicate_succ', List.append_assoc, List.set_append_right _ _ (by simp; omega)]
  simp only [List.length_replicate]
  rw [show k - 1 - i - (k - (i + 1)) = 0 by omega, low]
  rfl
theorem fill_get {n k i j : Nat} (h : i ≤ k) (hj : j < k) : ∃ e, (fill n k i)[j]? = some e := ⟨_, List.getElem?_eq_getElem (by rw [fill_len h]; exact hj)⟩
theorem fill_zero (n k : Nat) : fill n k 0 = List.replicate k (.int .u8 0) := by unfold fill; simp [low, u8]
theorem fill_end (n k : Nat) : fill n k k = (low k n).map u8 := by unfold fill; simp
theorem limb_byte (n i : Nat) : IntKind.u8.wrap ((lim n (i / 8)).fdiv (2 ^ min (i % 8 * 8) 64)) = ((n / 256 ^ i % 256 : Nat) : Int) := by
  unfold lim
  rw [shr_nat _ _ (by omega), ← lim_byte]
  show (((_ : Nat) : Int) % 256 : Int) = _
  omega
theorem c_u256_Text (n : Nat) (hn : n < U) : Contract Try.prog 89 [u n] (.str (bytesOf n)) := by
  have hle : bitsOf n ≤ 256 := (bits_le n 256).2 (by unfold U at hn; omega)
  have hc := c_u256_Bits n hn
  unfold u at hc ⊢
  refine contract_of (C := cf 34 [1, 2, 3, 4, 11, 12, 13] (fun _ => [])) (cf_ok _ _ _) (fn := Try.f89) Try.func89 (by kernel_rfl) rfl (by kernel_rfl) (by simp [cf]) (plain1 (u4_plain _ _ _ _)) (by decide) (noCell (by kernel_rfl)) ?_
  have w1 : IntKind.i64.wrap ((bitsOf n : Int) + 7) = ((bitsOf n + 7 : Nat) : Int) := by rw [wi64 (by omega) (by omega)]; omega
  have w2 : ((bitsOf n + 7 : Nat) : Int).tdiv 8 = (byteLen n : Int) := rfl
  have hbl : byteLen n ≤ 32 := by unfold byteLen; omega
  have w3 := wi64n (byteLen n) (by omega)
  simp only [go_sem, ↓reduceIte, Nat.reduceLT, Nat.reduceLeDiff, Nat.reduceAdd, Nat.reduceSub, Nat.reduceMul, Nat.reduceEqDiff, Nat.reduceBEq, Nat.reduceMod, Nat.reduceDiv, Int.reduceToNat, reduceCtorEq, Int.reduceLT, Int.reduceLE, Int.reduceGT, Int.reduceGE, Int.reduceAdd, Int.reduceSub, Int.reduceMul, Int.reduceNeg, Int.reduceEq, Int.reduceNe, Int.reduceBNe, Int.reduceBEq, Int.reduceDiv]
  refine ex_call (by exact hc) ?_
  simp only [go_sem, ↓reduceIte, Nat.reduceLT, Nat.reduceLeDiff, Nat.reduceAdd, Nat.reduceSub, Nat.reduceMul, Nat.reduceEqDiff, Nat.reduceBEq, Nat.reduceMod, Nat.reduceDiv, Int.reduceToNat, reduceCtorEq, Int.reduceLT, Int.reduceLE, Int.reduceGT, Int.reduceGE, Int.reduceAdd, Int.reduceSub, Int.reduceMul, Int.reduceNeg, Int.reduceEq, Int.reduceNe, Int.reduceBNe, Int.reduceBEq, Int.reduceDiv, w1, w2, w3, Int.toNat_natCast]
  repeat with_reducible refine And.intro (by first | omega | (simp only [List.length_cons, List.length_append, List.length_nil, List.length_map, List.length_take, List.length_drop, List.length_set]; omega)) ?_
  refine ex_iter [1, 3, 11, 12] (fun i : Nat => ⟨[(1, .var 1 0), (3, .own false 1 (fill n (byteLen n) i)), (11, .int .i64 (byteLen n)), (12, .int .i64 i)], [(1, [.int .u64 (lim n 0), .int .u64 (lim n 1), .int .u64 (lim n 2), .int .u64 (lim n 3)])]⟩) (fun i => i ≤ byteLen n) (fun i => byteLen n - i) 0 ?_ ?_ ?_
  · simp only [ASt.keep, consIf, keepL, keepV, AV.isBot, List.contains_cons, List.contains_nil, Nat.reduceBEq, Bool.or_false, Bool.false_or, Bool.or_true, Bool.true_or, beq_self_eq_true, Bool.false_eq_true, ↓reduceIte, if_false, if_true]
    rw [fill_zero, List.length_replicate]
    rfl
  · exact Nat.zero_le _
  · intro r i hi next
    simp only [go_sem, ↓reduceIte, Nat.reduceLT, Nat.reduceLeDiff, Nat.reduceAdd, Nat.reduceSub, Nat.reduceMul, Nat.reduceEqDiff, Nat.reduceBEq, Nat.reduceMod, Nat.reduceDiv, Int.reduceToNat, reduceCtorEq, Int.reduceLT, Int.reduceLE, Int.reduceGT, Int.reduceGE, Int.reduceAdd, Int.reduceSub, Int.reduceMul, Int.reduceNeg, Int.reduceEq, Int.reduceNe, Int.reduceBNe, Int.reduceBEq, Int.reduceDiv]
    refine ex_br (fun h => ?_) (fun h => ?_)
    · have hlt : i < byteLen n := by simpa using h
      have wq : (i : Int).tdiv 8 = ((i / 8 : Nat) : Int) := rfl
      have wr : (i : Int).tmod 8 = ((i % 8 : Nat) : Int) := rfl
      have wq2 := wi64n (i / 8) (by omega)
      have wm : IntKind.i64.wrap (((i % 8 : Nat) : Int) * 8) = ((i % 8 * 8 : Nat) : Int) := by rw [wi64 (by omega) (by omega)]; omega
      have ws1 : IntKind.i64.wrap ((byteLen n : Int) - 1) = ((byteLen n - 1 : Nat) : Int) := by rw [wi64 (by omega) (by omega)]; omega
      have ws2 : IntKind.i64.wrap (((byteLen n - 1 : Nat) : Int) - (i : Int)) = ((byteLen n - 1 - i : Nat) : Int) := by rw [wi64 (by omega) (by omega)]; omega
      have hlen : (fill n (byteLen n) i).length = byteLen n := fill_len hi
      obtain ⟨e, he⟩ := fill_get (n := n) hi (show byteLen n - 1 - i < byteLen n by omega)
      simp only [go_sem, ↓reduceIte, Nat.reduceLT, Nat.reduceLeDiff, Nat.reduceAdd, Nat.reduceSub, Nat.reduceMul, Nat.reduceEqDiff, Nat.reduceBEq, Nat.reduceMod, Nat.reduceDiv, Int.reduceToNat, reduceCtorEq, Int.reduceLT, Int.reduceLE, Int.reduceGT, Int.reduceGE, Int.reduceAdd, Int.reduceSub, Int.reduceMul, Int.reduceNeg, Int.reduceEq, Int.reduceNe, Int.reduceBNe, Int.reduceBEq, Int.reduceDiv, wq, wr, wq2, wm, ws1, ws2, hlen, Int.toNat_natCast, limb_at n _ (show i / 8 < 4 by omega)]
      repeat with_reducible refine And.intro (by first | omega | (simp only [List.length_cons, List.length_append, List.length_nil, List.length_map, List.length_take, List.length_drop, List.length_set]; omega)) ?_
      simp only [go_sem, ↓reduceIte, Nat.reduceLT, Nat.reduceLeDiff, Nat.reduceAdd, Nat.reduceSub, Nat.reduceMul, Nat.reduceEqDiff, Nat.reduceBEq, Nat.reduceMod, Nat.reduceDiv, Int.reduceToNat, reduceCtorEq, Int.reduceLT, Int.reduceLE, Int.reduceGT, Int.reduceGE, Int.reduceAdd, Int.reduceSub, Int.reduceMul, Int.reduceNeg, Int.reduceEq, Int.reduceNe, Int.reduceBNe, Int.reduceBEq, Int.reduceDiv, wq, wr, wq2, wm, ws1, ws2, hlen, Int.toNat_natCast, he, limb_byte, fill_set n _ _ hlt]
      refine next (i + 1) _ (by omega) (by omega) ?_
      rw [← wi64_nat i (by omega)]
      simp only [ASt.keep, consIf, keepL, keepV, AV.isBot, List.contains_cons, List.contains_nil, Nat.reduceBEq, Bool.or_false, Bool.false_or, Bool.or_true, Bool.true_or, beq_self_eq_true, Bool.false_eq_true, ↓reduceIte, if_false, if_true]
    · have hge : i = byteLen n := by simp at h; omega
      subst hge
      rw [fill_end]
      simp only [go_sem, ↓reduceIte, Nat.reduceLT, Nat.reduceLeDiff, Nat.reduceAdd, Nat.reduceSub, Nat.reduceMul, Nat.reduceEqDiff, Nat.reduceBEq, Nat.reduceMod, Nat.reduceDiv, Int.reduceToNat, reduceCtorEq, Int.reduceLT, Int.reduceLE, Int.reduceGT, Int.reduceGE, Int.reduceAdd, Int.reduceSub, Int.reduceMul, Int.reduceNeg, Int.reduceEq, Int.reduceNe, Int.reduceBNe, Int.reduceBEq, Int.reduceDiv, asU8_map]
      refine finOne ?_ (fun _ e => by cases e)
      show resOf _ _ [.tmp 2] = _
      simp only [go_sem, ↓reduceIte, Nat.reduceLT, Nat.reduceLeDiff, Nat.reduceAdd, Nat.reduceSub, Nat.reduceMul, Nat.reduceEqDiff, Nat.reduceBEq, Nat.reduceMod, Nat.reduceDiv, Int.reduceToNat, reduceCtorEq, Int.reduceLT, Int.reduceLE, Int.reduceGT, Int.reduceGE, Int.reduceAdd, Int.reduceSub, Int.reduceMul, Int.reduceNeg, Int.reduceEq, Int.reduceNe, Int.reduceBNe, Int.reduceBEq, Int.reduceDiv, bytesOf]
end Go.Proofs.Ytfafaiicbhcfdaa.VA
end
section
/- Numbers of 256 bits as bytes: the page's own, and back. -/
namespace Go.Proofs.Ytfafaiicbhcfdaa.VA
set_option maxRecDepth 10000
set_option linter.unusedSimpArgs false
set_option linter.unusedVariables false
set_option maxHeartbeats 4000000

theorem low_take {n L j : Nat} (h1 : 1 ≤ j) (h2 : j ≤ L) : (low L n).take (L - j) ++ [UInt8.ofNat (n / 256 ^ (j - 1))] = (low L n).take (L - (j - 1)) := by
  rw [show L - (j - 1) = (L - j) + 1 by omega, List.take_add_one, low_get L n _ (by omega)]
  rw [show L - 1 - (L - j) = j - 1 by omega]; rfl
theorem u8_ofNat (m : Nat) : u8 (UInt8.ofNat m) = .int .u8 ((m % 256 : Nat) : Int) := by unfold u8; rw [UInt8.toNat_ofNat']
theorem c_ref1_Text (n : Nat) (hn : n < U) : Contract Try.prog 55 [u n] (.str (bytesOf n)) := by
  have hle : bitsOf n ≤ 256 := (bits_le n 256).2 (by unfold U at hn; omega)
  have hbl : byteLen n ≤ 32 := by unfold byteLen; omega
  unfold u
  refine contract_of (C := cf 32 [1, 2, 3, 4, 5, 7, 25] (fun _ => [])) (cf_ok _ _ _) (fn := Try.f55) Try.func55 (by kernel_rfl) rfl (by kernel_rfl) (by simp [cf]) (plain1 (u4_plain _ _ _ _)) (by decide) (noCell (by kernel_rfl)) ?_
  simp only [go_sem, ↓reduceIte, Nat.reduceLT, Nat.reduceLeDiff, Nat.reduceAdd, Nat.reduceSub, Nat.reduceMul, Nat.reduceEqDiff, Nat.reduceBEq, Nat.reduceMod, Nat.reduceDiv, Int.reduceToNat, reduceCtorEq, Int.reduceLT, Int.reduceLE, Int.reduceGT, Int.reduceGE, Int.reduceAdd, Int.reduceSub, Int.reduceMul, Int.reduceNeg, Int.reduceEq, Int.reduceNe, Int.reduceBNe, Int.reduceBEq, Int.reduceDiv]
  refine ex_iter [1, 3, 4] (fun j : Nat => ⟨[(1, .var 1 0), (3, .own false 1 (((low (byteLen n) n).take (byteLen n - j)).map u8)), (4, .int .i64 ((j : Int) - 1))], [(1, [.int .u64 (lim n 0), .int .u64 (lim n 1), .int .u64 (lim n 2), .int .u64 (lim n 3)])]⟩) (fun j => j ≤ 32) (fun j => j) 32 ?_ ?_ ?_
  · simp only [ASt.keep, consIf, keepL, keepV, AV.isBot, List.contains_cons, List.contains_nil, Nat.reduceBEq, Bool.or_false, Bool.false_or, Bool.or_true, Bool.true_or, beq_self_eq_true, Bool.false_eq_true, ↓reduceIte, if_false, if_true]
    rw [show byteLen n - 32 = 0 by omega]
    rfl
  · exact Nat.le_refl _
  · intro r j hj next
    cases j with
    | zero =>
      rw [Nat.sub_zero, List.take_of_length_le (by rw [low_len]; omega), show ((0 : Nat) : Int) - 1 = -1 by decide]
      simp only [go_sem, ↓reduceIte, Nat.reduceLT, Nat.reduceLeDiff, Nat.reduceAdd, Nat.reduceSub, Nat.reduceMul, Nat.reduceEqDiff, Nat.reduceBEq, Nat.reduceMod, Nat.reduceDiv, Int.reduceToNat, reduceCtorEq, Int.reduceLT, Int.reduceLE, Int.reduceGT, Int.reduceGE, Int.reduceAdd, Int.reduceSub, Int.reduceMul, Int.reduceNeg, Int.reduceEq, Int.reduceNe, Int.reduceBNe, Int.reduceBEq, Int.reduceDiv, asU8_map]
      refine finOne ?_ (fun _ e => by cases e)
      show resOf _ _ [.tmp 2] = _
      simp only [go_sem, ↓reduceIte, Nat.reduceLT, Nat.reduceLeDiff, Nat.reduceAdd, Nat.reduceSub, Nat.reduceMul, Nat.reduceEqDiff, Nat.reduceBEq, Nat.reduceMod, Nat.reduceDiv, Int.reduceToNat, reduceCtorEq, Int.reduceLT, Int.reduceLE, Int.reduceGT, Int.reduceGE, Int.reduceAdd, Int.reduceSub, Int.reduceMul, Int.reduceNeg, Int.reduceEq, Int.reduceNe, Int.reduceBNe, Int.reduceBEq, Int.reduceDiv, bytesOf]
    | succ i =>
      rw [show ((i + 1 : Nat) : Int) - 1 = (i : Int) by omega]
      have wq : (i : Int).tdiv 8 = ((i / 8 : Nat) : Int) := rfl
      have wr : (i : Int).tmod 8 = ((i % 8 : Nat) : Int) := rfl
      have wq2 := wi64n (i / 8) (by omega)
      have wm : IntKind.i64.wrap (8 * ((i % 8 : Nat) : Int)) = ((i % 8 * 8 : Nat) : Int) := by rw [wi64 (by omega) (by omega)]; omega
      have e0 : decide ((i : Int) ≥ 0) = true := decide_eq_true (by omega)
      have ws1 : IntKind.i64.wrap ((i : Int) - 1) = (i : Int) - 1 := by rw [wi64 (by omega) (by omega)]
      have hlen : ((low (byteLen n) n).take (byteLen n - (i + 1))).length = byteLen n - (i + 1) := by rw [List.length_take, low_len]; omega
      rcases Decidable.em (i < byteLen n) with hlt | hge
      · have hap := low_take (n := n) (show 1 ≤ i + 1 by omega) (show i + 1 ≤ byteLen n by omega)
        rw [Nat.add_sub_cancel] at hap
        simp only [go_sem, ↓reduceIte, Nat.reduceLT, Nat.reduceLeDiff, Nat.reduceAdd, Nat.reduceSub, Nat.reduceMul, Nat.reduceEqDiff, Nat.reduceBEq, Nat.reduceMod, Nat.reduceDiv, Int.reduceToNat, reduceCtorEq, Int.reduceLT, Int.reduceLE, Int.reduceGT, Int.reduceGE, Int.reduceAdd, Int.reduceSub, Int.reduceMul, Int.reduceNeg, Int.reduceEq, Int.reduceNe, Int.reduceBNe, Int.reduceBEq, Int.reduceDiv, e0, wq, wr, wq2, wm, Int.toNat_natCast, limb_at n _ (show i / 8 < 4 by omega)]
        repeat with_reducible refine And.intro (by first | omega | (simp only [List.length_cons, List.length_append, List.length_nil, List.length_map, List.length_take, List.length_drop, List.length_set]; omega)) ?_
        simp only [go_sem, ↓reduceIte, Nat.reduceLT, Nat.reduceLeDiff, Nat.reduceAdd, Nat.reduceSub, Nat.reduceMul, Nat.reduceEqDiff, Nat.reduceBEq, Nat.reduceMod, Nat.reduceDiv, Int.reduceToNat, reduceCtorEq, Int.reduceLT, Int.reduceLE, Int.reduceGT, Int.reduceGE, Int.reduceAdd, Int.reduceSub, Int.reduceMul, Int.reduceNeg, Int.reduceEq, Int.reduceNe, Int.reduceBNe, Int.reduceBEq, Int.reduceDiv, e0, wq, wr, wq2, wm, Int.toNat_natCast, limb_byte, List.length_map, hlen]
        have hap2 : ((low (byteLen n) n).take (byteLen n - (i + 1))).map u8 ++ [.int .u8 ((n / 256 ^ i % 256 : Nat) : Int)] = ((low (byteLen n) n).take (byteLen n - i)).map u8 := by
          rw [← u8_ofNat, ← hap, List.map_append]; rfl
        refine ex_split (fun hb => ?_) (fun hb => ?_)
        · have hb : n / 256 ^ i % 256 = 0 := by
            generalize n / 256 ^ i % 256 = q at hb
            simpa using hb
          have hpos : decide (((byteLen n - (i + 1) : Nat) : Int) > 0) = true := by
            refine decide_eq_true ?_
            rcases Decidable.em (i + 1 < byteLen n) with h1 | h1
            · omega
            · have h2 := byteLen_ge n (by omega)
              rw [show byteLen n - 1 = i by omega] at h2
              have h3 := byteLen_lt n
              rw [show byteLen n = i + 1 by omega, Nat.pow_succ] at h3
              have h4 : n / 256 ^ i < 256 := Nat.div_lt_of_lt_mul h3
              have h5 : 1 ≤ n / 256 ^ i := (Nat.one_le_div_iff (Nat.pow_pos (by decide))).2 h2
              rw [Nat.mod_eq_of_lt h4] at hb
              omega
          simp only [go_sem, ↓reduceIte, Nat.reduceLT, Nat.reduceLeDiff, Nat.reduceAdd, Nat.reduceSub, Nat.reduceMul, Nat.reduceEqDiff, Nat.reduceBEq, Nat.reduceMod, Nat.reduceDiv, Int.reduceToNat, reduceCtorEq, Int.reduceLT, Int.reduceLE, Int.reduceGT, Int.reduceGE, Int.reduceAdd, Int.reduceSub, Int.reduceMul, Int.reduceNeg, Int.reduceEq, Int.reduceNe, Int.reduceBNe, Int.reduceBEq, Int.reduceDiv, List.length_map, hlen, hpos]
          repeat with_reducible refine And.intro (by first | omega | (simp only [List.length_cons, List.length_append, List.length_nil, List.length_map, List.length_take, List.length_drop, List.length_set]; omega)) ?_
          simp only [go_sem, ↓reduceIte, Nat.reduceLT, Nat.reduceLeDiff, Nat.reduceAdd, Nat.reduceSub, Nat.reduceMul, Nat.reduceEqDiff, Nat.reduceBEq, Nat.reduceMod, Nat.reduceDiv, Int.reduceToNat, reduceCtorEq, Int.reduceLT, Int.reduceLE, Int.reduceGT, Int.reduceGE, Int.reduceAdd, Int.reduceSub, Int.reduceMul, Int.reduceNeg, Int.reduceEq, Int.reduceNe, Int.reduceBNe, Int.reduceBEq, Int.reduceDiv, hap2]
          refine next i _ (by omega) (by omega) ?_
          simp only [ASt.keep, consIf, keepL, keepV, AV.isBot, List.contains_cons, List.contains_nil, Nat.reduceBEq, Bool.or_false, Bool.false_or, Bool.or_true, Bool.true_or, beq_self_eq_true, Bool.false_eq_true, ↓reduceIte, if_false, if_true]
          rw [ws1]
        · simp only [go_sem, ↓reduceIte, Nat.reduceLT, Nat.reduceLeDiff, Nat.reduceAdd, Nat.reduceSub, Nat.reduceMul, Nat.reduceEqDiff, Nat.reduceBEq, Nat.reduceMod, Nat.reduceDiv, Int.reduceToNat, reduceCtorEq, Int.reduceLT, Int.reduceLE, Int.reduceGT, Int.reduceGE, Int.reduceAdd, Int.reduceSub, Int.reduceMul, Int.reduceNeg, Int.reduceEq, Int.reduceNe, Int.reduceBNe, Int.reduceBEq, Int.reduceDiv, List.length_map, hlen]
          repeat with_reducible refine And.intro (by first | omega | (simp only [List.length_cons, List.length_append, List.length_nil, List.length_map, List.length_take, List.length_drop, List.length_set]; omega)) ?_
          simp only [go_sem, ↓reduceIte, Nat.reduceLT, Nat.reduceLeDiff, Nat.reduceAdd, Nat.reduceSub, Nat.reduceMul, Nat.reduceEqDiff, Nat.reduceBEq, Nat.reduceMod, Nat.reduceDiv, Int.reduceToNat, reduceCtorEq, Int.reduceLT, Int.reduceLE, Int.reduceGT, Int.reduceGE, Int.reduceAdd, Int.reduceSub, Int.reduceMul, Int.reduceNeg, Int.reduceEq, Int.reduceNe, Int.reduceBNe, Int.reduceBEq, Int.reduceDiv, hap2]
          refine next i _ (by omega) (by omega) ?_
          simp only [ASt.keep, consIf, keepL, keepV, AV.isBot, List.contains_cons, List.contains_nil, Nat.reduceBEq, Bool.or_false, Bool.false_or, Bool.or_true, Bool.true_or, beq_self_eq_true, Bool.false_eq_true, ↓reduceIte, if_false, if_true]
          rw [ws1]
      · have hz : ((n / 256 ^ i % 256 : Nat) : Int) = 0 := by rw [Nat.div_eq_of_lt ((byteLen_le n i).1 (by omega))]; rfl
        have hz2 : byteLen n - i = 0 := by omega
        rw [show byteLen n - (i + 1) = 0 by omega, List.take_zero]
        simp only [go_sem, ↓reduceIte, Nat.reduceLT, Nat.reduceLeDiff, Nat.reduceAdd, Nat.reduceSub, Nat.reduceMul, Nat.reduceEqDiff, Nat.reduceBEq, Nat.reduceMod, Nat.reduceDiv, Int.reduceToNat, reduceCtorEq, Int.reduceLT, Int.reduceLE, Int.reduceGT, Int.reduceGE, Int.reduceAdd, Int.reduceSub, Int.reduceMul, Int.reduceNeg, Int.reduceEq, Int.reduceNe, Int.reduceBNe, Int.reduceBEq, Int.reduceDiv, e0, wq, wr, wq2, wm, Int.toNat_natCast, limb_at n _ (show i / 8 < 4 by omega)]
        repeat with_reducible refine And.intro (by first | omega | (simp only [List.length_cons, List.length_append, List.length_nil, List.length_map, List.length_take, List.length_drop, List.length_set]; omega)) ?_
        simp only [go_sem, ↓reduceIte, Nat.reduceLT, Nat.reduceLeDiff, Nat.reduceAdd, Nat.reduceSub, Nat.reduceMul, Nat.reduceEqDiff, Nat.reduceBEq, Nat.reduceMod, Nat.reduceDiv, Int.reduceToNat, reduceCtorEq, Int.reduceLT, Int.reduceLE, Int.reduceGT, Int.reduceGE, Int.reduceAdd, Int.reduceSub, Int.reduceMul, Int.reduceNeg, Int.reduceEq, Int.reduceNe, Int.reduceBNe, Int.reduceBEq, Int.reduceDiv, e0, wq, wr, wq2, wm, Int.toNat_natCast, limb_byte, hz, Int.cast_ofNat_Int]
        refine next i _ (by omega) (by omega) ?_
        simp only [ASt.keep, consIf, keepL, keepV, AV.isBot, List.contains_cons, List.contains_nil, Nat.reduceBEq, Bool.or_false, Bool.false_or, Bool.or_true, Bool.true_or, beq_self_eq_true, Bool.false_eq_true, ↓reduceIte, if_false, if_true]
        rw [ws1, hz2]
        rfl
end Go.Proofs.Ytfafaiicbhcfdaa.VA
end
section
/- The number of bytes. -/
namespace Go.Proofs.Ytfafaiicbhcfdaa.VA
set_option maxRecDepth 10000
set_option linter.unusedSimpArgs false
set_option linter.unusedVariables false
set_option maxHeartbeats 4000000

def limN (n i : Nat) : Nat := n / 2 ^ (64 * i) % 18446744073709551616
theorem lim_limN (n i : Nat) : lim n i = (limN n i : Int) := rfl
theorem limN_take (m b i j : Nat) (hm : m < 256 ^ i) (hb : b < 256) : limN (m + b * 256 ^ i) j = if j = i / 8 then limN m j ||| (b * 2 ^ (i % 8 * 8)) else limN m j := by
  have e256 : ∀ k, (256 : Nat) ^ k = 2 ^ (8 * k) := fun k => by rw [show (256 : Nat) = 2 ^ 8 by decide, ← Nat.pow_mul]
  have hM : (18446744073709551616 : Nat) = 2 ^ 64 := by decide
  unfold limN
  split
  · rename_i e
    subst e
    have e1 : (256 : Nat) ^ i = 2 ^ (64 * (i / 8)) * 2 ^ (i % 8 * 8) := by
      rw [e256, ← Nat.pow_add]; congr 1; omega
    have hB : 2 ^ (i % 8 * 8) * 256 ≤ 2 ^ 64 := by
      rw [show (256 : Nat) = 2 ^ 8 by decide, ← Nat.pow_add]
      exact Nat.pow_le_pow_right (by decide) (by omega)
    rw [e1] at hm ⊢
    generalize 2 ^ (64 * (i / 8)) = A at *
    have hA : 0 < A := by
      rcases Nat.eq_zero_or_pos A with h | h
      · subst h; simp at hm
      · exact h
    have hq : m / A < 2 ^ (i % 8 * 8) := Nat.div_lt_of_lt_mul hm
    rw [show b * (A * 2 ^ (i % 8 * 8)) = A * (2 ^ (i % 8 * 8) * b) by rw [Nat.mul_comm b, Nat.mul_assoc], Nat.add_mul_div_left _ _ hA]
    have hs : 2 ^ (i % 8 * 8) * b + m / A < 2 ^ 64 := by
      have : 2 ^ (i % 8 * 8) * (b + 1) ≤ 2 ^ (i % 8 * 8) * 256 := Nat.mul_le_mul_left _ hb
      rw [Nat.mul_add, Nat.mul_one] at this
      omega
    have hs2 : m / A + 2 ^ (i % 8 * 8) * b < 2 ^ 64 := by rw [Nat.add_comm]; exact hs
    have hq2 : m / A < 2 ^ 64 := by
      generalize 2 ^ (i % 8 * 8) = X at *
      omega
    rw [hM, Nat.mod_eq_of_lt hs2, Nat.mod_eq_of_lt hq2, Nat.add_comm, Nat.two_pow_add_eq_or_of_lt hq, Nat.or_comm, Nat.mul_comm b]
  · rename_i e
    rcases Nat.lt_or_gt_of_ne e with h | h
    · have e1 : (256 : Nat) ^ i = 2 ^ (64 * j) * (2 ^ 64 * 2 ^ (8 * i - 64 * j - 64)) := by
        rw [e256, ← Nat.pow_add, ← Nat.pow_add]; congr 1; omega
      rw [e1, show b * (2 ^ (64 * j) * (2 ^ 64 * 2 ^ (8 * i - 64 * j - 64))) = 2 ^ (64 * j) * (2 ^ 64 * (2 ^ (8 * i - 64 * j - 64) * b)) by
        rw [Nat.mul_comm b, Nat.mul_assoc, Nat.mul_assoc], Nat.add_mul_div_left _ _ (Nat.two_pow_pos _), hM, Nat.add_mul_mod_self_left]
    · have h1 : (256 : Nat) ^ (i + 1) ≤ 2 ^ (64 * j) := by
        rw [e256]; exact Nat.pow_le_pow_right (by decide) (by omega)
      rw [Nat.pow_succ] at h1
      have h2 : (b + 1) * 256 ^ i ≤ 256 * 256 ^ i := Nat.mul_le_mul_right _ hb
      rw [Nat.add_mul, Nat.one_mul] at h2
      rw [Nat.div_eq_of_lt (by omega), Nat.div_eq_of_lt (by omega)]
theorem limN_lt (n i : Nat) : limN n i < 18446744073709551616 := Nat.mod_lt _ (by decide)
theorem or_natU {x y : Nat} (hx : x < 18446744073709551616) (hy : y < 18446744073709551616) : IntKind.u64.wrap (BitVec.ofInt 64 (x : Int) ||| BitVec.ofInt 64 (y : Int)).toNat = ((x ||| y : Nat) : Int) := by
  rw [ofInt_nat, ofInt_nat, BitVec.toNat_or, BitVec.toNat_ofNat, BitVec.toNat_ofNat, Nat.mod_eq_of_lt hx, Nat.mod_eq_of_lt hy]
  have : x ||| y < 2 ^ 64 := Nat.or_lt_two_pow hx hy
  exact wu64 (by omega) (by omega)
theorem or_nat2 {x y : Nat} (hx : x < 18446744073709551616) (hy : y < 18446744073709551616) : IntKind.u64.wrap (@BitVec.toNat 64 (@HOr.hOr (BitVec 64) (BitVec 64) (BitVec 64) (@instHOrOfOrOp (BitVec IntKind.u64.bits) (@BitVec.instOrOp IntKind.u64.bits)) (BitVec.ofInt 64 (x : Int)) (BitVec.ofInt 64 (y : Int)))) = ((x ||| y : Nat) : Int) := or_natU hx hy
def limbL (n : Nat) : List AV := [.int .u64 (lim n 0), .int .u64 (lim n 1), .int .u64 (lim n 2), .int .u64 (lim n 3)]
theorem limbL_get (n j : Nat) (h : j < 4) : (limbL n)[j]? = some (.int .u64 (limN n j)) := limb_at n j h
theorem limbL_set (m b i : Nat) (hm : m < 256 ^ i) (hb : b < 256) (hi : i < 32) : (limbL m).set (i / 8) (.int .u64 ((limN m (i / 8) ||| (b * 2 ^ (i % 8 * 8)) : Nat) : Int)) = limbL (m + b * 256 ^ i) := by
  have h := fun j => limN_take m b i j hm hb
  unfold limbL
  rw [lim_limN (m + _) 0, lim_limN (m + _) 1, lim_limN (m + _) 2, lim_limN (m + _) 3, h 0, h 1, h 2, h 3]
  obtain e | e | e | e : i / 8 = 0 ∨ i / 8 = 1 ∨ i / 8 = 2 ∨ i / 8 = 3 := by omega
  all_goals rw [e]; rfl
theorem limbL_zero : limbL 0 = [.int .u64 0, .int .u64 0, .int .u64 0, .int .u64 0] := by unfold limbL; simp only [lim, Nat.zero_div, Nat.zero_mod]; rfl
theorem limbL_len (n : Nat) : (limbL n).length = 4 := rfl
theorem limbL_put (m b i : Nat) (hm : m < 256 ^ i) (hb : b < 256) (hi : i < 32) :
    (limbL m).take (i / 8) ++ [.int .u64 ((limN m (i / 8) ||| (b * 2 ^ (i % 8 * 8)) : Nat) : Int)] ++ (limbL m).drop (i / 8 + 1) = limbL (m + b * 256 ^ i) := by
  rw [← limbL_set m b i hm hb hi, List.set_eq_take_append_cons_drop, if_pos (by rw [limbL_len]; omega), List.append_assoc]; rfl
theorem shl_byte {b i : Nat} (hb : b < 256) : b * 2 ^ (i % 8 * 8) < 18446744073709551616 := by
  have h1 : (b + 1) * 2 ^ (i % 8 * 8) ≤ 256 * 2 ^ (i % 8 * 8) := Nat.mul_le_mul_right _ hb
  have h2 : 256 * 2 ^ (i % 8 * 8) ≤ 2 ^ 64 := by
    rw [show (256 : Nat) = 2 ^ 8 by decide, ← Nat.pow_add]
    exact Nat.pow_le_pow_right (by decide) (by omega)
  rw [Nat.add_mul, Nat.one_mul] at h1
  have h3 : 0 < 2 ^ (i % 8 * 8) := Nat.two_pow_pos _
  generalize 2 ^ (i % 8 * 8) = X at *
  generalize b * X = Y at *
  omega
theorem shl_nat {b i : Nat} (hb : b < 256) : IntKind.u64.wrap ((b : Int) * 2 ^ (min (i % 8 * 8) 64)) = ((b * 2 ^ (i % 8 * 8) : Nat) : Int) := by
  rw [Nat.min_eq_left (by omega)]
  have h := shl_byte (i := i) hb
  have e : (b : Int) * 2 ^ (i % 8 * 8) = ((b * 2 ^ (i % 8 * 8) : Nat) : Int) := by push_cast; rfl
  rw [e]
  exact wu64 (by omega) (by omega)
def takeU (s : List UInt8) : Nat × Bool := if s.length > 32 ∨ s.head? = some 0 then (0, false) else (numOf s, true)
theorem u_zero : u 0 = .agg [.int .u64 (0 : Int), .int .u64 (0 : Int), .int .u64 (0 : Int), .int .u64 (0 : Int)] := u_small 0 (by decide)
theorem numOf_small {s : List UInt8} (h : s.length ≤ 32) : numOf s < U := by
  have h1 := numOf_lt s
  have : (256 : Nat) ^ s.length ≤ 256 ^ 32 := Nat.pow_le_pow_right (by decide) h
  have : (256 : Nat) ^ 32 = U := by unfold U; decide
  omega
theorem takeU_lt (s : List UInt8) : (takeU s).1 < U := by
  unfold takeU
  split
  · unfold U; decide
  · rename_i h
    exact numOf_small (by omega)
theorem u8z : (((0 : UInt8).toNat : Int) == 0) = true := by decide
theorem c_u256_Take (s : List UInt8) (hs : s.length ≤ 4294967296) : Contract Try.prog 83 [.str s] (.tup [u (takeU s).1, .int .i64 (if (takeU s).2 = true then 0 else 1)]) := by
  refine contract_of (C := cf 44 [0, 2, 3, 4, 5, 17, 20, 21, 22] (fun _ => [])) (cf_ok _ _ _) (fn := Try.f83) Try.func83 (by kernel_rfl) rfl (by kernel_rfl) (by simp [cf]) (plain1 (.str _)) (by decide) (cellsOk (by kernel_rfl)) ?_
  simp only [go_sem, ↓reduceIte, Nat.reduceLT, Nat.reduceLeDiff, Nat.reduceAdd, Nat.reduceSub, Nat.reduceMul, Nat.reduceEqDiff, Nat.reduceBEq, Nat.reduceMod, Nat.reduceDiv, Int.reduceToNat, reduceCtorEq, Int.reduceLT, Int.reduceLE, Int.reduceGT, Int.reduceGE, Int.reduceAdd, Int.reduceSub, Int.reduceMul, Int.reduceNeg, Int.reduceEq, Int.reduceNe, Int.reduceBNe, Int.reduceBEq, Int.reduceDiv]
  have bad : s.length > 32 ∨ s.head? = some 0 → takeU s = (0, false) := fun h => by unfold takeU; rw [if_pos h]
  have good : ¬ (s.length > 32 ∨ s.head? = some 0) → takeU s = (numOf s, true) := fun h => by unfold takeU; rw [if_neg h]
  rcases Decidable.em (s.length > 32) with hl | hl
  · rw [decide_eq_true (show (s.length : Int) > 32 by omega), bad (.inl hl), u_zero]
    simp only [go_sem, ↓reduceIte, Nat.reduceLT, Nat.reduceLeDiff, Nat.reduceAdd, Nat.reduceSub, Nat.reduceMul, Nat.reduceEqDiff, Nat.reduceBEq, Nat.reduceMod, Nat.reduceDiv, Int.reduceToNat, reduceCtorEq, Int.reduceLT, Int.reduceLE, Int.reduceGT, Int.reduceGE, Int.reduceAdd, Int.reduceSub, Int.reduceMul, Int.reduceNeg, Int.reduceEq, Int.reduceNe, Int.reduceBNe, Int.reduceBEq, Int.reduceDiv]
    refine finTup ?_
    show resOf _ _ [.cell 2 26, .tmp 3] = _
    simp only [go_sem, ↓reduceIte, Nat.reduceLT, Nat.reduceLeDiff, Nat.reduceAdd, Nat.reduceSub, Nat.reduceMul, Nat.reduceEqDiff, Nat.reduceBEq, Nat.reduceMod, Nat.reduceDiv, Int.reduceToNat, reduceCtorEq, Int.reduceLT, Int.reduceLE, Int.reduceGT, Int.reduceGE, Int.reduceAdd, Int.reduceSub, Int.reduceMul, Int.reduceNeg, Int.reduceEq, Int.reduceNe, Int.reduceBNe, Int.reduceBEq, Int.reduceDiv]
  · rw [decide_eq_false (show ¬ (s.length : Int) > 32 by omega)]
    rcases Decidable.em (s.head? = some 0) with hz | hz
    · rw [bad (.inr hz), u_zero]
      have h0 : s[0]? = some 0 := by rw [← List.head?_eq_getElem?]; exact hz
      have hnil : (s == ([] : List UInt8)) = false := by cases s <;> first | rfl | cases hz
      have hpos : (0 : Int) < s.length := by cases s <;> first | (rw [List.length_cons]; omega) | cases hz
      simp only [go_sem, ↓reduceIte, Nat.reduceLT, Nat.reduceLeDiff, Nat.reduceAdd, Nat.reduceSub, Nat.reduceMul, Nat.reduceEqDiff, Nat.reduceBEq, Nat.reduceMod, Nat.reduceDiv, Int.reduceToNat, reduceCtorEq, Int.reduceLT, Int.reduceLE, Int.reduceGT, Int.reduceGE, Int.reduceAdd, Int.reduceSub, Int.reduceMul, Int.reduceNeg, Int.reduceEq, Int.reduceNe, Int.reduceBNe, Int.reduceBEq, Int.reduceDiv, hnil, h0, hpos, u8z]
      refine finTup ?_
      show resOf _ _ [.cell 2 26, .tmp 3] = _
      simp only [go_sem, ↓reduceIte, Nat.reduceLT, Nat.reduceLeDiff, Nat.reduceAdd, Nat.reduceSub, Nat.reduceMul, Nat.reduceEqDiff, Nat.reduceBEq, Nat.reduceMod, Nat.reduceDiv, Int.reduceToNat, reduceCtorEq, Int.reduceLT, Int.reduceLE, Int.reduceGT, Int.reduceGE, Int.reduceAdd, Int.reduceSub, Int.reduceMul, Int.reduceNeg, Int.reduceEq, Int.reduceNe, Int.reduceBNe, Int.reduceBEq, Int.reduceDiv]
    · rw [good (by simp [hl, hz])]
      have w0 : IntKind.i64.wrap ((s.length : Int) - 1) = (s.length : Int) - 1 := wi64 (by omega) (by omega)
      cases hnil : (s == ([] : List UInt8))
      case' true => simp only [go_sem, ↓reduceIte, Nat.reduceLT, Nat.reduceLeDiff, Nat.reduceAdd, Nat.reduceSub, Nat.reduceMul, Nat.reduceEqDiff, Nat.reduceBEq, Nat.reduceMod, Nat.reduceDiv, Int.reduceToNat, reduceCtorEq, Int.reduceLT, Int.reduceLE, Int.reduceGT, Int.reduceGE, Int.reduceAdd, Int.reduceSub, Int.reduceMul, Int.reduceNeg, Int.reduceEq, Int.reduceNe, Int.reduceBNe, Int.reduceBEq, Int.reduceDiv, hnil]
      case' false =>
        obtain ⟨b, h0, hbz, hpos⟩ : ∃ b, s[0]? = some b ∧ ((b.toNat : Int) == 0) = false ∧ (0 : Int) < s.length := by
          cases s with
          | nil => cases hnil
          | cons b t => exact ⟨b, rfl, by
              have : b ≠ 0 := fun e => hz (by rw [e]; rfl)
              have : b.toNat ≠ 0 := fun e => this (UInt8.toNat_inj.1 (by rw [e]; rfl))
              simpa using this, by rw [List.length_cons]; omega⟩
        simp only [go_sem, ↓reduceIte, Nat.reduceLT, Nat.reduceLeDiff, Nat.reduceAdd, Nat.reduceSub, Nat.reduceMul, Nat.reduceEqDiff, Nat.reduceBEq, Nat.reduceMod, Nat.reduceDiv, Int.reduceToNat, reduceCtorEq, Int.reduceLT, Int.reduceLE, Int.reduceGT, Int.reduceGE, Int.reduceAdd, Int.reduceSub, Int.reduceMul, Int.reduceNeg, Int.reduceEq, Int.reduceNe, Int.reduceBNe, Int.reduceBEq, Int.reduceDiv, hnil, h0, hpos, hbz]
      all_goals
        refine ex_iter [0, 2, 4, 20, 21] (fun i : Nat => ⟨[(0, .str s), (2, .var 2 0), (4, .var 4 0), (20, .int .i64 s.length), (21, .int .i64 i)], [(2, limbL 0), (4, limbL (numOf (s.drop (s.length - i))))]⟩) (fun i => i ≤ s.length) (fun i => s.length - i) 0 ?_ ?_ ?_
        · simp only [ASt.keep, consIf, keepL, keepV, AV.isBot, List.contains_cons, List.contains_nil, Nat.reduceBEq, Bool.or_false, Bool.false_or, Bool.or_true, Bool.true_or, beq_self_eq_true, Bool.false_eq_true, ↓reduceIte, if_false, if_true]
          rw [Nat.sub_zero, List.drop_length, numOf_nil, limbL_zero]
          rfl
        · exact Nat.zero_le _
        · intro r i hi next
          simp only [go_sem, ↓reduceIte, Nat.reduceLT, Nat.reduceLeDiff, Nat.reduceAdd, Nat.reduceSub, Nat.reduceMul, Nat.reduceEqDiff, Nat.reduceBEq, Nat.reduceMod, Nat.reduceDiv, Int.reduceToNat, reduceCtorEq, Int.reduceLT, Int.reduceLE, Int.reduceGT, Int.reduceGE, Int.reduceAdd, Int.reduceSub, Int.reduceMul, Int.reduceNeg, Int.reduceEq, Int.reduceNe, Int.reduceBNe, Int.reduceBEq, Int.reduceDiv]
          refine ex_br (fun h => ?_) (fun h => ?_)
          · have hlt : i < s.length := by simpa using h
            obtain ⟨b, eb⟩ : ∃ b, s[s.length - 1 - i]? = some b := ⟨_, List.getElem?_eq_getElem (by omega)⟩
            have wq : (i : Int).tdiv 8 = ((i / 8 : Nat) : Int) := rfl
            have wr : (i : Int).tmod 8 = ((i % 8 : Nat) : Int) := rfl
            have wq2 := wi64n (i / 8) (by omega)
            have wm : IntKind.i64.wrap (((i % 8 : Nat) : Int) * 8) = ((i % 8 * 8 : Nat) : Int) := by rw [wi64 (by omega) (by omega)]; omega
            have ws2 : IntKind.i64.wrap ((s.length : Int) - 1 - (i : Int)) = ((s.length - 1 - i : Nat) : Int) := by rw [wi64 (by omega) (by omega)]; omega
            have hbl : b.toNat < 256 := b.toNat_lt
            simp only [go_sem, ↓reduceIte, Nat.reduceLT, Nat.reduceLeDiff, Nat.reduceAdd, Nat.reduceSub, Nat.reduceMul, Nat.reduceEqDiff, Nat.reduceBEq, Nat.reduceMod, Nat.reduceDiv, Int.reduceToNat, reduceCtorEq, Int.reduceLT, Int.reduceLE, Int.reduceGT, Int.reduceGE, Int.reduceAdd, Int.reduceSub, Int.reduceMul, Int.reduceNeg, Int.reduceEq, Int.reduceNe, Int.reduceBNe, Int.reduceBEq, Int.reduceDiv]
            refine ex_draw [18] [] (.quiet 0 (.quiet 1 (.quiet 2 (.quiet 3 (.quiet 4 (.quiet 5 (.quiet 6 (.quiet 7 (.quiet 8 (.quiet 9 (.quiet 10 (.quiet 11 (.quiet 12 (.quiet 13 (.quiet 14 (.quiet 15 (.quiet 16 (.quiet 17 (.unlock (.one 18 (.fin))))))))))))))))))))) (by kernel_rfl) ?_
            simp only [go_sem, ↓reduceIte, Nat.reduceLT, Nat.reduceLeDiff, Nat.reduceAdd, Nat.reduceSub, Nat.reduceMul, Nat.reduceEqDiff, Nat.reduceBEq, Nat.reduceMod, Nat.reduceDiv, Int.reduceToNat, reduceCtorEq, Int.reduceLT, Int.reduceLE, Int.reduceGT, Int.reduceGE, Int.reduceAdd, Int.reduceSub, Int.reduceMul, Int.reduceNeg, Int.reduceEq, Int.reduceNe, Int.reduceBNe, Int.reduceBEq, Int.reduceDiv, wq, wr, wq2, wm, w0, ws2, Int.toNat_natCast, eb, limbL_get _ _ (show i / 8 < 4 by omega)]
            repeat with_reducible refine And.intro (by first | omega | (simp only [List.length_cons, List.length_append, List.length_nil, List.length_map, List.length_take, List.length_drop, List.length_set]; omega)) ?_
            have wb : IntKind.u64.wrap (b.toNat : Int) = (b.toNat : Int) := wu64 (by omega) (by omega)
            have hm : numOf (s.drop (s.length - i)) < 256 ^ i := by
              have := numOf_lt (s.drop (s.length - i))
              rw [List.length_drop, show s.length - (s.length - i) = i by omega] at this
              exact this
            have hd : numOf (s.drop (s.length - i)) + b.toNat * 256 ^ i = numOf (s.drop (s.length - (i + 1))) := by
              have := numOf_drop eb
              rw [show s.length - 1 - (s.length - 1 - i) = i by omega, show s.length - 1 - i + 1 = s.length - i by omega] at this
              rw [show s.length - (i + 1) = s.length - 1 - i by omega, this, Nat.add_comm]
            have hdec : decide (i / 8 ≤ 3) = true := decide_eq_true (by omega)
            simp only [go_sem, ↓reduceIte, Nat.reduceLT, Nat.reduceLeDiff, Nat.reduceAdd, Nat.reduceSub, Nat.reduceMul, Nat.reduceEqDiff, Nat.reduceBEq, Nat.reduceMod, Nat.reduceDiv, Int.reduceToNat, reduceCtorEq, Int.reduceLT, Int.reduceLE, Int.reduceGT, Int.reduceGE, Int.reduceAdd, Int.reduceSub, Int.reduceMul, Int.reduceNeg, Int.reduceEq, Int.reduceNe, Int.reduceBNe, Int.reduceBEq, Int.reduceDiv, limbL_len, hdec, wb, shl_nat hbl, or_nat2 (limN_lt _ _) (shl_byte hbl), limbL_put _ _ _ hm hbl (show i < 32 by omega), hd]
            refine next (i + 1) _ (by omega) (by omega) ?_
            simp only [ASt.keep, consIf, keepL, keepV, AV.isBot, List.contains_cons, List.contains_nil, Nat.reduceBEq, Bool.or_false, Bool.false_or, Bool.or_true, Bool.true_or, beq_self_eq_true, Bool.false_eq_true, ↓reduceIte, if_false, if_true]
            rw [wi64_nat i (by omega)]
          · have hge : i = s.length := by simp at h; omega
            subst hge
            rw [Nat.sub_self, List.drop_zero]
            simp only [go_sem, ↓reduceIte, Nat.reduceLT, Nat.reduceLeDiff, Nat.reduceAdd, Nat.reduceSub, Nat.reduceMul, Nat.reduceEqDiff, Nat.reduceBEq, Nat.reduceMod, Nat.reduceDiv, Int.reduceToNat, reduceCtorEq, Int.reduceLT, Int.reduceLE, Int.reduceGT, Int.reduceGE, Int.reduceAdd, Int.reduceSub, Int.reduceMul, Int.reduceNeg, Int.reduceEq, Int.reduceNe, Int.reduceBNe, Int.reduceBEq, Int.reduceDiv, limbL]
            refine finTup ?_
            show resOf _ _ [.cell 2 26, .tmp 3] = _
            simp only [go_sem, ↓reduceIte, Nat.reduceLT, Nat.reduceLeDiff, Nat.reduceAdd, Nat.reduceSub, Nat.reduceMul, Nat.reduceEqDiff, Nat.reduceBEq, Nat.reduceMod, Nat.reduceDiv, Int.reduceToNat, reduceCtorEq, Int.reduceLT, Int.reduceLE, Int.reduceGT, Int.reduceGE, Int.reduceAdd, Int.reduceSub, Int.reduceMul, Int.reduceNeg, Int.reduceEq, Int.reduceNe, Int.reduceBNe, Int.reduceBEq, Int.reduceDiv, u]
end Go.Proofs.Ytfafaiicbhcfdaa.VA
end
section
/- Items: whether two are alike, copies; what is too heavy. -/
namespace Go.Proofs.Ytfafaiicbhcfdaa.VA
set_option maxRecDepth 10000
set_option linter.unusedSimpArgs false
set_option linter.unusedVariables false
set_option maxHeartbeats 4000000

noncomputable instance : DecidableEq ItemD := fun _ _ => Classical.propDecidable _
def itemsAv (xs : List ItemD) : AV := .sl false 3 (xs.map ItemD.av)
theorem itemsAv_plain (xs : List ItemD) : Plain (itemsAv xs) := .sl 3 _ fun c hc => by
  obtain ⟨x, _, rfl⟩ := List.mem_map.1 hc
  exact x.plain
theorem decide_congr {p q : Prop} [Decidable p] [Decidable q] (h : p ↔ q) : decide p = decide q := by simp [h]
/-- A question of the laws: an item, bytes. -/
def askAv (it : ItemD) (s : List UInt8) : AV := .agg (it.cells ++ [.str s])
theorem askAv_plain (it : ItemD) (s : List UInt8) : Plain (askAv it s) := .agg _ fun c hc => by
  rcases List.mem_append.1 hc with hc | hc
  · have := it.plain
    rw [it.av_eq] at this
    cases this with | agg _ h => exact h c hc
  · rcases List.mem_cons.1 hc with rfl | hc
    · exact .str _
    · cases hc
def heavyI (it : ItemD) (s : List UInt8) : Bool := decide (wtOf it > 70000) || decide (dpOf it > 40) || decide (s.length > 70000)
end Go.Proofs.Ytfafaiicbhcfdaa.VA
end
section
/- Items' bytes: the small functions. -/
namespace Go.Proofs.Ytfafaiicbhcfdaa.VA
set_option maxRecDepth 10000
set_option linter.unusedSimpArgs false
set_option linter.unusedVariables false
set_option maxHeartbeats 4000000

theorem lt_U {n : Nat} (h : n < 9223372036854775808) : n < U := by unfold U; omega
theorem c_item_size (n : Nat) (h : n < 9223372036854775808) : Contract Try.prog 112 [.int .i64 n] (.str (bytesOf n)) := by
  have h1 := c_u256_Of n h
  have h2 := c_u256_Text n (lt_U h)
  rw [u_small n (by omega)] at h1 h2
  refine contract_of (C := cf 12 [0, 2, 3] (fun _ => [])) (cf_ok _ _ _) (fn := Try.f112) Try.func112 (by kernel_rfl) rfl (by kernel_rfl) (by simp [cf]) (plain1 (.int _ _)) (by decide) (noCell (by kernel_rfl)) ?_
  simp only [go_sem, ↓reduceIte, Nat.reduceLT, Nat.reduceLeDiff, Nat.reduceAdd, Nat.reduceSub, Nat.reduceMul, Nat.reduceEqDiff, Nat.reduceBEq, Nat.reduceMod, Nat.reduceDiv, Int.reduceToNat, reduceCtorEq, Int.reduceLT, Int.reduceLE, Int.reduceGT, Int.reduceGE, Int.reduceAdd, Int.reduceSub, Int.reduceMul, Int.reduceNeg, Int.reduceEq, Int.reduceNe, Int.reduceBNe, Int.reduceBEq, Int.reduceDiv]
  refine ex_call (by exact h1) ?_
  simp only [go_sem, ↓reduceIte, Nat.reduceLT, Nat.reduceLeDiff, Nat.reduceAdd, Nat.reduceSub, Nat.reduceMul, Nat.reduceEqDiff, Nat.reduceBEq, Nat.reduceMod, Nat.reduceDiv, Int.reduceToNat, reduceCtorEq, Int.reduceLT, Int.reduceLE, Int.reduceGT, Int.reduceGE, Int.reduceAdd, Int.reduceSub, Int.reduceMul, Int.reduceNeg, Int.reduceEq, Int.reduceNe, Int.reduceBNe, Int.reduceBEq, Int.reduceDiv]
  refine ex_call (by exact h2) ?_
  simp only [go_sem, ↓reduceIte, Nat.reduceLT, Nat.reduceLeDiff, Nat.reduceAdd, Nat.reduceSub, Nat.reduceMul, Nat.reduceEqDiff, Nat.reduceBEq, Nat.reduceMod, Nat.reduceDiv, Int.reduceToNat, reduceCtorEq, Int.reduceLT, Int.reduceLE, Int.reduceGT, Int.reduceGE, Int.reduceAdd, Int.reduceSub, Int.reduceMul, Int.reduceNeg, Int.reduceEq, Int.reduceNe, Int.reduceBNe, Int.reduceBEq, Int.reduceDiv]
  refine finOne ?_ (fun _ e => by cases e)
  show resOf _ _ [.tmp 2] = _
  simp only [go_sem, ↓reduceIte, Nat.reduceLT, Nat.reduceLeDiff, Nat.reduceAdd, Nat.reduceSub, Nat.reduceMul, Nat.reduceEqDiff, Nat.reduceBEq, Nat.reduceMod, Nat.reduceDiv, Int.reduceToNat, reduceCtorEq, Int.reduceLT, Int.reduceLE, Int.reduceGT, Int.reduceGE, Int.reduceAdd, Int.reduceSub, Int.reduceMul, Int.reduceNeg, Int.reduceEq, Int.reduceNe, Int.reduceBNe, Int.reduceBEq, Int.reduceDiv]
theorem bytesOf_le {n : Nat} (h : n < 1099511627776) : (bytesOf n).length ≤ 5 := by rw [bytesOf_len]; exact byteLen_small h
theorem c_item_ahead (n : Nat) (h : n < 1099511627776) : Contract Try.prog 111 [.int .i64 n] (.int .i64 (aheadN n)) := by
  have hb := byteLen_small h
  refine contract_of (C := cf 9 [0, 2, 4] (fun _ => [])) (cf_ok _ _ _) (fn := Try.f111) Try.func111 (by kernel_rfl) rfl (by kernel_rfl) (by simp [cf]) (plain1 (.int _ _)) (by decide) (noCell (by kernel_rfl)) ?_
  simp only [go_sem, ↓reduceIte, Nat.reduceLT, Nat.reduceLeDiff, Nat.reduceAdd, Nat.reduceSub, Nat.reduceMul, Nat.reduceEqDiff, Nat.reduceBEq, Nat.reduceMod, Nat.reduceDiv, Int.reduceToNat, reduceCtorEq, Int.reduceLT, Int.reduceLE, Int.reduceGT, Int.reduceGE, Int.reduceAdd, Int.reduceSub, Int.reduceMul, Int.reduceNeg, Int.reduceEq, Int.reduceNe, Int.reduceBNe, Int.reduceBEq, Int.reduceDiv]
  unfold aheadN
  refine ex_br (fun e => ?_) (fun e => ?_)
  · have e : n ≤ 55 := by simp at e; omega
    rw [if_pos e]
    simp only [go_sem, ↓reduceIte, Nat.reduceLT, Nat.reduceLeDiff, Nat.reduceAdd, Nat.reduceSub, Nat.reduceMul, Nat.reduceEqDiff, Nat.reduceBEq, Nat.reduceMod, Nat.reduceDiv, Int.reduceToNat, reduceCtorEq, Int.reduceLT, Int.reduceLE, Int.reduceGT, Int.reduceGE, Int.reduceAdd, Int.reduceSub, Int.reduceMul, Int.reduceNeg, Int.reduceEq, Int.reduceNe, Int.reduceBNe, Int.reduceBEq, Int.reduceDiv]
    refine finOne ?_ (fun _ e => by cases e)
    show resOf _ _ [.tmp 2] = _
    simp only [go_sem, ↓reduceIte, Nat.reduceLT, Nat.reduceLeDiff, Nat.reduceAdd, Nat.reduceSub, Nat.reduceMul, Nat.reduceEqDiff, Nat.reduceBEq, Nat.reduceMod, Nat.reduceDiv, Int.reduceToNat, reduceCtorEq, Int.reduceLT, Int.reduceLE, Int.reduceGT, Int.reduceGE, Int.reduceAdd, Int.reduceSub, Int.reduceMul, Int.reduceNeg, Int.reduceEq, Int.reduceNe, Int.reduceBNe, Int.reduceBEq, Int.reduceDiv]
    rfl
  · have e : ¬ n ≤ 55 := by simp at e; omega
    rw [if_neg e]
    have w : IntKind.i64.wrap (1 + (byteLen n : Int)) = ((1 + byteLen n : Nat) : Int) := by rw [wi64 (by omega) (by omega)]; omega
    simp only [go_sem, ↓reduceIte, Nat.reduceLT, Nat.reduceLeDiff, Nat.reduceAdd, Nat.reduceSub, Nat.reduceMul, Nat.reduceEqDiff, Nat.reduceBEq, Nat.reduceMod, Nat.reduceDiv, Int.reduceToNat, reduceCtorEq, Int.reduceLT, Int.reduceLE, Int.reduceGT, Int.reduceGE, Int.reduceAdd, Int.reduceSub, Int.reduceMul, Int.reduceNeg, Int.reduceEq, Int.reduceNe, Int.reduceBNe, Int.reduceBEq, Int.reduceDiv]
    refine ex_call (by exact c_item_size n (by omega)) ?_
    simp only [go_sem, ↓reduceIte, Nat.reduceLT, Nat.reduceLeDiff, Nat.reduceAdd, Nat.reduceSub, Nat.reduceMul, Nat.reduceEqDiff, Nat.reduceBEq, Nat.reduceMod, Nat.reduceDiv, Int.reduceToNat, reduceCtorEq, Int.reduceLT, Int.reduceLE, Int.reduceGT, Int.reduceGE, Int.reduceAdd, Int.reduceSub, Int.reduceMul, Int.reduceNeg, Int.reduceEq, Int.reduceNe, Int.reduceBNe, Int.reduceBEq, Int.reduceDiv, bytesOf_len, w]
    refine finOne ?_ (fun _ e => by cases e)
    show resOf _ _ [.tmp 2] = _
    simp only [go_sem, ↓reduceIte, Nat.reduceLT, Nat.reduceLeDiff, Nat.reduceAdd, Nat.reduceSub, Nat.reduceMul, Nat.reduceEqDiff, Nat.reduceBEq, Nat.reduceMod, Nat.reduceDiv, Int.reduceToNat, reduceCtorEq, Int.reduceLT, Int.reduceLE, Int.reduceGT, Int.reduceGE, Int.reduceAdd, Int.reduceSub, Int.reduceMul, Int.reduceNeg, Int.reduceEq, Int.reduceNe, Int.reduceBNe, Int.reduceBEq, Int.reduceDiv]
theorem alone_eq (s : List UInt8) : aloneB s = (decide (s.length = 1) && decide ((s[0]?.getD 0).toNat < 128)) := by
  match s with
  | [] => rfl
  | [b] => simp [aloneB]
  | a :: b :: t => simp [aloneB]
theorem c_item_alone (s : List UInt8) (h : s.length ≤ 9223372036854775807) : Contract Try.prog 105 [.str s] (.bool (aloneB s)) := by
  refine contract_of (C := cf 11 [0, 2] (fun _ => [])) (cf_ok _ _ _) (fn := Try.f105) Try.func105 (by kernel_rfl) rfl (by kernel_rfl) (by simp [cf]) (plain1 (.str _)) (by decide) (noCell (by kernel_rfl)) ?_
  simp only [go_sem, ↓reduceIte, Nat.reduceLT, Nat.reduceLeDiff, Nat.reduceAdd, Nat.reduceSub, Nat.reduceMul, Nat.reduceEqDiff, Nat.reduceBEq, Nat.reduceMod, Nat.reduceDiv, Int.reduceToNat, reduceCtorEq, Int.reduceLT, Int.reduceLE, Int.reduceGT, Int.reduceGE, Int.reduceAdd, Int.reduceSub, Int.reduceMul, Int.reduceNeg, Int.reduceEq, Int.reduceNe, Int.reduceBNe, Int.reduceBEq, Int.reduceDiv]
  rcases Decidable.em (s.length = 1) with e | e
  · match s, e with
    | [b], _ =>
      have hb : decide ((b.toNat : Int) < 128) = aloneB [b] := by unfold aloneB; exact decide_congr (by omega)
      simp only [go_sem, ↓reduceIte, Nat.reduceLT, Nat.reduceLeDiff, Nat.reduceAdd, Nat.reduceSub, Nat.reduceMul, Nat.reduceEqDiff, Nat.reduceBEq, Nat.reduceMod, Nat.reduceDiv, Int.reduceToNat, reduceCtorEq, Int.reduceLT, Int.reduceLE, Int.reduceGT, Int.reduceGE, Int.reduceAdd, Int.reduceSub, Int.reduceMul, Int.reduceNeg, Int.reduceEq, Int.reduceNe, Int.reduceBNe, Int.reduceBEq, Int.reduceDiv, hb, Int.cast_ofNat_Int]
      refine finOne ?_ (fun _ e => by cases e)
      show resOf _ _ [.tmp 2] = _
      simp only [go_sem, ↓reduceIte, Nat.reduceLT, Nat.reduceLeDiff, Nat.reduceAdd, Nat.reduceSub, Nat.reduceMul, Nat.reduceEqDiff, Nat.reduceBEq, Nat.reduceMod, Nat.reduceDiv, Int.reduceToNat, reduceCtorEq, Int.reduceLT, Int.reduceLE, Int.reduceGT, Int.reduceGE, Int.reduceAdd, Int.reduceSub, Int.reduceMul, Int.reduceNeg, Int.reduceEq, Int.reduceNe, Int.reduceBNe, Int.reduceBEq, Int.reduceDiv]
  · have e1 : ((s.length : Int) == 1) = false := by simpa using (by omega : ¬ (s.length : Int) = 1)
    have e2 : aloneB s = false := by rw [alone_eq, decide_eq_false e]; rfl
    rw [e1, e2]
    simp only [go_sem, ↓reduceIte, Nat.reduceLT, Nat.reduceLeDiff, Nat.reduceAdd, Nat.reduceSub, Nat.reduceMul, Nat.reduceEqDiff, Nat.reduceBEq, Nat.reduceMod, Nat.reduceDiv, Int.reduceToNat, reduceCtorEq, Int.reduceLT, Int.reduceLE, Int.reduceGT, Int.reduceGE, Int.reduceAdd, Int.reduceSub, Int.reduceMul, Int.reduceNeg, Int.reduceEq, Int.reduceNe, Int.reduceBNe, Int.reduceBEq, Int.reduceDiv]
    refine finOne ?_ (fun _ e => by cases e)
    show resOf _ _ [.tmp 2] = _
    simp only [go_sem, ↓reduceIte, Nat.reduceLT, Nat.reduceLeDiff, Nat.reduceAdd, Nat.reduceSub, Nat.reduceMul, Nat.reduceEqDiff, Nat.reduceBEq, Nat.reduceMod, Nat.reduceDiv, Int.reduceToNat, reduceCtorEq, Int.reduceLT, Int.reduceLE, Int.reduceGT, Int.reduceGE, Int.reduceAdd, Int.reduceSub, Int.reduceMul, Int.reduceNeg, Int.reduceEq, Int.reduceNe, Int.reduceBNe, Int.reduceBEq, Int.reduceDiv]
theorem u8_small {m : Nat} (h : m < 256) : u8 (UInt8.ofNat m) = .int .u8 (m : Int) := by rw [u8_ofNat, Nat.mod_eq_of_lt h]
theorem c_item_front (bs : List UInt8) (base n : Nat) (hb : base ≤ 192) (hn : n < 1099511627776) (hbs : bs.length ≤ 1099511627776) :
    Contract Try.prog 104 [.own false 1 (bs.map u8), .int .i64 base, .int .i64 n] (.own false 1 ((bs ++ headB n base).map u8)) := by
  have hbl := byteLen_small hn
  refine contract_of (C := cf 30 [0, 1, 2, 6, 7, 9] (fun _ => [])) (cf_ok _ _ _) (fn := Try.f104) Try.func104 (by kernel_rfl) rfl (by kernel_rfl) (by simp [cf]) (plain3 (.own _ _ _ (fun c hc => by obtain ⟨x, _, rfl⟩ := List.mem_map.1 hc; exact .int _ _)) (.int _ _) (.int _ _)) (by decide) (noCell (by kernel_rfl)) ?_
  simp only [go_sem, ↓reduceIte, Nat.reduceLT, Nat.reduceLeDiff, Nat.reduceAdd, Nat.reduceSub, Nat.reduceMul, Nat.reduceEqDiff, Nat.reduceBEq, Nat.reduceMod, Nat.reduceDiv, Int.reduceToNat, reduceCtorEq, Int.reduceLT, Int.reduceLE, Int.reduceGT, Int.reduceGE, Int.reduceAdd, Int.reduceSub, Int.reduceMul, Int.reduceNeg, Int.reduceEq, Int.reduceNe, Int.reduceBNe, Int.reduceBEq, Int.reduceDiv]
  unfold headB
  refine ex_br (fun e => ?_) (fun e => ?_)
  · have e : n ≤ 55 := by simp at e; omega
    rw [if_pos e]
    have w : IntKind.i64.wrap ((base : Int) + (n : Int)) = ((base + n : Nat) : Int) := by rw [wi64 (by omega) (by omega)]; omega
    have w2 : IntKind.u8.wrap ((base + n : Nat) : Int) = ((base + n : Nat) : Int) := wu8 (by omega) (by omega)
    simp only [go_sem, ↓reduceIte, Nat.reduceLT, Nat.reduceLeDiff, Nat.reduceAdd, Nat.reduceSub, Nat.reduceMul, Nat.reduceEqDiff, Nat.reduceBEq, Nat.reduceMod, Nat.reduceDiv, Int.reduceToNat, reduceCtorEq, Int.reduceLT, Int.reduceLE, Int.reduceGT, Int.reduceGE, Int.reduceAdd, Int.reduceSub, Int.reduceMul, Int.reduceNeg, Int.reduceEq, Int.reduceNe, Int.reduceBNe, Int.reduceBEq, Int.reduceDiv, w, w2, List.length_map]
    repeat with_reducible refine And.intro (by first | omega | (simp only [List.length_cons, List.length_append, List.length_nil, List.length_map, List.length_take, List.length_drop, List.length_set]; omega)) ?_
    refine finOne ?_ (fun _ e => by cases e)
    show resOf _ _ [.tmp 6] = _
    rw [List.map_append, List.map_cons, u8_small (by omega)]
    simp only [go_sem, ↓reduceIte, Nat.reduceLT, Nat.reduceLeDiff, Nat.reduceAdd, Nat.reduceSub, Nat.reduceMul, Nat.reduceEqDiff, Nat.reduceBEq, Nat.reduceMod, Nat.reduceDiv, Int.reduceToNat, reduceCtorEq, Int.reduceLT, Int.reduceLE, Int.reduceGT, Int.reduceGE, Int.reduceAdd, Int.reduceSub, Int.reduceMul, Int.reduceNeg, Int.reduceEq, Int.reduceNe, Int.reduceBNe, Int.reduceBEq, Int.reduceDiv]
  · have e : ¬ n ≤ 55 := by simp at e; omega
    rw [if_neg e]
    have w : IntKind.i64.wrap ((base : Int) + 55) = ((base + 55 : Nat) : Int) := by rw [wi64 (by omega) (by omega)]; omega
    have w2 : IntKind.i64.wrap (((base + 55 : Nat) : Int) + (byteLen n : Int)) = ((base + 55 + byteLen n : Nat) : Int) := by rw [wi64 (by omega) (by omega)]; omega
    have w3 : IntKind.u8.wrap ((base + 55 + byteLen n : Nat) : Int) = ((base + 55 + byteLen n : Nat) : Int) := wu8 (by omega) (by omega)
    simp only [go_sem, ↓reduceIte, Nat.reduceLT, Nat.reduceLeDiff, Nat.reduceAdd, Nat.reduceSub, Nat.reduceMul, Nat.reduceEqDiff, Nat.reduceBEq, Nat.reduceMod, Nat.reduceDiv, Int.reduceToNat, reduceCtorEq, Int.reduceLT, Int.reduceLE, Int.reduceGT, Int.reduceGE, Int.reduceAdd, Int.reduceSub, Int.reduceMul, Int.reduceNeg, Int.reduceEq, Int.reduceNe, Int.reduceBNe, Int.reduceBEq, Int.reduceDiv]
    refine ex_call (by exact c_item_size n (by omega)) ?_
    simp only [go_sem, ↓reduceIte, Nat.reduceLT, Nat.reduceLeDiff, Nat.reduceAdd, Nat.reduceSub, Nat.reduceMul, Nat.reduceEqDiff, Nat.reduceBEq, Nat.reduceMod, Nat.reduceDiv, Int.reduceToNat, reduceCtorEq, Int.reduceLT, Int.reduceLE, Int.reduceGT, Int.reduceGE, Int.reduceAdd, Int.reduceSub, Int.reduceMul, Int.reduceNeg, Int.reduceEq, Int.reduceNe, Int.reduceBNe, Int.reduceBEq, Int.reduceDiv, bytesOf_len, w, w2, w3, List.length_map]
    repeat with_reducible refine And.intro (by first | omega | (simp only [List.length_cons, List.length_append, List.length_nil, List.length_map, List.length_take, List.length_drop, List.length_set]; omega)) ?_
    refine finOne ?_ (fun _ e => by cases e)
    show resOf _ _ [.tmp 6] = _
    rw [List.map_append, List.map_cons, u8_small (by omega)]
    simp only [go_sem, ↓reduceIte, Nat.reduceLT, Nat.reduceLeDiff, Nat.reduceAdd, Nat.reduceSub, Nat.reduceMul, Nat.reduceEqDiff, Nat.reduceBEq, Nat.reduceMod, Nat.reduceDiv, Int.reduceToNat, reduceCtorEq, Int.reduceLT, Int.reduceLE, Int.reduceGT, Int.reduceGE, Int.reduceAdd, Int.reduceSub, Int.reduceMul, Int.reduceNeg, Int.reduceEq, Int.reduceNe, Int.reduceBNe, Int.reduceBEq, Int.reduceDiv, List.append_assoc]
theorem c_ref4_head (n base : Nat) (hb : base ≤ 192) (hn : n < 1099511627776) : Contract Try.prog 98 [.int .i64 n, .int .i64 base] (.str (headB n base)) := by
  have hbl := byteLen_small hn
  have h1 := c_ref1_Of n (by omega)
  have h2 := c_ref1_Text n (lt_U (by omega))
  rw [u_small n (by omega)] at h1 h2
  refine contract_of (C := cf 27 [0, 1, 4, 5, 7] (fun _ => [])) (cf_ok _ _ _) (fn := Try.f98) Try.func98 (by kernel_rfl) rfl (by kernel_rfl) (by simp [cf]) (plain2 (.int _ _) (.int _ _)) (by decide) (noCell (by kernel_rfl)) ?_
  simp only [go_sem, ↓reduceIte, Nat.reduceLT, Nat.reduceLeDiff, Nat.reduceAdd, Nat.reduceSub, Nat.reduceMul, Nat.reduceEqDiff, Nat.reduceBEq, Nat.reduceMod, Nat.reduceDiv, Int.reduceToNat, reduceCtorEq, Int.reduceLT, Int.reduceLE, Int.reduceGT, Int.reduceGE, Int.reduceAdd, Int.reduceSub, Int.reduceMul, Int.reduceNeg, Int.reduceEq, Int.reduceNe, Int.reduceBNe, Int.reduceBEq, Int.reduceDiv]
  unfold headB
  refine ex_br (fun e => ?_) (fun e => ?_)
  · have e : n ≤ 55 := by simp at e; omega
    rw [if_pos e]
    have w : IntKind.i64.wrap ((base : Int) + (n : Int)) = ((base + n : Nat) : Int) := by rw [wi64 (by omega) (by omega)]; omega
    have w2 : IntKind.u8.wrap ((base + n : Nat) : Int) = ((base + n : Nat) : Int) := wu8 (by omega) (by omega)
    simp only [go_sem, ↓reduceIte, Nat.reduceLT, Nat.reduceLeDiff, Nat.reduceAdd, Nat.reduceSub, Nat.reduceMul, Nat.reduceEqDiff, Nat.reduceBEq, Nat.reduceMod, Nat.reduceDiv, Int.reduceToNat, reduceCtorEq, Int.reduceLT, Int.reduceLE, Int.reduceGT, Int.reduceGE, Int.reduceAdd, Int.reduceSub, Int.reduceMul, Int.reduceNeg, Int.reduceEq, Int.reduceNe, Int.reduceBNe, Int.reduceBEq, Int.reduceDiv, w, w2, Int.toNat_natCast]
    refine finOne ?_ (fun _ e => by cases e)
    show resOf _ _ [.tmp 4] = _
    simp only [go_sem, ↓reduceIte, Nat.reduceLT, Nat.reduceLeDiff, Nat.reduceAdd, Nat.reduceSub, Nat.reduceMul, Nat.reduceEqDiff, Nat.reduceBEq, Nat.reduceMod, Nat.reduceDiv, Int.reduceToNat, reduceCtorEq, Int.reduceLT, Int.reduceLE, Int.reduceGT, Int.reduceGE, Int.reduceAdd, Int.reduceSub, Int.reduceMul, Int.reduceNeg, Int.reduceEq, Int.reduceNe, Int.reduceBNe, Int.reduceBEq, Int.reduceDiv]
  · have e : ¬ n ≤ 55 := by simp at e; omega
    rw [if_neg e]
    have w : IntKind.i64.wrap ((base : Int) + 55) = ((base + 55 : Nat) : Int) := by rw [wi64 (by omega) (by omega)]; omega
    have w2 : IntKind.i64.wrap (((base + 55 : Nat) : Int) + (byteLen n : Int)) = ((base + 55 + byteLen n : Nat) : Int) := by rw [wi64 (by omega) (by omega)]; omega
    have w3 : IntKind.u8.wrap ((base + 55 + byteLen n : Nat) : Int) = ((base + 55 + byteLen n : Nat) : Int) := wu8 (by omega) (by omega)
    simp only [go_sem, ↓reduceIte, Nat.reduceLT, Nat.reduceLeDiff, Nat.reduceAdd, Nat.reduceSub, Nat.reduceMul, Nat.reduceEqDiff, Nat.reduceBEq, Nat.reduceMod, Nat.reduceDiv, Int.reduceToNat, reduceCtorEq, Int.reduceLT, Int.reduceLE, Int.reduceGT, Int.reduceGE, Int.reduceAdd, Int.reduceSub, Int.reduceMul, Int.reduceNeg, Int.reduceEq, Int.reduceNe, Int.reduceBNe, Int.reduceBEq, Int.reduceDiv]
    refine ex_call (by exact h1) ?_
    simp only [go_sem, ↓reduceIte, Nat.reduceLT, Nat.reduceLeDiff, Nat.reduceAdd, Nat.reduceSub, Nat.reduceMul, Nat.reduceEqDiff, Nat.reduceBEq, Nat.reduceMod, Nat.reduceDiv, Int.reduceToNat, reduceCtorEq, Int.reduceLT, Int.reduceLE, Int.reduceGT, Int.reduceGE, Int.reduceAdd, Int.reduceSub, Int.reduceMul, Int.reduceNeg, Int.reduceEq, Int.reduceNe, Int.reduceBNe, Int.reduceBEq, Int.reduceDiv]
    refine ex_call (by exact h2) ?_
    simp only [go_sem, ↓reduceIte, Nat.reduceLT, Nat.reduceLeDiff, Nat.reduceAdd, Nat.reduceSub, Nat.reduceMul, Nat.reduceEqDiff, Nat.reduceBEq, Nat.reduceMod, Nat.reduceDiv, Int.reduceToNat, reduceCtorEq, Int.reduceLT, Int.reduceLE, Int.reduceGT, Int.reduceGE, Int.reduceAdd, Int.reduceSub, Int.reduceMul, Int.reduceNeg, Int.reduceEq, Int.reduceNe, Int.reduceBNe, Int.reduceBEq, Int.reduceDiv, bytesOf_len, w, w2, w3, Int.toNat_natCast]
    repeat with_reducible refine And.intro (by first | omega | (simp only [List.length_cons, List.length_append, List.length_nil, List.length_map, List.length_take, List.length_drop, List.length_set]; omega)) ?_
    refine finOne ?_ (fun _ e => by cases e)
    show resOf _ _ [.tmp 4] = _
    simp only [go_sem, ↓reduceIte, Nat.reduceLT, Nat.reduceLeDiff, Nat.reduceAdd, Nat.reduceSub, Nat.reduceMul, Nat.reduceEqDiff, Nat.reduceBEq, Nat.reduceMod, Nat.reduceDiv, Int.reduceToNat, reduceCtorEq, Int.reduceLT, Int.reduceLE, Int.reduceGT, Int.reduceGE, Int.reduceAdd, Int.reduceSub, Int.reduceMul, Int.reduceNeg, Int.reduceEq, Int.reduceNe, Int.reduceBNe, Int.reduceBEq, Int.reduceDiv]
end Go.Proofs.Ytfafaiicbhcfdaa.VA
end
section
/- Items out of bytes: the head. -/
namespace Go.Proofs.Ytfafaiicbhcfdaa.VA
set_option maxRecDepth 10000
set_option linter.unusedSimpArgs false
set_option linter.unusedVariables false
set_option maxHeartbeats 1000000

def hdAv (l : Bool) (f n : Nat) : AV := .agg [.bool l, .int .i64 f, .int .i64 n]
def hdRes : Except Nat (Bool × Nat × Nat) → AV
  | .error e => .tup [.agg [.bool false, .int .i64 (0 : Int), .int .i64 (0 : Int)], .int .i64 e]
  | .ok (l, f, n) => .tup [.agg [.bool l, .int .i64 f, .int .i64 n], .int .i64 (0 : Int)]
theorem num8 {s : List UInt8} (h : s.length ≤ 8) : numOf s < 18446744073709551616 := by
  have h1 := numOf_lt s
  have : (256 : Nat) ^ s.length ≤ 256 ^ 8 := Nat.pow_le_pow_right (by decide) h
  omega
theorem lt_U2 {n : Nat} (h : n < 18446744073709551616) : n < U := by unfold U; omega
theorem c_item_read (s : List UInt8) (hs : s.length ≤ 4294967296) : Contract Try.prog 108 [.str s] (hdRes (hdOf s)) := by
  cases s with
  | nil =>
    refine contract_of (C := cf 73 [0, 2, 3, 4, 5, 6, 7, 9, 19, 23, 31, 44, 66] (fun _ => [])) (cf_ok _ _ _) (fn := Try.f108) Try.func108 (by kernel_rfl) rfl (by kernel_rfl) (by simp [cf]) (plain1 (.str _)) (by decide) (cellsOk (by kernel_rfl)) ?_
    simp only [go_sem, ↓reduceIte, Nat.reduceLT, Nat.reduceLeDiff, Nat.reduceAdd, Nat.reduceSub, Nat.reduceMul, Nat.reduceEqDiff, Nat.reduceBEq, Nat.reduceMod, Nat.reduceDiv, Int.reduceToNat, reduceCtorEq, Int.reduceLT, Int.reduceLE, Int.reduceGT, Int.reduceGE, Int.reduceAdd, Int.reduceSub, Int.reduceMul, Int.reduceNeg, Int.reduceEq, Int.reduceNe, Int.reduceBNe, Int.reduceBEq, Int.reduceDiv]
    refine finTup ?_
    show resOf _ _ [.cell 2 136, .tmp 3] = _
    simp only [go_sem, ↓reduceIte, Nat.reduceLT, Nat.reduceLeDiff, Nat.reduceAdd, Nat.reduceSub, Nat.reduceMul, Nat.reduceEqDiff, Nat.reduceBEq, Nat.reduceMod, Nat.reduceDiv, Int.reduceToNat, reduceCtorEq, Int.reduceLT, Int.reduceLE, Int.reduceGT, Int.reduceGE, Int.reduceAdd, Int.reduceSub, Int.reduceMul, Int.reduceNeg, Int.reduceEq, Int.reduceNe, Int.reduceBNe, Int.reduceBEq, Int.reduceDiv]
    rfl
  | cons b t =>
    rw [List.length_cons] at hs
    have hb : b.toNat < 256 := b.toNat_lt
    have wb : IntKind.i64.wrap (b.toNat : Int) = (b.toNat : Int) := wi64n _ (by omega)
    have hpos : (0 : Int) < ((t.length + 1 : Nat) : Int) := by omega
    rw [hd_cons]
    rcases Decidable.em (b.toNat < 128) with h1 | h1
    · rw [if_pos h1]
      refine contract_of (C := cf 73 [0, 2, 3, 4, 5, 6, 7, 9, 19, 23, 31, 44, 66] (fun _ => [])) (cf_ok _ _ _) (fn := Try.f108) Try.func108 (by kernel_rfl) rfl (by kernel_rfl) (by simp [cf]) (plain1 (.str _)) (by decide) (cellsOk (by kernel_rfl)) ?_
      have e1 : decide ((b.toNat : Int) < 128) = true := decide_eq_true (by omega)
      have e0 : ((b :: t) == ([] : List UInt8)) = false := rfl
      simp only [go_sem, ↓reduceIte, Nat.reduceLT, Nat.reduceLeDiff, Nat.reduceAdd, Nat.reduceSub, Nat.reduceMul, Nat.reduceEqDiff, Nat.reduceBEq, Nat.reduceMod, Nat.reduceDiv, Int.reduceToNat, reduceCtorEq, Int.reduceLT, Int.reduceLE, Int.reduceGT, Int.reduceGE, Int.reduceAdd, Int.reduceSub, Int.reduceMul, Int.reduceNeg, Int.reduceEq, Int.reduceNe, Int.reduceBNe, Int.reduceBEq, Int.reduceDiv, e0, e1, wb, hpos]
      refine finTup ?_
      show resOf _ _ [.cell 2 136, .tmp 3] = _
      simp only [go_sem, ↓reduceIte, Nat.reduceLT, Nat.reduceLeDiff, Nat.reduceAdd, Nat.reduceSub, Nat.reduceMul, Nat.reduceEqDiff, Nat.reduceBEq, Nat.reduceMod, Nat.reduceDiv, Int.reduceToNat, reduceCtorEq, Int.reduceLT, Int.reduceLE, Int.reduceGT, Int.reduceGE, Int.reduceAdd, Int.reduceSub, Int.reduceMul, Int.reduceNeg, Int.reduceEq, Int.reduceNe, Int.reduceBNe, Int.reduceBEq, Int.reduceDiv, hdRes]
      rfl
    · rw [if_neg h1]
      have main : ∀ (l : Bool) (m : Nat), decide (192 ≤ b.toNat) = l → hdLen b = m → Contract Try.prog 108 [.str (b :: t)] (hdRes (hdRest l m t)) := by
        intro l m hl hm
        have hm64 : m < 64 := by rw [← hm]; unfold hdLen; split <;> omega
        have hk : 1 + (m - 55) - 1 = m - 55 := by omega
        have hql : (t.take (m - 55)).length ≤ 8 := by rw [List.length_take]; omega
        have hu := c_u256_Take (t.take (m - 55)) (by omega)
        have hv := num8 hql
        have hc := c_u256_Cmp (numOf (t.take (m - 55))) 65536 (lt_U2 hv) (lt_U2 (by omega))
        have e5 : decide (cmpOf (numOf (t.take (m - 55))) 65536 > 0) = decide (numOf (t.take (m - 55)) > 65536) := by
          unfold cmpOf
          refine decide_congr ?_
          split
          · omega
          · split <;> omega
        rw [u_small _ hv, u_small 65536 (by omega)] at hc
        have e0 : ((b :: t) == ([] : List UInt8)) = false := rfl
        have e1 : decide ((b.toNat : Int) < 128) = false := decide_eq_false (by omega)
        have e2 : decide ((b.toNat : Int) ≥ 192) = l := by rw [← hl]; exact decide_congr (by omega)
        have w128 : IntKind.i64.wrap ((b.toNat : Int) - 128) = (b.toNat : Int) - 128 := wi64 (by omega) (by omega)
        have w192 : IntKind.i64.wrap ((b.toNat : Int) - 192) = (b.toNat : Int) - 192 := wi64 (by omega) (by omega)
        unfold hdRest
        refine contract_of (C := cf 73 [0, 2, 3, 4, 5, 6, 7, 9, 19, 23, 31, 44, 66] (fun _ => [])) (cf_ok _ _ _) (fn := Try.f108) Try.func108 (by kernel_rfl) rfl (by kernel_rfl) (by simp [cf]) (plain1 (.str _)) (by decide) (cellsOk (by kernel_rfl)) ?_
        simp only [go_sem, ↓reduceIte, Nat.reduceLT, Nat.reduceLeDiff, Nat.reduceAdd, Nat.reduceSub, Nat.reduceMul, Nat.reduceEqDiff, Nat.reduceBEq, Nat.reduceMod, Nat.reduceDiv, Int.reduceToNat, reduceCtorEq, Int.reduceLT, Int.reduceLE, Int.reduceGT, Int.reduceGE, Int.reduceAdd, Int.reduceSub, Int.reduceMul, Int.reduceNeg, Int.reduceEq, Int.reduceNe, Int.reduceBNe, Int.reduceBEq, Int.reduceDiv, e0, e1, e2, wb, hpos, w128]
        cases l
        case' true =>
          have hm2 : (b.toNat : Int) - 192 = (m : Int) := by
            have : 192 ≤ b.toNat := of_decide_eq_true hl
            rw [← hm]; unfold hdLen; rw [if_pos this]; omega
          simp only [go_sem, ↓reduceIte, Nat.reduceLT, Nat.reduceLeDiff, Nat.reduceAdd, Nat.reduceSub, Nat.reduceMul, Nat.reduceEqDiff, Nat.reduceBEq, Nat.reduceMod, Nat.reduceDiv, Int.reduceToNat, reduceCtorEq, Int.reduceLT, Int.reduceLE, Int.reduceGT, Int.reduceGE, Int.reduceAdd, Int.reduceSub, Int.reduceMul, Int.reduceNeg, Int.reduceEq, Int.reduceNe, Int.reduceBNe, Int.reduceBEq, Int.reduceDiv, w192, hm2, wi64n m (by omega)]
        case' false =>
          have hm2 : (b.toNat : Int) - 128 = (m : Int) := by
            have : ¬ 192 ≤ b.toNat := of_decide_eq_false hl
            rw [← hm]; unfold hdLen; rw [if_neg this]; omega
          rw [hm2]
          simp only [go_sem, ↓reduceIte, Nat.reduceLT, Nat.reduceLeDiff, Nat.reduceAdd, Nat.reduceSub, Nat.reduceMul, Nat.reduceEqDiff, Nat.reduceBEq, Nat.reduceMod, Nat.reduceDiv, Int.reduceToNat, reduceCtorEq, Int.reduceLT, Int.reduceLE, Int.reduceGT, Int.reduceGE, Int.reduceAdd, Int.reduceSub, Int.reduceMul, Int.reduceNeg, Int.reduceEq, Int.reduceNe, Int.reduceBNe, Int.reduceBEq, Int.reduceDiv]
        all_goals
          rcases Decidable.em (m ≤ 55) with h55 | h55
          · have e3 : decide ((m : Int) ≤ 55) = true := decide_eq_true (by omega)
            rw [if_pos h55, e3]
            simp only [go_sem, ↓reduceIte, Nat.reduceLT, Nat.reduceLeDiff, Nat.reduceAdd, Nat.reduceSub, Nat.reduceMul, Nat.reduceEqDiff, Nat.reduceBEq, Nat.reduceMod, Nat.reduceDiv, Int.reduceToNat, reduceCtorEq, Int.reduceLT, Int.reduceLE, Int.reduceGT, Int.reduceGE, Int.reduceAdd, Int.reduceSub, Int.reduceMul, Int.reduceNeg, Int.reduceEq, Int.reduceNe, Int.reduceBNe, Int.reduceBEq, Int.reduceDiv]
            refine finTup ?_
            show resOf _ _ [.cell 2 136, .tmp 3] = _
            simp only [go_sem, ↓reduceIte, Nat.reduceLT, Nat.reduceLeDiff, Nat.reduceAdd, Nat.reduceSub, Nat.reduceMul, Nat.reduceEqDiff, Nat.reduceBEq, Nat.reduceMod, Nat.reduceDiv, Int.reduceToNat, reduceCtorEq, Int.reduceLT, Int.reduceLE, Int.reduceGT, Int.reduceGE, Int.reduceAdd, Int.reduceSub, Int.reduceMul, Int.reduceNeg, Int.reduceEq, Int.reduceNe, Int.reduceBNe, Int.reduceBEq, Int.reduceDiv, hdRes]
            rfl
          · have e3 : decide ((m : Int) ≤ 55) = false := decide_eq_false (by omega)
            have w55 : IntKind.i64.wrap ((m : Int) - 55) = ((m - 55 : Nat) : Int) := by rw [wi64 (by omega) (by omega)]; omega
            have wf : IntKind.i64.wrap (1 + ((m - 55 : Nat) : Int)) = ((1 + (m - 55) : Nat) : Int) := by rw [wi64 (by omega) (by omega)]; omega
            rw [if_neg h55, e3]
            rcases Decidable.em (t.length < m - 55) with hlt | hlt
            · have e4 : decide (((t.length + 1 : Nat) : Int) < ((1 + (m - 55) : Nat) : Int)) = true := decide_eq_true (by omega)
              rw [if_pos hlt]
              simp only [go_sem, ↓reduceIte, Nat.reduceLT, Nat.reduceLeDiff, Nat.reduceAdd, Nat.reduceSub, Nat.reduceMul, Nat.reduceEqDiff, Nat.reduceBEq, Nat.reduceMod, Nat.reduceDiv, Int.reduceToNat, reduceCtorEq, Int.reduceLT, Int.reduceLE, Int.reduceGT, Int.reduceGE, Int.reduceAdd, Int.reduceSub, Int.reduceMul, Int.reduceNeg, Int.reduceEq, Int.reduceNe, Int.reduceBNe, Int.reduceBEq, Int.reduceDiv, w55, wf, e4]
              refine finTup ?_
              show resOf _ _ [.cell 2 136, .tmp 3] = _
              simp only [go_sem, ↓reduceIte, Nat.reduceLT, Nat.reduceLeDiff, Nat.reduceAdd, Nat.reduceSub, Nat.reduceMul, Nat.reduceEqDiff, Nat.reduceBEq, Nat.reduceMod, Nat.reduceDiv, Int.reduceToNat, reduceCtorEq, Int.reduceLT, Int.reduceLE, Int.reduceGT, Int.reduceGE, Int.reduceAdd, Int.reduceSub, Int.reduceMul, Int.reduceNeg, Int.reduceEq, Int.reduceNe, Int.reduceBNe, Int.reduceBEq, Int.reduceDiv, hdRes]
              rfl
            · have e4 : decide (((t.length + 1 : Nat) : Int) < ((1 + (m - 55) : Nat) : Int)) = false := decide_eq_false (by omega)
              rw [if_neg hlt]
              simp only [go_sem, ↓reduceIte, Nat.reduceLT, Nat.reduceLeDiff, Nat.reduceAdd, Nat.reduceSub, Nat.reduceMul, Nat.reduceEqDiff, Nat.reduceBEq, Nat.reduceMod, Nat.reduceDiv, Int.reduceToNat, reduceCtorEq, Int.reduceLT, Int.reduceLE, Int.reduceGT, Int.reduceGE, Int.reduceAdd, Int.reduceSub, Int.reduceMul, Int.reduceNeg, Int.reduceEq, Int.reduceNe, Int.reduceBNe, Int.reduceBEq, Int.reduceDiv, w55, wf, e4, Int.toNat_natCast]
              refine ⟨by omega, ?_⟩
              rw [hk]
              rcases Decidable.em (t.head? = some 0) with hz | hz
              · have htu : takeU (t.take (m - 55)) = (0, false) := by
                  unfold takeU
                  rw [if_pos (.inr (by rw [List.head?_take, if_neg (by omega)]; exact hz))]
                rw [htu, u_zero] at hu
                rw [if_pos hz]
                refine ex_call (by exact hu) ?_
                simp only [go_sem, ↓reduceIte, Nat.reduceLT, Nat.reduceLeDiff, Nat.reduceAdd, Nat.reduceSub, Nat.reduceMul, Nat.reduceEqDiff, Nat.reduceBEq, Nat.reduceMod, Nat.reduceDiv, Int.reduceToNat, reduceCtorEq, Int.reduceLT, Int.reduceLE, Int.reduceGT, Int.reduceGE, Int.reduceAdd, Int.reduceSub, Int.reduceMul, Int.reduceNeg, Int.reduceEq, Int.reduceNe, Int.reduceBNe, Int.reduceBEq, Int.reduceDiv]
                refine finTup ?_
                show resOf _ _ [.cell 2 136, .tmp 3] = _
                simp only [go_sem, ↓reduceIte, Nat.reduceLT, Nat.reduceLeDiff, Nat.reduceAdd, Nat.reduceSub, Nat.reduceMul, Nat.reduceEqDiff, Nat.reduceBEq, Nat.reduceMod, Nat.reduceDiv, Int.reduceToNat, reduceCtorEq, Int.reduceLT, Int.reduceLE, Int.reduceGT, Int.reduceGE, Int.reduceAdd, Int.reduceSub, Int.reduceMul, Int.reduceNeg, Int.reduceEq, Int.reduceNe, Int.reduceBNe, Int.reduceBEq, Int.reduceDiv, hdRes]
                rfl
              · have htu : takeU (t.take (m - 55)) = (numOf (t.take (m - 55)), true) := by
                  unfold takeU
                  rw [if_neg (fun h => by
                    rcases h with h | h
                    · omega
                    · rw [List.head?_take, if_neg (by omega)] at h; exact hz h)]
                rw [htu, u_small _ hv] at hu
                rw [if_neg hz]
                refine ex_call (by exact hu) ?_
                generalize numOf (t.take (m - 55)) = v at *
                simp only [go_sem, ↓reduceIte, Nat.reduceLT, Nat.reduceLeDiff, Nat.reduceAdd, Nat.reduceSub, Nat.reduceMul, Nat.reduceEqDiff, Nat.reduceBEq, Nat.reduceMod, Nat.reduceDiv, Int.reduceToNat, reduceCtorEq, Int.reduceLT, Int.reduceLE, Int.reduceGT, Int.reduceGE, Int.reduceAdd, Int.reduceSub, Int.reduceMul, Int.reduceNeg, Int.reduceEq, Int.reduceNe, Int.reduceBNe, Int.reduceBEq, Int.reduceDiv]
                refine ex_call (by exact hc) ?_
                rcases Decidable.em (v > 65536) with h6 | h6
                · rw [if_pos (.inl h6)]
                  rw [decide_eq_true h6] at e5
                  simp only [go_sem, ↓reduceIte, Nat.reduceLT, Nat.reduceLeDiff, Nat.reduceAdd, Nat.reduceSub, Nat.reduceMul, Nat.reduceEqDiff, Nat.reduceBEq, Nat.reduceMod, Nat.reduceDiv, Int.reduceToNat, reduceCtorEq, Int.reduceLT, Int.reduceLE, Int.reduceGT, Int.reduceGE, Int.reduceAdd, Int.reduceSub, Int.reduceMul, Int.reduceNeg, Int.reduceEq, Int.reduceNe, Int.reduceBNe, Int.reduceBEq, Int.reduceDiv, e5]
                  refine finTup ?_
                  show resOf _ _ [.cell 2 136, .tmp 3] = _
                  simp only [go_sem, ↓reduceIte, Nat.reduceLT, Nat.reduceLeDiff, Nat.reduceAdd, Nat.reduceSub, Nat.reduceMul, Nat.reduceEqDiff, Nat.reduceBEq, Nat.reduceMod, Nat.reduceDiv, Int.reduceToNat, reduceCtorEq, Int.reduceLT, Int.reduceLE, Int.reduceGT, Int.reduceGE, Int.reduceAdd, Int.reduceSub, Int.reduceMul, Int.reduceNeg, Int.reduceEq, Int.reduceNe, Int.reduceBNe, Int.reduceBEq, Int.reduceDiv, hdRes]
                  rfl
                · have wv : IntKind.i64.wrap (v : Int) = (v : Int) := wi64n v (by omega)
                  rw [decide_eq_false h6] at e5
                  rcases Decidable.em (v ≤ 55) with h7 | h7
                  · have e7 : decide ((v : Int) ≤ 55) = true := decide_eq_true (by omega)
                    rw [if_pos (.inr h7)]
                    simp only [go_sem, ↓reduceIte, Nat.reduceLT, Nat.reduceLeDiff, Nat.reduceAdd, Nat.reduceSub, Nat.reduceMul, Nat.reduceEqDiff, Nat.reduceBEq, Nat.reduceMod, Nat.reduceDiv, Int.reduceToNat, reduceCtorEq, Int.reduceLT, Int.reduceLE, Int.reduceGT, Int.reduceGE, Int.reduceAdd, Int.reduceSub, Int.reduceMul, Int.reduceNeg, Int.reduceEq, Int.reduceNe, Int.reduceBNe, Int.reduceBEq, Int.reduceDiv, e5, e7, Int.cast_ofNat_Int]
                    refine finTup ?_
                    show resOf _ _ [.cell 2 136, .tmp 3] = _
                    simp only [go_sem, ↓reduceIte, Nat.reduceLT, Nat.reduceLeDiff, Nat.reduceAdd, Nat.reduceSub, Nat.reduceMul, Nat.reduceEqDiff, Nat.reduceBEq, Nat.reduceMod, Nat.reduceDiv, Int.reduceToNat, reduceCtorEq, Int.reduceLT, Int.reduceLE, Int.reduceGT, Int.reduceGE, Int.reduceAdd, Int.reduceSub, Int.reduceMul, Int.reduceNeg, Int.reduceEq, Int.reduceNe, Int.reduceBNe, Int.reduceBEq, Int.reduceDiv, hdRes]
                    rfl
                  · have e7 : decide ((v : Int) ≤ 55) = false := decide_eq_false (by omega)
                    rw [if_neg (by omega)]
                    simp only [go_sem, ↓reduceIte, Nat.reduceLT, Nat.reduceLeDiff, Nat.reduceAdd, Nat.reduceSub, Nat.reduceMul, Nat.reduceEqDiff, Nat.reduceBEq, Nat.reduceMod, Nat.reduceDiv, Int.reduceToNat, reduceCtorEq, Int.reduceLT, Int.reduceLE, Int.reduceGT, Int.reduceGE, Int.reduceAdd, Int.reduceSub, Int.reduceMul, Int.reduceNeg, Int.reduceEq, Int.reduceNe, Int.reduceBNe, Int.reduceBEq, Int.reduceDiv, e5, e7, wv, Int.cast_ofNat_Int]
                    refine finTup ?_
                    show resOf _ _ [.cell 2 136, .tmp 3] = _
                    simp only [go_sem, ↓reduceIte, Nat.reduceLT, Nat.reduceLeDiff, Nat.reduceAdd, Nat.reduceSub, Nat.reduceMul, Nat.reduceEqDiff, Nat.reduceBEq, Nat.reduceMod, Nat.reduceDiv, Int.reduceToNat, reduceCtorEq, Int.reduceLT, Int.reduceLE, Int.reduceGT, Int.reduceGE, Int.reduceAdd, Int.reduceSub, Int.reduceMul, Int.reduceNeg, Int.reduceEq, Int.reduceNe, Int.reduceBNe, Int.reduceBEq, Int.reduceDiv, hdRes]
      exact main _ _ rfl rfl
end Go.Proofs.Ytfafaiicbhcfdaa.VA
end
section
/- Items out of bytes: one item, all of them. -/
namespace Go.Proofs.Ytfafaiicbhcfdaa.VA
set_option maxRecDepth 10000
set_option linter.unusedSimpArgs false
set_option linter.unusedVariables false
set_option maxHeartbeats 16000000

theorem hd_err {s : List UInt8} {e : Nat} (h : hdOf s = .error e) : e = 7 ∨ e = 1 := by
  cases s with
  | nil => cases h; exact .inl rfl
  | cons b t =>
    rw [hd_cons] at h
    split at h
    · cases h
    · unfold hdRest at h
      split at h
      · cases h
      · split at h
        · cases h; exact .inl rfl
        · split at h
          · cases h; exact .inr rfl
          · split at h
            · cases h; exact .inr rfl
            · cases h
theorem hd_bounds {s : List UInt8} {l : Bool} {f n : Nat} (h : hdOf s = .ok (l, f, n)) : f ≤ 6 ∧ n ≤ 65536 ∧ (l = true → 1 ≤ f) := by
  rcases hd_back h with ⟨rfl, rfl, rfl, _⟩ | ⟨h1, h2, h3, h4⟩
  · exact ⟨by omega, by omega, fun e => by cases e⟩
  · have := ahead_le (n := n) (by omega)
    have := ahead_pos n
    exact ⟨by omega, h3, fun _ => by omega⟩
/-- What one tells, at any depth. -/
def oneR (d : Nat) (s : List UInt8) : Except Nat (ItemD × Nat) :=
  match hdOf s with
  | .error e => .error e
  | .ok (l, f, n) =>
    if (l = true ∧ 16 ≤ d) ∨ 65536 < f + n then .error 1
    else if s.length < f + n then .error 7
    else if l = false then (if 0 < f ∧ aloneB ((s.drop f).take n) = true then .error 1 else .ok (.mk false ((s.drop f).take n) [], f + n))
    else match itemsP (d + 1) ((s.drop f).take n) with
      | some xs => .ok (.mk true [] xs, f + n)
      | none => .error 1
theorem one_parse (d : Nat) (s : List UInt8) : match oneR d s with | .ok r => parse d s = .ok r | .error e => ∃ e', parse d s = .error e' ∧ (d < 16 → e' = e) := by
  unfold oneR
  rw [parse]
  cases hh : hdOf s with
  | error e => exact ⟨e, rfl, fun _ => rfl⟩
  | ok r =>
    obtain ⟨l, f, n⟩ := r
    obtain ⟨b1, b2, b3⟩ := hd_bounds hh
    simp only
    cases l with
    | false =>
      rcases Decidable.em (f + n > 65536) with h1 | h1
      · rw [if_pos (.inr h1), if_pos h1]; exact ⟨1, rfl, fun _ => rfl⟩
      · rw [if_neg (show ¬ ((false = true ∧ 16 ≤ d) ∨ 65536 < f + n) from fun h => h.elim (fun h => by cases h.1) h1), if_neg h1]
        rcases Decidable.em (s.length < f + n) with h2 | h2
        · rw [if_pos h2, if_pos h2]; exact ⟨7, rfl, fun _ => rfl⟩
        · rw [if_neg h2, if_neg h2, if_pos rfl, if_pos rfl]
          split
          · rename_i r' e
            split at e <;> first | (cases e; done) | skip
            rename_i h3
            rw [if_neg h3]; exact e
          · rename_i e' e
            split at e
            · rename_i h3
              rw [if_pos h3]; cases e; exact ⟨1, rfl, fun _ => rfl⟩
            · cases e
    | true =>
      have hf := b3 rfl
      rcases Decidable.em (f + n > 65536) with h1 | h1
      · rw [if_pos (.inr h1), if_pos h1]; exact ⟨1, rfl, fun _ => rfl⟩
      · rw [if_neg h1]
        rcases Decidable.em (16 ≤ d) with h4 | h4
        · rw [if_pos (.inl ⟨rfl, h4⟩)]
          rcases Decidable.em (s.length < f + n) with h2 | h2
          · rw [if_pos h2]; exact ⟨7, rfl, fun h => absurd h (by omega)⟩
          · rw [if_neg h2, if_neg (by simp), if_pos h4]; exact ⟨1, rfl, fun _ => rfl⟩
        · rw [if_neg (show ¬ ((true = true ∧ 16 ≤ d) ∨ 65536 < f + n) from fun h => h.elim (fun h => h4 h.2) h1)]
          rcases Decidable.em (s.length < f + n) with h2 | h2
          · rw [if_pos h2, if_pos h2]; exact ⟨7, rfl, fun _ => rfl⟩
          · have hb : ((s.drop f).take n).length < s.length := by rw [List.length_take, List.length_drop]; omega
            rw [if_neg h2, if_neg h2, if_neg (by simp), if_neg (by simp), if_neg h4, dif_pos hb]
            cases itemsP (d + 1) ((s.drop f).take n) with
            | none => exact ⟨1, rfl, fun _ => rfl⟩
            | some xs => rfl
theorem one_zero (s : List UInt8) : oneR 0 s = parse 0 s := by
  have h := one_parse 0 s
  cases ho : oneR 0 s with
  | ok r => rw [ho] at h; exact h.symm
  | error e => rw [ho] at h; obtain ⟨e', h1, h2⟩ := h; rw [h1, h2 (by decide)]
theorem items_one {d : Nat} {s : List UInt8} (hs : s ≠ []) : itemsP d s = match oneR d s with
    | .error _ => none
    | .ok (x, k) => (itemsP d (s.drop k)).map (x :: ·) := by
  have h := one_parse d s
  rw [itemsP_cons hs]
  cases ho : oneR d s with
  | ok r =>
    rw [ho] at h
    obtain ⟨x, k⟩ := r
    have h : parse d s = .ok (x, k) := h
    have := (parse_ok h).pos
    rw [h]
    simp only
    rw [if_pos (by omega)]
  | error e => rw [ho] at h; obtain ⟨e', h1, h2⟩ := h; rw [h1]
def resP : Except Nat (ItemD × Nat) → AV
  | .error e => .tup [.agg [.bool false, .str [], .sl false 3 []], .int .i64 (0 : Int), .int .i64 (e : Int)]
  | .ok (it, k) => .tup [.agg [.bool it.list, .str it.text, .sl false 3 (it.items.map ItemD.av)], .int .i64 (k : Int), .int .i64 (0 : Int)]
theorem fins3 {a b : AV} (h : Dull a b) (r : List AV) : Fins (a :: r) (b :: r) := .cons (.dull h) (finsRefl _)
theorem dull_item (l : Bool) (t : List UInt8) (fr : Bool) (es : List AV) : Dull (.agg [.bool l, .str t, .sl fr 3 es]) (.agg [.bool l, .str t, .sl false 3 es]) := dulls_agg (.cons (.refl _) (.cons (.refl _) (.cons (dsl _ _ _) .nil)))
theorem dull_none (l : Bool) (t : List UInt8) : Dull (.agg [.bool l, .str t, .ext nilP]) (.agg [.bool l, .str t, .sl false 3 []]) := dulls_agg (.cons (.refl _) (.cons (.refl _) (.cons (.nil _ _) .nil)))
theorem c_one (N : Nat) : ∀ (s : List UInt8) (d : Nat), s.length ≤ N → s.length ≤ 16777216 → d ≤ 16 → Contract Try.prog 99 [.str s, .int .i64 d] (resP (oneR d s)) := by
  induction N using Nat.strongRecOn with
  | _ N ih =>
    intro s d hN hs hd
    have hr := c_item_read s (by omega)
    have wd : IntKind.i64.wrap ((d : Int) + 1) = ((d + 1 : Nat) : Int) := wi64_nat d (by omega)
    cases hh : hdOf s with
    | error e =>
      have he := hd_err hh
      have e0 : ((e : Int) != 0) = true := by rcases he with rfl | rfl <;> rfl
      have ho : oneR d s = .error e := by unfold oneR; rw [hh]
      rw [ho]
      rw [hh] at hr
      unfold hdRes at hr
      refine contract_of (C := cf 104 [0, 1, 4, 5, 6, 7, 8, 9, 10, 11, 12, 19, 27, 39, 45, 63, 81, 91] (fun _ => [])) (cf_ok _ _ _) (fn := Try.f99) Try.func99 (by kernel_rfl) rfl (by kernel_rfl) (by simp [cf]) (plain2 (.str _) (.int _ _)) (by decide) (cellsOk (by kernel_rfl)) ?_
      simp only [go_sem, seval]
      refine ex_call (by exact hr) ?_
      simp only [go_sem, seval, e0]
      refine finTupD (vs' := [.agg [.bool false, .str [], .ext nilP], .int .i64 (0 : Int), .int .i64 (e : Int)]) ?_ (fins3 (dull_none _ _) _)
      show resOf _ _ [.cell 4 77, .tmp 5, .tmp 6] = _
      simp only [go_sem, seval]
    | ok r =>
      obtain ⟨l, f, n⟩ := r
      obtain ⟨b1, b2, b3⟩ := hd_bounds hh
      rw [hh] at hr
      unfold hdRes at hr
      have wfn : IntKind.i64.wrap ((f : Int) + (n : Int)) = ((f + n : Nat) : Int) := by rw [wi64 (by omega) (by omega)]; omega
      have hsub : f + n - f = n := by omega
      refine contract_of (C := cf 104 [0, 1, 4, 5, 6, 7, 8, 9, 10, 11, 12, 19, 27, 39, 45, 63, 81, 91] (fun _ => [])) (cf_ok _ _ _) (fn := Try.f99) Try.func99 (by kernel_rfl) rfl (by kernel_rfl) (by simp [cf]) (plain2 (.str _) (.int _ _)) (by decide) (cellsOk (by kernel_rfl)) ?_
      simp only [go_sem, seval]
      refine ex_call (by exact hr) ?_
      unfold oneR
      rw [hh]
      simp only
      rcases Decidable.em ((l = true ∧ 16 ≤ d) ∨ 65536 < f + n) with h1 | h1
      · rw [if_pos h1]
        have e1 : decide (((f + n : Nat) : Int) > 65536) = decide (65536 < f + n) := decide_congr (by omega)
        have e2 : decide ((d : Int) ≥ 16) = decide (16 ≤ d) := decide_congr (by omega)
        have e3 : (l && decide (16 ≤ d) || decide (65536 < f + n)) = true := by
          cases l <;> simp_all
        simp only [go_sem, seval, wfn]
        refine ex_joinB 27 (l && decide (16 ≤ d) || decide (65536 < f + n)) ?_ ?_
        · repeat' (first | (refine ex_split (fun h => ?_) (fun h => ?_)) | (with_reducible refine And.intro (by omega) ?_) |
            (simp only [go_sem, seval, wfn, e1, e2]))
          all_goals (try simp only [ASt.mk.injEq, List.cons.injEq, Prod.mk.injEq, AV.bool.injEq, true_and, and_true, eq_self])
          all_goals first | (simp_all; done) | (simp_all; omega) | (rw [Bool.eq_iff_iff]; simp only [List.length_map, Bool.or_eq_true, Bool.and_eq_true, Bool.not_eq_true', Bool.not_eq_false', decide_eq_true_eq, decide_eq_false_iff_not, bne_iff_ne, beq_iff_eq, ne_eq, true_iff, iff_true, false_iff, iff_false, Bool.false_eq_true, not_false_eq_true, not_true_eq_false] at *; omega)
        rw [e3]
        simp only [go_sem, seval]
        refine finTupD (vs' := [.agg [.bool false, .str [], .ext nilP], .int .i64 (0 : Int), .int .i64 (1 : Int)]) ?_ (fins3 (dull_none _ _) _)
        show resOf _ _ [.cell 4 77, .tmp 5, .tmp 6] = _
        simp only [go_sem, seval]
      · rw [if_neg h1]
        have h2 : ¬ 65536 < f + n := fun h => h1 (.inr h)
        have e1 : decide (((f + n : Nat) : Int) > 65536) = false := decide_eq_false (by omega)
        rcases Decidable.em (s.length < f + n) with h3 | h3
        · rw [if_pos h3]
          have e3 : decide (((f + n : Nat) : Int) > (s.length : Int)) = true := decide_eq_true (by omega)
          cases l with
          | false =>
            simp only [go_sem, seval, wfn, e1, e3]
            refine finTupD (vs' := [.agg [.bool false, .str [], .ext nilP], .int .i64 (0 : Int), .int .i64 (7 : Int)]) ?_ (fins3 (dull_none _ _) _)
            show resOf _ _ [.cell 4 77, .tmp 5, .tmp 6] = _
            simp only [go_sem, seval]
          | true =>
            have e2 : decide ((d : Int) ≥ 16) = false := decide_eq_false fun h => h1 (.inl ⟨rfl, by omega⟩)
            simp only [go_sem, seval, wfn, e1, e2, e3]
            refine finTupD (vs' := [.agg [.bool false, .str [], .ext nilP], .int .i64 (0 : Int), .int .i64 (7 : Int)]) ?_ (fins3 (dull_none _ _) _)
            show resOf _ _ [.cell 4 77, .tmp 5, .tmp 6] = _
            simp only [go_sem, seval]
        · rw [if_neg h3]
          have e3 : decide (((f + n : Nat) : Int) > (s.length : Int)) = false := decide_eq_false (by omega)
          have hlen : ((s.drop f).take n).length = n := by rw [List.length_take, List.length_drop]; omega
          cases l with
          | false =>
            rw [if_pos rfl]
            have ha := c_item_alone ((s.drop f).take n) (by omega)
            rcases Decidable.em (0 < f) with h4 | h4
            · have e4 : decide ((f : Int) > 0) = true := decide_eq_true (by omega)
              simp only [go_sem, seval, wfn, e1, e3, e4, Int.toNat_natCast, hsub]
              refine ⟨by omega, ?_⟩
              refine ex_call (by exact ha) ?_
              cases hal : aloneB ((s.drop f).take n) with
              | true =>
                rw [if_pos ⟨h4, rfl⟩]
                simp only [go_sem, seval]
                refine finTupD (vs' := [.agg [.bool false, .str [], .ext nilP], .int .i64 (0 : Int), .int .i64 (1 : Int)]) ?_ (fins3 (dull_none _ _) _)
                show resOf _ _ [.cell 4 77, .tmp 5, .tmp 6] = _
                simp only [go_sem, seval]
              | false =>
                rw [if_neg (fun h => by cases h.2)]
                simp only [go_sem, seval, Int.toNat_natCast, hsub]
                refine ⟨by omega, ?_⟩
                refine finTupD (vs' := [.agg [.bool false, .str ((s.drop f).take n), .ext nilP], .int .i64 ((f + n : Nat) : Int), .int .i64 (0 : Int)]) ?_ (fins3 (dull_none _ _) _)
                show resOf _ _ [.cell 4 77, .tmp 5, .tmp 6] = _
                simp only [go_sem, seval]
            · have e4 : decide ((f : Int) > 0) = false := decide_eq_false (by omega)
              rw [if_neg (fun h => h4 h.1)]
              simp only [go_sem, seval, wfn, e1, e3, e4, Int.toNat_natCast, hsub]
              refine ⟨by omega, ?_⟩
              refine finTupD (vs' := [.agg [.bool false, .str ((s.drop f).take n), .ext nilP], .int .i64 ((f + n : Nat) : Int), .int .i64 (0 : Int)]) ?_ (fins3 (dull_none _ _) _)
              show resOf _ _ [.cell 4 77, .tmp 5, .tmp 6] = _
              simp only [go_sem, seval]
          | true =>
            have hf := b3 rfl
            have hd16 : d < 16 := by
              rcases Nat.lt_or_ge d 16 with h | h
              · exact h
              · exact absurd (.inl ⟨rfl, h⟩) h1
            have e2 : decide ((d : Int) ≥ 16) = false := decide_eq_false (by omega)
            rw [if_neg (by simp)]
            obtain ⟨body, hbody⟩ : ∃ body, body = (s.drop f).take n := ⟨_, rfl⟩
            rw [← hbody] at hlen ⊢
            simp only [go_sem, seval, wfn, e1, e2, e3, Int.toNat_natCast, hsub]
            refine ⟨by omega, ?_⟩
            rw [← hbody]
            refine ex_iter [1, 4, 8, 9] (fun q : List ItemD × List UInt8 => ⟨[(1, .int .i64 d), (4, .var 4 0), (8, .int .i64 (f + n : Nat)), (9, .str q.2)], [(4, [.bool true, .str [], .own false 3 (q.1.map ItemD.av)])]⟩)
              (fun q => q.1.length + q.2.length ≤ n ∧ itemsP (d + 1) body = (itemsP (d + 1) q.2).map (q.1 ++ ·)) (fun q => q.2.length) ([], body) ?_ ?_ ?_
            · simp only [ASt.keep, consIf, keepL, keepV, AV.isBot, List.contains_cons, List.contains_nil, Nat.reduceBEq, Bool.or_false, Bool.false_or, Bool.or_true, Bool.true_or, beq_self_eq_true, Bool.false_eq_true, ↓reduceIte, if_false, if_true]
              rfl
            · refine ⟨by simp only [List.length_nil]; omega, ?_⟩
              cases itemsP (d + 1) body <;> rfl
            · rintro r ⟨xs, rest⟩ ⟨hq1, hq2⟩ next
              simp only at hq1 hq2
              simp only [go_sem, seval]
              refine ex_br (fun hc => ?_) (fun hc => ?_)
              · have hne : rest ≠ [] := by rintro rfl; simp at hc
                have hone := items_one (d := d + 1) hne
                have hcall := ih rest.length (by omega) rest (d + 1) (Nat.le_refl _) (by omega) (by omega)
                have hp := one_parse (d + 1) rest
                simp only [go_sem, seval, wd]
                cases ho : oneR (d + 1) rest with
                | error e =>
                  rw [ho] at hcall hone hp
                  have he0 : ((e : Int) != 0) = true := by
                    unfold oneR at ho
                    cases hh2 : hdOf rest with
                    | error e2 =>
                      rw [hh2] at ho
                      cases ho
                      rcases hd_err hh2 with rfl | rfl <;> rfl
                    | ok r2 =>
                      obtain ⟨l2, f2, n2⟩ := r2
                      rw [hh2] at ho
                      simp only at ho
                      repeat' (split at ho)
                      all_goals first | (cases ho; rfl) | (cases ho; done)
                  have hnone : itemsP (d + 1) body = none := by rw [hq2, hone]; rfl
                  rw [hnone]
                  unfold resP at hcall
                  refine ex_call (by exact hcall) ?_
                  simp only [go_sem, seval, he0]
                  refine finTupD (vs' := [.agg [.bool false, .str [], .ext nilP], .int .i64 (0 : Int), .int .i64 (1 : Int)]) ?_ (fins3 (dull_none _ _) _)
                  show resOf _ _ [.cell 4 77, .tmp 5, .tmp 6] = _
                  simp only [go_sem, seval]
                | ok r2 =>
                  obtain ⟨x, k⟩ := r2
                  rw [ho] at hcall hone hp
                  have hp : parse (d + 1) rest = .ok (x, k) := hp
                  have hpo := parse_ok hp
                  have hp1 := hpo.pos
                  have hp2 := hpo.le
                  unfold resP at hcall
                  refine ex_call (by exact hcall) ?_
                  simp only [go_sem, seval]
                  refine ex_draw [9] [] (.quiet 0 (.quiet 1 (.quiet 2 (.quiet 5 (.quiet 6 (.quiet 7 (.one 3 (.one 4 (.quiet 8 (.unlock (.one 9 (.quiet 10 (.fin))))))))))))) (by kernel_rfl) ?_
                  simp only [go_sem, seval, List.length_map, Int.toNat_natCast]
                  repeat with_reducible refine And.intro (by first | omega | (simp only [List.length_cons, List.length_append, List.length_nil, List.length_map, List.length_take, List.length_drop, List.length_set]; omega)) ?_
                  refine next (xs ++ [x], rest.drop k) _ ?_ ?_ ?_
                  · refine ⟨by simp only [List.length_append, List.length_singleton, List.length_drop]; omega, ?_⟩
                    simp only
                    rw [hq2, hone]
                    simp only [Option.map_map]
                    congr 1
                    funext ys
                    simp
                  · simp only [List.length_drop]; omega
                  · simp only [ASt.keep, consIf, keepL, keepV, AV.isBot, List.contains_cons, List.contains_nil, Nat.reduceBEq, Bool.or_false, Bool.false_or, Bool.or_true, Bool.true_or, beq_self_eq_true, Bool.false_eq_true, ↓reduceIte, if_false, if_true]
                    simp only [List.map_append, List.map_cons, List.map_nil, ItemD.av_eq, ItemD.cells]
                    rw [List.take_of_length_le (by simp)]
              · have hnil : rest = [] := by simpa using hc
                subst hnil
                have hsome : itemsP (d + 1) body = some xs := by rw [hq2, itemsP_nil]; simp
                rw [hsome]
                simp only [go_sem, seval]
                refine finTupD (vs' := [.agg [.bool true, .str [], .sl true 3 (xs.map ItemD.av)], .int .i64 ((f + n : Nat) : Int), .int .i64 (0 : Int)]) ?_ (fins3 (dull_item _ _ _ _) _)
                show resOf _ _ [.cell 4 77, .tmp 5, .tmp 6] = _
                simp only [go_sem, seval]
theorem c_item_Take (s : List UInt8) (hs : s.length ≤ 16777216) : Contract Try.prog 82 [.str s] (resP (parse 0 s)) := by
  have h := c_one s.length s 0 (Nat.le_refl _) hs (by omega)
  rw [one_zero] at h
  cases hp : parse 0 s with
  | error e =>
    rw [hp] at h
    unfold resP at h
    refine contract_of (C := cf 10 [0, 2, 3, 4] (fun _ => [])) (cf_ok _ _ _) (fn := Try.f82) Try.func82 (by kernel_rfl) rfl (by kernel_rfl) (by simp [cf]) (plain1 (.str _)) (by decide) (cellsOk (by kernel_rfl)) ?_
    simp only [go_sem, seval]
    refine ex_call (by exact h) ?_
    simp only [go_sem, seval]
    refine finTup ?_
    show resOf _ _ [.cell 2 77, .tmp 3, .tmp 4] = _
    simp only [go_sem, seval]
  | ok r =>
    obtain ⟨it, k⟩ := r
    rw [hp] at h
    unfold resP at h
    refine contract_of (C := cf 10 [0, 2, 3, 4] (fun _ => [])) (cf_ok _ _ _) (fn := Try.f82) Try.func82 (by kernel_rfl) rfl (by kernel_rfl) (by simp [cf]) (plain1 (.str _)) (by decide) (cellsOk (by kernel_rfl)) ?_
    simp only [go_sem, seval]
    refine ex_call (by exact h) ?_
    simp only [go_sem, seval]
    refine finTup ?_
    show resOf _ _ [.cell 2 77, .tmp 3, .tmp 4] = _
    simp only [go_sem, seval]
/-- The item that all of the bytes are. -/
def parseAll (s : List UInt8) : Except Nat ItemD :=
  match parse 0 s with
  | .error e => .error e
  | .ok (it, k) => if k < s.length then .error 1 else .ok it
def resA : Except Nat ItemD → AV
  | .error e => .tup [.agg [.bool false, .str [], .sl false 3 []], .int .i64 (e : Int)]
  | .ok it => .tup [.agg [.bool it.list, .str it.text, .sl false 3 (it.items.map ItemD.av)], .int .i64 (0 : Int)]
theorem parse_err {s : List UInt8} {e : Nat} (h : parse 0 s = .error e) : e = 7 ∨ e = 1 := by
  rw [← one_zero] at h
  unfold oneR at h
  cases hh : hdOf s with
  | error e2 => rw [hh] at h; cases h; exact hd_err hh
  | ok r2 =>
    obtain ⟨l2, f2, n2⟩ := r2
    rw [hh] at h
    simp only at h
    repeat' (split at h)
    all_goals first | (cases h; omega) | (cases h; done)
theorem c_item_Parse (s : List UInt8) (hs : s.length ≤ 16777216) : Contract Try.prog 58 [.str s] (resA (parseAll s)) := by
  have h := c_item_Take s hs
  unfold parseAll
  cases hp : parse 0 s with
  | error e =>
    rw [hp] at h
    unfold resP at h
    have e0 : ((e : Int) != 0) = true := by rcases parse_err hp with rfl | rfl <;> rfl
    refine contract_of (C := cf 25 [0, 2, 3, 4, 5, 6, 13, 18] (fun _ => [])) (cf_ok _ _ _) (fn := Try.f58) Try.func58 (by kernel_rfl) rfl (by kernel_rfl) (by simp [cf]) (plain1 (.str _)) (by decide) (cellsOk (by kernel_rfl)) ?_
    simp only [go_sem, seval]
    refine ex_call (by exact h) ?_
    simp only [go_sem, seval, e0]
    refine finTupD (vs' := [.agg [.bool false, .str [], .ext nilP], .int .i64 (e : Int)]) ?_ (fins3 (dull_none _ _) _)
    show resOf _ _ [.cell 2 77, .tmp 3] = _
    simp only [go_sem, seval]
  | ok r =>
    obtain ⟨it, k⟩ := r
    rw [hp] at h
    unfold resP at h
    simp only
    rcases Decidable.em (k < s.length) with hk | hk
    · rw [if_pos hk]
      have e1 : decide ((k : Int) < (s.length : Int)) = true := decide_eq_true (by omega)
      refine contract_of (C := cf 25 [0, 2, 3, 4, 5, 6, 13, 18] (fun _ => [])) (cf_ok _ _ _) (fn := Try.f58) Try.func58 (by kernel_rfl) rfl (by kernel_rfl) (by simp [cf]) (plain1 (.str _)) (by decide) (cellsOk (by kernel_rfl)) ?_
      simp only [go_sem, seval]
      refine ex_call (by exact h) ?_
      simp only [go_sem, seval, e1]
      refine finTupD (vs' := [.agg [.bool false, .str [], .ext nilP], .int .i64 (1 : Int)]) ?_ (fins3 (dull_none _ _) _)
      show resOf _ _ [.cell 2 77, .tmp 3] = _
      simp only [go_sem, seval]
    · rw [if_neg hk]
      have e1 : decide ((k : Int) < (s.length : Int)) = false := decide_eq_false (by omega)
      refine contract_of (C := cf 25 [0, 2, 3, 4, 5, 6, 13, 18] (fun _ => [])) (cf_ok _ _ _) (fn := Try.f58) Try.func58 (by kernel_rfl) rfl (by kernel_rfl) (by simp [cf]) (plain1 (.str _)) (by decide) (cellsOk (by kernel_rfl)) ?_
      simp only [go_sem, seval]
      refine ex_call (by exact h) ?_
      simp only [go_sem, seval, e1]
      refine finTup ?_
      show resOf _ _ [.cell 2 77, .tmp 3] = _
      simp only [go_sem, seval]
end Go.Proofs.Ytfafaiicbhcfdaa.VA
end
section
/- Where paths come together behind a choice, some of them having returned before. -/
namespace Go.Proofs.Ytfafaiicbhcfdaa.VA
theorem ex_cut {α : Type} {C : Cfg} {Q : AEx → ASt → Prop} {k : List Todo} {t : Todo} {σ : ASt} (st : α → ASt) (p : α → Prop) (h2 : ∀ a, p a → exec C Q k .normal (st a))
    (h1 : ∀ κ : List Todo, (∀ a, p a → exec C Q κ .normal (st a)) → exec C Q (t :: κ) .normal σ) : exec C Q (t :: k) .normal σ := h1 k h2
theorem ex_cut2 {α : Type} {C : Cfg} {Q : AEx → ASt → Prop} {k : List Todo} {t u : Todo} {σ : ASt} (st : α → ASt) (p : α → Prop) (h2 : ∀ a, p a → exec C Q k .normal (st a))
    (h1 : ∀ κ : List Todo, (∀ a, p a → exec C Q κ .normal (st a)) → exec C Q (t :: u :: κ) .normal σ) : exec C Q (t :: u :: k) .normal σ := h1 k h2
theorem ex_ret_any {C : Cfg} {Q : AEx → ASt → Prop} : ∀ {k : List Todo} {σ : ASt}, Q .ret σ → exec C Q k .ret σ
  | [], _, h => h
  | t :: k, σ, h => by
    have ih := ex_ret_any (C := C) (k := k) h
    cases t <;> first | exact ih | (rename_i b _ _; cases b <;> exact ih)
end Go.Proofs.Ytfafaiicbhcfdaa.VA
end
section
/- Items out of bytes: the page's own. -/
namespace Go.Proofs.Ytfafaiicbhcfdaa.VA
set_option maxRecDepth 10000
set_option linter.unusedSimpArgs false
set_option linter.unusedVariables false
set_option maxHeartbeats 16000000

def bodyR (d : Nat) (s : List UInt8) (l : Bool) (f n : Nat) : Except Nat (ItemD × Nat) :=
  if f + n > 65536 then .error 1
  else if s.length < f + n then .error 7
  else if l = false then (if 0 < f ∧ aloneB ((s.drop f).take n) = true then .error 1 else .ok (.mk false ((s.drop f).take n) [], f + n))
  else if 16 ≤ d then .error 1
  else match itemsP (d + 1) ((s.drop f).take n) with
    | some xs => .ok (.mk true [] xs, f + n)
    | none => .error 1
theorem parse_body {d : Nat} {s : List UInt8} {l : Bool} {f n : Nat} (hh : hdOf s = .ok (l, f, n)) : parse d s = bodyR d s l f n := by
  obtain ⟨b1, b2, b3⟩ := hd_bounds hh
  rw [parse, hh]
  unfold bodyR
  simp only
  split
  · rfl
  · split
    · rfl
    · split
      · rfl
      · split
        · rfl
        · rename_i h1 h2 h3 h4
          have hl : l = true := by cases l <;> simp_all
          have := b3 hl
          rw [dif_pos (by rw [List.length_take, List.length_drop]; omega)]
          cases itemsP (d + 1) ((s.drop f).take n) <;> rfl
theorem parse_errD {d : Nat} {s : List UInt8} {e : Nat} (h : parse d s = .error e) : e = 7 ∨ e = 1 := by
  cases hh : hdOf s with
  | error e2 => rw [parse, hh] at h; cases h; exact hd_err hh
  | ok r2 =>
    obtain ⟨l2, f2, n2⟩ := r2
    rw [parse_body hh] at h
    unfold bodyR at h
    repeat' (split at h)
    all_goals first | (cases h; omega) | (cases h; done)
theorem numOf_take_le (t : List UInt8) {i k : Nat} (h : i ≤ k) : numOf (t.take i) ≤ numOf (t.take k) := by
  have e : t.take k = t.take i ++ (t.drop i).take (k - i) := by
    rw [← List.take_add]; congr 1; omega
  rw [e, numOf_append]
  have : 0 < 256 ^ ((t.drop i).take (k - i)).length := Nat.pow_pos (by decide)
  have := Nat.le_mul_of_pos_right (numOf (t.take i)) this
  omega
theorem c_take (N : Nat) : ∀ (s : List UInt8) (d : Nat), s.length ≤ N → s.length ≤ 16777216 → d ≤ 16 → Contract Try.prog 87 [.str s, .int .i64 d] (resP (parse d s)) := by
  induction N using Nat.strongRecOn with
  | _ N ih =>
    intro s d hN hs hd
    have wd : IntKind.i64.wrap ((d : Int) + 1) = ((d + 1 : Nat) : Int) := wi64_nat d (by omega)
    cases s with
    | nil =>
      have hp : parse d [] = .error 7 := by rw [parse]; rfl
      rw [hp]
      refine contract_of (C := cf 139 [0, 1, 4, 5, 6, 7, 8, 9, 10, 11, 12, 13, 14, 15, 16, 17, 18, 22, 28, 34, 40, 47, 51, 55, 67, 70, 77, 84, 93, 100, 109, 114, 124] (fun _ => [])) (cf_ok _ _ _) (fn := Try.f87) Try.func87 (by kernel_rfl) rfl (by kernel_rfl) (by simp [cf]) (plain2 (.str _) (.int _ _)) (by decide) (cellsOk (by kernel_rfl)) ?_
      simp only [go_sem, seval, Int.cast_ofNat_Int]
      refine finTupD (vs' := [.agg [.bool false, .str [], .ext nilP], .int .i64 (0 : Int), .int .i64 (7 : Int)]) ?_ (fins3 (dull_none _ _) _)
      show resOf _ _ [.cell 4 77, .tmp 5, .tmp 6] = _
      simp only [go_sem, seval]
    | cons b t =>
      rw [List.length_cons] at hN hs
      have hb : b.toNat < 256 := b.toNat_lt
      have wb : IntKind.i64.wrap (b.toNat : Int) = (b.toNat : Int) := wi64n _ (by omega)
      have hpos : (0 : Int) < ((t.length + 1 : Nat) : Int) := by omega
      have e0 : (((t.length + 1 : Nat) : Int) == 0) = false := by simpa using (by omega : ¬ ((t.length + 1 : Nat) : Int) = 0)
      rcases Decidable.em (b.toNat < 128) with h1 | h1
      · have hh : hdOf (b :: t) = .ok (false, 0, 1) := by rw [hd_cons, if_pos h1]
        have hp : parse d (b :: t) = .ok (.mk false [b] [], 1) := by
          rw [parse_body hh]
          unfold bodyR
          rw [if_neg (by omega), if_neg (by simp), if_pos rfl, if_neg (by omega)]
          rfl
        rw [hp]
        have e1 : decide ((b.toNat : Int) < 128) = true := decide_eq_true (by omega)
        have hle : (1 : Int) ≤ ((t.length + 1 : Nat) : Int) := by omega
        refine contract_of (C := cf 139 [0, 1, 4, 5, 6, 7, 8, 9, 10, 11, 12, 13, 14, 15, 16, 17, 18, 22, 28, 34, 40, 47, 51, 55, 67, 70, 77, 84, 93, 100, 109, 114, 124] (fun _ => [])) (cf_ok _ _ _) (fn := Try.f87) Try.func87 (by kernel_rfl) rfl (by kernel_rfl) (by simp [cf]) (plain2 (.str _) (.int _ _)) (by decide) (cellsOk (by kernel_rfl)) ?_
        simp only [go_sem, seval, e0, e1, wb, hpos, hle, Int.cast_ofNat_Int]
        refine finTupD (vs' := [.agg [.bool false, .str [b], .ext nilP], .int .i64 (1 : Int), .int .i64 (0 : Int)]) ?_ (fins3 (dull_none _ _) _)
        show resOf _ _ [.cell 4 77, .tmp 5, .tmp 6] = _
        simp only [go_sem, seval]
      · have e1 : decide ((b.toNat : Int) < 128) = false := decide_eq_false (by omega)
        have hcons : hdOf (b :: t) = hdRest (decide (192 ≤ b.toNat)) (hdLen b) t := by rw [hd_cons, if_neg h1]
        obtain ⟨l, hl⟩ : ∃ l, decide (192 ≤ b.toNat) = l := ⟨_, rfl⟩
        obtain ⟨m, hm⟩ : ∃ m, hdLen b = m := ⟨_, rfl⟩
        rw [hl, hm] at hcons
        have hm64 : m < 64 := by rw [← hm]; unfold hdLen; split <;> omega
        have e2 : decide ((b.toNat : Int) ≥ 192) = l := by rw [← hl]; exact decide_congr (by omega)
        have w64 : IntKind.i64.wrap ((b.toNat : Int) - 64) = (b.toNat : Int) - 64 := wi64 (by omega) (by omega)
        have wl : l = true → IntKind.i64.wrap ((b.toNat : Int) - 64 - 128) = (m : Int) := fun e => by
          rw [wi64 (by omega) (by omega)]
          rw [e] at hl
          have : 192 ≤ b.toNat := of_decide_eq_true hl
          rw [← hm]; unfold hdLen; rw [if_pos this]; omega
        have wt : l = false → IntKind.i64.wrap ((b.toNat : Int) - 128) = (m : Int) := fun e => by
          rw [wi64 (by omega) (by omega)]
          rw [e] at hl
          have : ¬ 192 ≤ b.toNat := of_decide_eq_false hl
          rw [← hm]; unfold hdLen; rw [if_neg this]; omega
        refine contract_of (C := cf 139 [0, 1, 4, 5, 6, 7, 8, 9, 10, 11, 12, 13, 14, 15, 16, 17, 18, 22, 28, 34, 40, 47, 51, 55, 67, 70, 77, 84, 93, 100, 109, 114, 124] (fun _ => [])) (cf_ok _ _ _) (fn := Try.f87) Try.func87 (by kernel_rfl) rfl (by kernel_rfl) (by simp [cf]) (plain2 (.str _) (.int _ _)) (by decide) (cellsOk (by kernel_rfl)) ?_
        simp only [go_sem, seval, e0, e1, e2, wb, hpos]
        refine ex_cut (fun x : Int => ⟨[(0, .str (b :: t)), (1, .int .i64 d), (4, .var 4 0), (5, .int .i64 (0 : Int)), (6, .int .i64 (0 : Int)), (7, .var 7 0), (8, .int .i64 x), (9, .bool l), (22, .bool false), (28, .bool false), (34, .bool l)], [(4, [.bool false, .str [], .own false 3 []]), (7, [.bool false, .str [], .ext nilP])]⟩) (fun x => IntKind.i64.wrap (x - 128) = (m : Int)) (fun x hx => ?_) (fun κ hκ => ?_)
        case refine_2 =>
          cases l with
          | true =>
            simp only [go_sem, seval, w64]
            exact hκ _ (wl rfl)
          | false =>
            simp only [go_sem, seval]
            exact hκ _ (wt rfl)
        simp only [go_sem, seval, hx]
        refine ex_cut (fun q : Bool × Nat × Nat => match q.1 with
          | false => ⟨[(0, .str (b :: t)), (1, .int .i64 d), (4, .var 4 0), (5, .int .i64 (0 : Int)), (6, .int .i64 (0 : Int)), (7, .var 7 0), (8, .int .i64 x), (9, .bool l), (10, .int .i64 (q.2.2 : Nat)), (11, .int .i64 (q.2.1 : Nat)), (22, .bool false), (28, .bool false), (34, .bool l), (40, .bool false)], [(4, [.bool false, .str [], .own false 3 []]), (7, [.bool false, .str [], .ext nilP])]⟩
          | true => ⟨[(0, .str (b :: t)), (1, .int .i64 d), (4, .var 4 0), (7, .var 7 0), (9, .bool l), (10, .int .i64 (q.2.2 : Nat)), (11, .int .i64 (q.2.1 : Nat)), (12, .int .i64 (m - 55 : Nat)), (13, .int .i64 (m - 55 : Nat)), (55, .bool false), (70, .bool false)], [(4, [.bool false, .str [], .own false 3 []]), (7, [.bool false, .str [], .ext nilP])]⟩)
          (fun q => hdOf (b :: t) = .ok (l, q.2.1, q.2.2) ∧ 1 ≤ q.2.1) (fun q hq => ?_) (fun κ hκ => ?_)
        case refine_2 =>
          rcases Decidable.em (m ≤ 55) with h55 | h55
          · have e3 : decide ((m : Int) > 55) = false := decide_eq_false (by omega)
            have hh : hdOf (b :: t) = .ok (l, 1, m) := by rw [hcons]; unfold hdRest; rw [if_pos h55]
            rw [e3]
            simp only [go_sem, seval]
            exact hκ (false, 1, m) ⟨hh, Nat.le_refl _⟩
          · have e3 : decide ((m : Int) > 55) = true := decide_eq_true (by omega)
            have w55 : IntKind.i64.wrap ((m : Int) - 55) = ((m - 55 : Nat) : Int) := by rw [wi64 (by omega) (by omega)]; omega
            have wf : IntKind.i64.wrap (1 + ((m - 55 : Nat) : Int)) = ((1 + (m - 55) : Nat) : Int) := by rw [wi64 (by omega) (by omega)]; omega
            unfold hdRest at hcons
            rw [if_neg h55] at hcons
            rw [e3]
            rcases Decidable.em (t.length < m - 55) with hlt | hlt
            · rw [if_pos hlt] at hcons
              have hp : parse d (b :: t) = .error 7 := by rw [parse, hcons]
              rw [hp]
              have e4 : decide (((t.length + 1 : Nat) : Int) < ((1 + (m - 55) : Nat) : Int)) = true := decide_eq_true (by omega)
              simp only [go_sem, seval, w55, wf, e4]
              refine ex_ret_any ?_
              refine finTupD (vs' := [.agg [.bool false, .str [], .ext nilP], .int .i64 (0 : Int), .int .i64 (7 : Int)]) ?_ (fins3 (dull_none _ _) _)
              show resOf _ _ [.cell 4 77, .tmp 5, .tmp 6] = _
              simp only [go_sem, seval]
            · rw [if_neg hlt] at hcons
              have e4 : decide (((t.length + 1 : Nat) : Int) < ((1 + (m - 55) : Nat) : Int)) = false := decide_eq_false (by omega)
              obtain ⟨c0, hc0⟩ : ∃ c0, t[0]? = some c0 := ⟨_, List.getElem?_eq_getElem (by omega)⟩
              have h1lt : (1 : Int) < ((t.length + 1 : Nat) : Int) := by omega
              rcases Decidable.em (t.head? = some 0) with hz | hz
              · rw [if_pos hz] at hcons
                have hp : parse d (b :: t) = .error 1 := by rw [parse, hcons]
                rw [hp]
                have hc : c0 = 0 := by rw [List.head?_eq_getElem?, hc0] at hz; exact Option.some.inj hz
                have e5 : ((c0.toNat : Int) == 0) = true := by rw [hc]; rfl
                simp only [go_sem, seval, w55, wf, e4, hc0, h1lt, e5]
                refine ex_ret_any ?_
                refine finTupD (vs' := [.agg [.bool false, .str [], .ext nilP], .int .i64 (0 : Int), .int .i64 (1 : Int)]) ?_ (fins3 (dull_none _ _) _)
                show resOf _ _ [.cell 4 77, .tmp 5, .tmp 6] = _
                simp only [go_sem, seval]
              · rw [if_neg hz] at hcons
                have hc : c0.toNat ≠ 0 := fun e => hz (by rw [List.head?_eq_getElem?, hc0, UInt8.toNat_inj.1 (show c0.toNat = (0 : UInt8).toNat from e)])
                have e5 : ((c0.toNat : Int) == 0) = false := by simpa using hc
                simp only [go_sem, seval, w55, wf, e4, hc0, h1lt, e5]
                refine ex_iter [0, 1, 4, 7, 9, 10, 12, 13] (fun i : Nat => ⟨[(0, .str (b :: t)), (1, .int .i64 d), (4, .var 4 0), (7, .var 7 0), (9, .bool l), (10, .int .i64 (numOf (t.take i) : Nat)), (12, .int .i64 (m - 55 : Nat)), (13, .int .i64 i)], [(4, [.bool false, .str [], .own false 3 []]), (7, [.bool false, .str [], .ext nilP])]⟩)
                  (fun i => i ≤ m - 55 ∧ numOf (t.take i) ≤ 65536) (fun i => m - 55 - i) 0 ?_ ?_ ?_
                · simp only [ASt.keep, consIf, keepL, keepV, AV.isBot, List.contains_cons, List.contains_nil, Nat.reduceBEq, Bool.or_false, Bool.false_or, Bool.or_true, Bool.true_or, beq_self_eq_true, Bool.false_eq_true, ↓reduceIte, if_false, if_true]
                  rfl
                · exact ⟨Nat.zero_le _, by rw [List.take_zero]; decide⟩
                · rintro r i ⟨hi, hni⟩ next
                  simp only [go_sem, seval]
                  refine ex_br (fun hc1 => ?_) (fun hc1 => ?_)
                  · have hilt : i < m - 55 := by simpa using hc1
                    obtain ⟨c, hc⟩ : ∃ c, t[i]? = some c := ⟨_, List.getElem?_eq_getElem (by omega)⟩
                    have hcl : c.toNat < 256 := c.toNat_lt
                    have hget : (b :: t)[1 + i]? = some c := by rw [Nat.add_comm, List.getElem?_cons_succ]; exact hc
                    have hsn : numOf (t.take (i + 1)) = numOf (t.take i) * 256 + c.toNat := by rw [List.take_add_one, hc]; exact numOf_snoc _ _
                    have w1 : IntKind.i64.wrap ((numOf (t.take i) : Int) * 256) = (numOf (t.take i) : Int) * 256 := wi64 (by omega) (by omega)
                    have w2 : IntKind.i64.wrap (1 + (i : Int)) = ((1 + i : Nat) : Int) := by rw [wi64 (by omega) (by omega)]; omega
                    have w3 : IntKind.i64.wrap (c.toNat : Int) = (c.toNat : Int) := wi64n _ (by omega)
                    have w4 : IntKind.i64.wrap ((numOf (t.take i) : Int) * 256 + (c.toNat : Int)) = (numOf (t.take (i + 1)) : Int) := by rw [wi64 (by omega) (by omega), hsn]; omega
                    simp only [go_sem, seval, w1, w2, w3, w4, Int.toNat_natCast, hget]
                    refine ⟨by omega, ?_⟩
                    refine ex_br (fun hc2 => ?_) (fun hc2 => ?_)
                    · have hbig : numOf (t.take (i + 1)) > 65536 := by simp at hc2; omega
                      have := numOf_take_le t (show i + 1 ≤ m - 55 by omega)
                      rw [if_pos (.inl (by omega))] at hcons
                      have hp : parse d (b :: t) = .error 1 := by rw [parse, hcons]
                      rw [hp]
                      simp only [go_sem, seval]
                      refine ex_ret_any ?_
                      refine finTupD (vs' := [.agg [.bool false, .str [], .ext nilP], .int .i64 (0 : Int), .int .i64 (1 : Int)]) ?_ (fins3 (dull_none _ _) _)
                      show resOf _ _ [.cell 4 77, .tmp 5, .tmp 6] = _
                      simp only [go_sem, seval]
                    · have hsm : numOf (t.take (i + 1)) ≤ 65536 := by simp at hc2; omega
                      simp only [go_sem, seval]
                      refine next (i + 1) _ ⟨by omega, hsm⟩ (by omega) ?_
                      rw [← wi64_nat i (by omega)]
                      simp only [ASt.keep, consIf, keepL, keepV, AV.isBot, List.contains_cons, List.contains_nil, Nat.reduceBEq, Bool.or_false, Bool.false_or, Bool.or_true, Bool.true_or, beq_self_eq_true, Bool.false_eq_true, ↓reduceIte, if_false, if_true]
                  · have hie : i = m - 55 := by simp at hc1; omega
                    subst hie
                    have hirr : decide (((m - 55 : Nat) : Int) < ((m - 55 : Nat) : Int)) = false := decide_eq_false (by omega)
                    rw [hirr]
                    simp only [go_sem, seval]
                    rcases Decidable.em (numOf (t.take (m - 55)) < 56) with h7 | h7
                    · have e7 : decide ((numOf (t.take (m - 55)) : Int) < 56) = true := decide_eq_true (by omega)
                      rw [if_pos (.inr (by omega))] at hcons
                      have hp : parse d (b :: t) = .error 1 := by rw [parse, hcons]
                      rw [hp]
                      simp only [go_sem, seval, e7]
                      refine ex_ret_any ?_
                      refine finTupD (vs' := [.agg [.bool false, .str [], .ext nilP], .int .i64 (0 : Int), .int .i64 (1 : Int)]) ?_ (fins3 (dull_none _ _) _)
                      show resOf _ _ [.cell 4 77, .tmp 5, .tmp 6] = _
                      simp only [go_sem, seval]
                    · have e7 : decide ((numOf (t.take (m - 55)) : Int) < 56) = false := decide_eq_false (by omega)
                      rw [if_neg (by omega)] at hcons
                      simp only [go_sem, seval, e7, wf]
                      exact hκ (true, 1 + (m - 55), numOf (t.take (m - 55))) ⟨hcons, Nat.le_add_right 1 _⟩
        obtain ⟨o, f, n⟩ := q
        obtain ⟨hh, hf⟩ := hq
        simp only at hh hf
        obtain ⟨b1, b2, b3⟩ := hd_bounds hh
        rw [parse_body hh]
        have wfn : IntKind.i64.wrap ((f : Int) + (n : Int)) = ((f + n : Nat) : Int) := by rw [wi64 (by omega) (by omega)]; omega
        have hsub : f + n - f = n := by omega
        unfold bodyR
        rw [List.length_cons]
        cases o
        all_goals
          rcases Decidable.em (f + n > 65536) with h2 | h2
          · rw [if_pos h2]
            have e3 : decide (((f + n : Nat) : Int) > 65536) = true := decide_eq_true (by omega)
            simp only [go_sem, seval, wfn, e3]
            refine finTupD (vs' := [.agg [.bool false, .str [], .ext nilP], .int .i64 (0 : Int), .int .i64 (1 : Int)]) ?_ (fins3 (dull_none _ _) _)
            show resOf _ _ [.cell 4 77, .tmp 5, .tmp 6] = _
            simp only [go_sem, seval]
          rw [if_neg h2]
          have e3 : decide (((f + n : Nat) : Int) > 65536) = false := decide_eq_false (by omega)
          rcases Decidable.em (t.length + 1 < f + n) with h3 | h3
          · rw [if_pos h3]
            have e4 : decide (((t.length + 1 : Nat) : Int) < ((f + n : Nat) : Int)) = true := decide_eq_true (by omega)
            simp only [go_sem, seval, wfn, e3, e4]
            refine finTupD (vs' := [.agg [.bool false, .str [], .ext nilP], .int .i64 (0 : Int), .int .i64 (7 : Int)]) ?_ (fins3 (dull_none _ _) _)
            show resOf _ _ [.cell 4 77, .tmp 5, .tmp 6] = _
            simp only [go_sem, seval]
          rw [if_neg h3]
          have e4 : decide (((t.length + 1 : Nat) : Int) < ((f + n : Nat) : Int)) = false := decide_eq_false (by omega)
          have hlen : (((b :: t).drop f).take n).length = n := by rw [List.length_take, List.length_drop, List.length_cons]; omega
          obtain ⟨body, hbody⟩ : ∃ body, body = ((b :: t).drop f).take n := ⟨_, rfl⟩
          rw [← hbody] at hlen ⊢
          cases l
          case' false =>
            rw [if_pos rfl]
            simp only [go_sem, seval, wfn, e3, e4, Int.toNat_natCast, hsub]
            refine ⟨by omega, ?_⟩
            rw [← hbody]
            rcases Decidable.em (n = 1) with hn1 | hn1
            · subst hn1
              obtain ⟨c, hc⟩ : ∃ c, body = [c] := List.length_eq_one_iff.1 hlen
              subst hc
              have ha : aloneB [c] = decide (c.toNat < 128) := rfl
              have e8 : decide ((c.toNat : Int) < 128) = decide (c.toNat < 128) := decide_congr (by omega)
              rw [ha]
              cases h8 : decide (c.toNat < 128) with
              | true =>
                rw [h8] at e8
                rw [if_pos ⟨hf, rfl⟩]
                simp only [go_sem, seval, e8, Int.cast_ofNat_Int]
                refine finTupD (vs' := [.agg [.bool false, .str [], .ext nilP], .int .i64 (0 : Int), .int .i64 (1 : Int)]) ?_ (fins3 (dull_none _ _) _)
                show resOf _ _ [.cell 4 77, .tmp 5, .tmp 6] = _
                simp only [go_sem, seval]
              | false =>
                rw [h8] at e8
                rw [if_neg (fun h => by cases h.2)]
                simp only [go_sem, seval, e8, wfn, Int.cast_ofNat_Int]
                refine finTupD (vs' := [.agg [.bool false, .str [c], .ext nilP], .int .i64 ((f + 1 : Nat) : Int), .int .i64 (0 : Int)]) ?_ (fins3 (dull_none _ _) _)
                show resOf _ _ [.cell 4 77, .tmp 5, .tmp 6] = _
                have wf1 : IntKind.i64.wrap ((f : Int) + 1) = ((f + 1 : Nat) : Int) := wfn
                simp only [go_sem, seval, wf1]
            · have e8 : ((n : Int) == 1) = false := by simpa using (by omega : ¬ (n : Int) = 1)
              have ha : aloneB body = false := by
                cases hq : aloneB body with
                | false => rfl
                | true => have := alone_len hq; omega
              rw [ha, if_neg (fun h => by cases h.2)]
              simp only [go_sem, seval, e8, wfn]
              refine finTupD (vs' := [.agg [.bool false, .str body, .ext nilP], .int .i64 ((f + n : Nat) : Int), .int .i64 (0 : Int)]) ?_ (fins3 (dull_none _ _) _)
              show resOf _ _ [.cell 4 77, .tmp 5, .tmp 6] = _
              simp only [go_sem, seval]
          case' true =>
            rw [if_neg (by simp)]
            simp only [go_sem, seval, wfn, e3, e4, Int.toNat_natCast, hsub, wd]
            refine ⟨by omega, ?_⟩
            rw [← hbody]
            rcases Decidable.em (16 ≤ d) with h9 | h9
            · rw [if_pos h9]
              have e9 : decide (((d + 1 : Nat) : Int) > 16) = true := decide_eq_true (by omega)
              simp only [go_sem, seval, e9]
              refine finTupD (vs' := [.agg [.bool false, .str [], .ext nilP], .int .i64 (0 : Int), .int .i64 (1 : Int)]) ?_ (fins3 (dull_none _ _) _)
              show resOf _ _ [.cell 4 77, .tmp 5, .tmp 6] = _
              simp only [go_sem, seval]
            rw [if_neg h9]
            have e9 : decide (((d + 1 : Nat) : Int) > 16) = false := decide_eq_false (by omega)
            simp only [go_sem, seval, e9]
            refine ex_iter [1, 4, 7, 10, 11, 14, 15] (fun q : List ItemD × List UInt8 => ⟨[(1, .int .i64 d), (4, .var 4 0), (7, .var 7 0), (10, .int .i64 n), (11, .int .i64 f), (14, .str q.2), (15, .var 15 0)], [(4, [.bool false, .str [], .own false 3 []]), (7, [.bool false, .str [], .ext nilP]), (15, [.bool true, .str [], repI 3 q.1.length (q.1.map ItemD.av)])]⟩)
              (fun q => q.1.length + q.2.length ≤ n ∧ itemsP (d + 1) body = (itemsP (d + 1) q.2).map (q.1 ++ ·)) (fun q => q.2.length) ([], body) ?_ ?_ ?_
            · simp only [ASt.keep, consIf, keepL, keepV, AV.isBot, List.contains_cons, List.contains_nil, Nat.reduceBEq, Bool.or_false, Bool.false_or, Bool.or_true, Bool.true_or, beq_self_eq_true, Bool.false_eq_true, ↓reduceIte, if_false, if_true]
              rfl
            · refine ⟨by simp only [List.length_nil]; omega, ?_⟩
              cases itemsP (d + 1) body <;> rfl
            · rintro r ⟨xs, rest⟩ ⟨hq1, hq2⟩ next
              simp only at hq1 hq2
              simp only [go_sem, seval]
              refine ex_br (fun hc => ?_) (fun hc => ?_)
              · have hne : rest ≠ [] := by rintro rfl; simp at hc
                have hone := itemsP_cons (d := d + 1) hne
                have hcall := ih rest.length (by omega) rest (d + 1) (Nat.le_refl _) (by omega) (by omega)
                simp only [go_sem, seval, wd]
                cases ho : parse (d + 1) rest with
                | error e =>
                  rw [ho] at hcall hone
                  have he0 : ((e : Int) != 0) = true := by rcases parse_errD ho with rfl | rfl <;> rfl
                  have hnone : itemsP (d + 1) body = none := by rw [hq2, hone]; rfl
                  rw [hnone]
                  unfold resP at hcall
                  refine ex_call (by exact hcall) ?_
                  simp only [go_sem, seval, he0]
                  refine finTupD (vs' := [.agg [.bool false, .str [], .ext nilP], .int .i64 (0 : Int), .int .i64 (1 : Int)]) ?_ (fins3 (dull_none _ _) _)
                  show resOf _ _ [.cell 4 77, .tmp 5, .tmp 6] = _
                  simp only [go_sem, seval]
                | ok r2 =>
                  obtain ⟨x, k⟩ := r2
                  rw [ho] at hcall hone
                  have hpo := parse_ok ho
                  have hp1 := hpo.pos
                  have hp2 := hpo.le
                  simp only at hone
                  rw [if_pos (by omega)] at hone
                  unfold resP at hcall
                  refine ex_call (by exact hcall) ?_
                  have hinv : (xs ++ [x]).length + (rest.drop k).length ≤ n ∧ itemsP (d + 1) body = (itemsP (d + 1) (rest.drop k)).map ((xs ++ [x]) ++ ·) := by
                    refine ⟨by simp only [List.length_append, List.length_singleton, List.length_drop]; omega, ?_⟩
                    rw [hq2, hone, Option.map_map]
                    congr 1
                    funext ys
                    simp
                  have hmu : (rest.drop k).length < rest.length := by rw [List.length_drop]; omega
                  cases xs with
                  | nil =>
                    simp only [go_sem, seval, repI, Int.toNat_natCast]
                    repeat with_reducible refine And.intro (by first | omega | (simp only [List.length_cons, List.length_append, List.length_nil, List.length_map, List.length_take, List.length_drop, List.length_set]; omega)) ?_
                    refine next ([] ++ [x], rest.drop k) _ hinv hmu ?_
                    simp only [ASt.keep, consIf, keepL, keepV, AV.isBot, List.contains_cons, List.contains_nil, Nat.reduceBEq, Bool.or_false, Bool.false_or, Bool.or_true, Bool.true_or, beq_self_eq_true, Bool.false_eq_true, ↓reduceIte, if_false, if_true]
                    simp only [List.nil_append, List.map_cons, List.map_nil, ItemD.av_eq, ItemD.cells, List.length_singleton, repI]
                    rw [List.take_of_length_le (by simp)]
                  | cons y ys =>
                    have hyl : ys.length + 1 + rest.length ≤ n := hq1
                    simp only [go_sem, seval, repI, List.length_map, Int.toNat_natCast]
                    repeat with_reducible refine And.intro (by first | omega | (simp only [List.length_cons, List.length_append, List.length_nil, List.length_map, List.length_take, List.length_drop, List.length_set]; omega)) ?_
                    refine next ((y :: ys) ++ [x], rest.drop k) _ hinv hmu ?_
                    simp only [ASt.keep, consIf, keepL, keepV, AV.isBot, List.contains_cons, List.contains_nil, Nat.reduceBEq, Bool.or_false, Bool.false_or, Bool.or_true, Bool.true_or, beq_self_eq_true, Bool.false_eq_true, ↓reduceIte, if_false, if_true]
                    simp only [List.cons_append, List.map_append, List.map_cons, List.map_nil, ItemD.av_eq, ItemD.cells, List.length_cons, repI]
                    rw [List.take_of_length_le (by simp)]
              · have hnil : rest = [] := by
                  cases rest with
                  | nil => rfl
                  | cons _ _ => simp at hc
                subst hnil
                have hsome : itemsP (d + 1) body = some xs := by rw [hq2, itemsP_nil]; simp
                rw [hsome]
                cases xs with
                | nil =>
                  simp only [go_sem, seval, repI, wfn]
                  refine finTupD (vs' := [.agg [.bool true, .str [], .ext nilP], .int .i64 ((f + n : Nat) : Int), .int .i64 (0 : Int)]) ?_ (fins3 (dull_none _ _) _)
                  show resOf _ _ [.cell 4 77, .tmp 5, .tmp 6] = _
                  simp only [go_sem, seval]
                | cons y ys =>
                  simp only [go_sem, seval, repI, wfn]
                  refine finTupD (vs' := [.agg [.bool true, .str [], .sl true 3 ((y :: ys).map ItemD.av)], .int .i64 ((f + n : Nat) : Int), .int .i64 (0 : Int)]) ?_ (fins3 (dull_item _ _ _ _) _)
                  show resOf _ _ [.cell 4 77, .tmp 5, .tmp 6] = _
                  simp only [go_sem, seval]
end Go.Proofs.Ytfafaiicbhcfdaa.VA
end
section
/- Items out of bytes: the page's answer at the top. -/
namespace Go.Proofs.Ytfafaiicbhcfdaa.VA
set_option maxRecDepth 10000
set_option linter.unusedSimpArgs false
set_option linter.unusedVariables false
set_option maxHeartbeats 4000000

theorem c_ref4_Take (s : List UInt8) (hs : s.length ≤ 16777216) : Contract Try.prog 60 [.str s] (resP (parse 0 s)) := by
  have h := c_take s.length s 0 (Nat.le_refl _) hs (by omega)
  cases hp : parse 0 s with
  | error e =>
    rw [hp] at h
    unfold resP at h
    refine contract_of (C := cf 10 [0, 2, 3, 4] (fun _ => [])) (cf_ok _ _ _) (fn := Try.f60) Try.func60 (by kernel_rfl) rfl (by kernel_rfl) (by simp [cf]) (plain1 (.str _)) (by decide) (cellsOk (by kernel_rfl)) ?_
    simp only [go_sem, ↓reduceIte, Nat.reduceLT, Nat.reduceLeDiff, Nat.reduceAdd, Nat.reduceSub, Nat.reduceMul, Nat.reduceEqDiff, Nat.reduceBEq, Nat.reduceMod, Nat.reduceDiv, Int.reduceToNat, reduceCtorEq, Int.reduceLT, Int.reduceLE, Int.reduceGT, Int.reduceGE, Int.reduceAdd, Int.reduceSub, Int.reduceMul, Int.reduceNeg, Int.reduceEq, Int.reduceNe, Int.reduceBNe, Int.reduceBEq, Int.reduceDiv]
    refine ex_call (by exact h) ?_
    simp only [go_sem, ↓reduceIte, Nat.reduceLT, Nat.reduceLeDiff, Nat.reduceAdd, Nat.reduceSub, Nat.reduceMul, Nat.reduceEqDiff, Nat.reduceBEq, Nat.reduceMod, Nat.reduceDiv, Int.reduceToNat, reduceCtorEq, Int.reduceLT, Int.reduceLE, Int.reduceGT, Int.reduceGE, Int.reduceAdd, Int.reduceSub, Int.reduceMul, Int.reduceNeg, Int.reduceEq, Int.reduceNe, Int.reduceBNe, Int.reduceBEq, Int.reduceDiv]
    refine finTup ?_
    show resOf _ _ [.cell 2 77, .tmp 3, .tmp 4] = _
    simp only [go_sem, ↓reduceIte, Nat.reduceLT, Nat.reduceLeDiff, Nat.reduceAdd, Nat.reduceSub, Nat.reduceMul, Nat.reduceEqDiff, Nat.reduceBEq, Nat.reduceMod, Nat.reduceDiv, Int.reduceToNat, reduceCtorEq, Int.reduceLT, Int.reduceLE, Int.reduceGT, Int.reduceGE, Int.reduceAdd, Int.reduceSub, Int.reduceMul, Int.reduceNeg, Int.reduceEq, Int.reduceNe, Int.reduceBNe, Int.reduceBEq, Int.reduceDiv]
  | ok r =>
    obtain ⟨it, k⟩ := r
    rw [hp] at h
    unfold resP at h
    refine contract_of (C := cf 10 [0, 2, 3, 4] (fun _ => [])) (cf_ok _ _ _) (fn := Try.f60) Try.func60 (by kernel_rfl) rfl (by kernel_rfl) (by simp [cf]) (plain1 (.str _)) (by decide) (cellsOk (by kernel_rfl)) ?_
    simp only [go_sem, ↓reduceIte, Nat.reduceLT, Nat.reduceLeDiff, Nat.reduceAdd, Nat.reduceSub, Nat.reduceMul, Nat.reduceEqDiff, Nat.reduceBEq, Nat.reduceMod, Nat.reduceDiv, Int.reduceToNat, reduceCtorEq, Int.reduceLT, Int.reduceLE, Int.reduceGT, Int.reduceGE, Int.reduceAdd, Int.reduceSub, Int.reduceMul, Int.reduceNeg, Int.reduceEq, Int.reduceNe, Int.reduceBNe, Int.reduceBEq, Int.reduceDiv]
    refine ex_call (by exact h) ?_
    simp only [go_sem, ↓reduceIte, Nat.reduceLT, Nat.reduceLeDiff, Nat.reduceAdd, Nat.reduceSub, Nat.reduceMul, Nat.reduceEqDiff, Nat.reduceBEq, Nat.reduceMod, Nat.reduceDiv, Int.reduceToNat, reduceCtorEq, Int.reduceLT, Int.reduceLE, Int.reduceGT, Int.reduceGE, Int.reduceAdd, Int.reduceSub, Int.reduceMul, Int.reduceNeg, Int.reduceEq, Int.reduceNe, Int.reduceBNe, Int.reduceBEq, Int.reduceDiv]
    refine finTup ?_
    show resOf _ _ [.cell 2 77, .tmp 3, .tmp 4] = _
    simp only [go_sem, ↓reduceIte, Nat.reduceLT, Nat.reduceLeDiff, Nat.reduceAdd, Nat.reduceSub, Nat.reduceMul, Nat.reduceEqDiff, Nat.reduceBEq, Nat.reduceMod, Nat.reduceDiv, Int.reduceToNat, reduceCtorEq, Int.reduceLT, Int.reduceLE, Int.reduceGT, Int.reduceGE, Int.reduceAdd, Int.reduceSub, Int.reduceMul, Int.reduceNeg, Int.reduceEq, Int.reduceNe, Int.reduceBNe, Int.reduceBEq, Int.reduceDiv]
theorem parse_itok {s : List UInt8} {it : ItemD} {k : Nat} (hs : s.length ≤ 4194304) (h : parse 0 s = .ok (it, k)) : it.ok := by
  have := (parse_ok h).wt
  have := (parse_ok h).le
  unfold ItemD.ok; omega
end Go.Proofs.Ytfafaiicbhcfdaa.VA
end
section
/- Products of numbers of 256 bits. -/
namespace Go.Proofs.Ytfafaiicbhcfdaa.VA
set_option maxRecDepth 10000
set_option linter.unusedSimpArgs false
set_option linter.unusedVariables false
set_option maxHeartbeats 4000000

theorem and_mask (x : Nat) (hx : x < 18446744073709551616) : IntKind.u64.wrap ((BitVec.ofInt IntKind.u64.bits (x : Int) &&& BitVec.ofInt IntKind.u64.bits 4294967295).toNat : Int) = ((x % 4294967296 : Nat) : Int) := by
  have e : IntKind.u64.bits = 64 := rfl
  rw [e, show (4294967295 : Int) = ((4294967295 : Nat) : Int) from rfl, ofInt_nat, ofInt_nat, BitVec.toNat_and, BitVec.toNat_ofNat, BitVec.toNat_ofNat, Nat.mod_eq_of_lt (by simpa using hx)]
  have : x &&& 4294967295 % 2 ^ 64 = x % 4294967296 := by
    rw [show (4294967295 % 2 ^ 64 : Nat) = 2 ^ 32 - 1 from rfl, Nat.and_two_pow_sub_one_eq_mod]
  rw [this, wu64 (by omega) (by omega)]
theorem shr32 (x : Nat) : ((x : Int)).fdiv (2 ^ (min 32 IntKind.u64.bits)) = ((x / 4294967296 : Nat) : Int) := by
  rw [show (2 : Int) ^ (min 32 IntKind.u64.bits) = ((4294967296 : Nat) : Int) from by decide, Int.fdiv_eq_ediv_of_nonneg _ (by omega)]
  simp
theorem addw {p q : Nat} (h : p + q < 18446744073709551616) : IntKind.u64.wrap ((p : Int) + q) = ((p + q : Nat) : Int) := by
  rw [IntKind.wrap_u64]; omega
theorem mulw {p q : Nat} (h : p * q < 18446744073709551616) : IntKind.u64.wrap ((p : Int) * q) = ((p * q : Nat) : Int) := by
  rw [IntKind.wrap_u64]; rw [← Int.natCast_mul]; omega
theorem mul64_lo (x y : Nat) : IntKind.u64.wrap ((x : Int) * y) = ((x * y % 18446744073709551616 : Nat) : Int) := by
  rw [IntKind.wrap_u64]; simp
theorem mul_small {x y : Nat} (hx : x < 4294967296) (hy : y < 4294967296) : x * y ≤ 18446744065119617025 := by
  have : x * y ≤ 4294967295 * 4294967295 := Nat.mul_le_mul (by omega) (by omega)
  omega
theorem c_Mul64 (x y : Nat) (hx : x < 18446744073709551616) (hy : y < 18446744073709551616) :
    Contract Try.prog 106 [.int .u64 x, .int .u64 y] (.tup [.int .u64 ((x * y / 18446744073709551616 : Nat) : Int), .int .u64 ((x * y % 18446744073709551616 : Nat) : Int)]) := by
  obtain ⟨a, b, ha, hb, rfl⟩ : ∃ a b, a < 4294967296 ∧ b < 4294967296 ∧ x = a + 4294967296 * b := ⟨x % 4294967296, x / 4294967296, by omega, by omega, by omega⟩
  obtain ⟨c, d, hc, hd, rfl⟩ : ∃ a b, a < 4294967296 ∧ b < 4294967296 ∧ y = a + 4294967296 * b := ⟨y % 4294967296, y / 4294967296, by omega, by omega, by omega⟩
  have e1 := and_mask (a + 4294967296 * b) (by omega)
  have e2 := and_mask (c + 4294967296 * d) (by omega)
  rw [show (a + 4294967296 * b) % 4294967296 = a by omega] at e1
  rw [show (c + 4294967296 * d) % 4294967296 = c by omega] at e2
  have e3 := shr32 (a + 4294967296 * b)
  have e4 := shr32 (c + 4294967296 * d)
  rw [show (a + 4294967296 * b) / 4294967296 = b by omega] at e3
  rw [show (c + 4294967296 * d) / 4294967296 = d by omega] at e4
  have hp : (a + 4294967296 * b) * (c + 4294967296 * d) = a * c + 4294967296 * (b * c) + 4294967296 * (a * d) + 18446744073709551616 * (b * d) := by
    rw [Nat.add_mul, Nat.mul_add, Nat.mul_add, Nat.mul_assoc 4294967296 b c, Nat.mul_left_comm a 4294967296 d, Nat.mul_assoc 4294967296 b, Nat.mul_left_comm b 4294967296 d]
    omega
  have p1 := mul_small ha hc
  have p2 := mul_small hb hc
  have p3 := mul_small ha hd
  have p4 := mul_small hb hd
  refine contract_of (C := cf 51 [0, 1, 4, 5, 6, 7, 8, 9, 10, 11, 12, 13] (fun _ => [])) (cf_ok _ _ _) (fn := Try.f106) Try.func106 (by kernel_rfl) rfl (by kernel_rfl) (by simp [cf]) (plain2 (.int _ _) (.int _ _)) (by decide) (noCell (by kernel_rfl)) ?_
  have m1 := mulw (p := a) (q := c) (by omega)
  have m2 := mulw (p := b) (q := c) (by omega)
  have m3 := mulw (p := a) (q := d) (by omega)
  have m4 := mulw (p := b) (q := d) (by omega)
  have ml := mul64_lo (a + 4294967296 * b) (c + 4294967296 * d)
  have t1 := addw (p := b * c) (q := a * c / 4294967296) (by omega)
  have t2 := and_mask (b * c + a * c / 4294967296) (by omega)
  have t3 := addw (p := (b * c + a * c / 4294967296) % 4294967296) (q := a * d) (by omega)
  have t4 := addw (p := b * d) (q := (b * c + a * c / 4294967296) / 4294967296) (by omega)
  have t5 := addw (p := b * d + (b * c + a * c / 4294967296) / 4294967296) (q := ((b * c + a * c / 4294967296) % 4294967296 + a * d) / 4294967296) (by omega)
  simp only [cf, ex_seq, ex_block, ex_region, ex_ops_nil, ex_ops_cons, ex_ok, ex_need, ex_split_t, ex_split_f, ex_cond, ex_br_t, ex_br_f, ex_skip, ex_label, ex_scope, ex_exit, ex_ret, ex_keep, ex_inBlock_n, ex_inBlock_same, ex_inBlock_e, ex_inBlock_r, ex_code_e, ex_code_r, ex_rounds_e, ex_rounds_r, ex_ord_fin, ex_ord_quiet, ex_ord_one, ex_ord_unlock, ex_ord_lone, ex_ol, ex_oq_t, ex_oq_f, ex_nil, quietOp, loneOp, eltAddr, quietLoad, quietCallee, convQ, u8, moveR, moveTup, AV.isOwn, asU8, stepR, opR, ASt.rd, AV.seen, look, AV.const, AV.constC, AV.constG, AV.constCs, AV.constA, AV.nilOf, ASt.wr, Cfg.may, Cfg.round, roundQ, AV.dropR, AV.dropA, ASt.wrTo, R.chk, ASt.put, ASt.putOwn, ins, strike, consIf, keepL, keepV, AV.isBot, startSt, argsAt, allocR, ASt.newVar, AV.leansVar, AV.leans, AV.leansComp, assignR, ASt.take, ASt.takeO, ASt.at, cellAt, AV.compAt, ASt.drop, ASt.setCell, ASt.setCellO, ASt.dropComp, ASt.turn, binR, ASt.wrO, binInt, binAgg, isBoolK, isIntK, isSliceK, isFuncK, isInts, AV.eqInts, unVal, buildGo, partAt, partIn, placeOf, buildEnd, elemIn, elemsGo, elemsEnd, bsR, argOwnRef, argOwn, argImm, argsGo, callEnd, ASt.wrResTo, ASt.wrRes, pickR, boxR, loadOne, loadVar, wrImm, aggPart, AV.isAggV, loadElem, loadElt, loadR, storeOwn, AV.redir, redir, storeAl, storeRef, storeCells, storeVar, storePart, storeRow, storeElt, storeR, isU8, convBytes, convCont, convR, makeR, optI, cutSl, cutImm, cutStr, delV, ASt.freeVar, mkFnR, capR, capV, cutArr, cutR, addrR, structF, fieldR, idxSl, idxAddrR, idxR, extrOne, extrR, lenCont, lenR, appSrc, appRef, appTo, appR, maxR, fnOf, appKind, callFn, callLen, callApp, callMax, callR, grdO, grdT, TI.zeroVal, TK.isAgg, TK.known, Loc.plain, ASt.keep, ASt.imm, ASt.immRef, AV.isImm, AV.flat, AV.frz, AV.frz0, AV.mark, AV.elemsOf, AV.elemsO, ASt.cont, markFrom, putAt, resOf, resTup, resAll, resCons, resOne, resVar, resCells, resTmp, decide_true, decide_false, Bool.and_true, Bool.true_and, Bool.and_false, Bool.false_and, Bool.and_self, Bool.not_true, Bool.not_false, bq_t, bq_f, Bool.false_eq_true, Bool.true_eq_false, ↓reduceIte, Nat.reduceLT, Nat.reduceLeDiff, Nat.reduceAdd, Nat.reduceSub, Nat.reduceMul, Nat.reduceEqDiff, Nat.reduceBEq, Nat.lt_irrefl, Nat.zero_add, Nat.add_zero, Nat.mul_one, Nat.zero_mul, Nat.mul_zero, Nat.reduceMod, Nat.reduceDiv, Nat.zero_le, Nat.le_refl, Nat.beq, Int.reduceToNat, List.length_cons, List.length_nil, Option.isNone_none, Option.isNone_some, Option.bind_some, Option.bind_none, Option.map_some, Option.map_none, List.getElem?_cons_zero, List.getElem?_cons_succ, List.getElem?_nil, List.take_succ_cons, List.take_zero, List.take_nil, List.drop_succ_cons, List.drop_zero, List.drop_nil, List.map_cons, List.map_nil, List.cons_append, List.nil_append, List.append_nil, List.set_cons_zero, List.set_cons_succ, List.headD_cons, List.headD_nil, List.tail_cons, List.tail_nil, List.contains_cons, List.contains_nil, Bool.or_false, Bool.false_or, Bool.or_true, Bool.true_or, BEq.rfl, beq_self_eq_true, Nat.reduceBEq, List.replicate_zero, List.replicate_succ, List.isEmpty_nil, List.size_toArray, Array.isEmpty, List.reverse_nil, List.all_cons, List.all_nil, eq_self, true_and, and_true, false_and, and_false, and_self, not_true_eq_false, not_false_eq_true, reduceCtorEq, Loc.tmp.injEq, Loc.cell.injEq, Loc.comp.injEq, or_true, true_or, or_false, false_or, exists_const, Int.reduceLT, Int.reduceLE, Int.reduceGT, Int.reduceGE, Option.isSome_some, Option.isSome_none, Int.reduceAdd, Int.reduceSub, Int.reduceMul, Int.reduceNeg, Int.reduceEq, Int.reduceNe, Int.reduceBNe, Int.reduceBEq, ne_eq, Int.toNat_zero, Int.reduceDiv, forall_const, Nat.not_lt_zero, Nat.lt_add_one, ti1, ti2, ti3, ti4, ti5, ti6, ti7, ti8, ti9, ti10, ti11, ti12, ti13, ti14, ti21, ti22, ti23, ti24, ti25, ti26, ti27, ti28, ti29, ti30, ti31, ti32, ti33, ti35, ti36, ti37, ti38, ti40, ti41, ti42, ti43, ti44, ti45, ti46, ti47, ti49, ti51, ti52, ti53, ti55, ti56, ti57, ti58, ti59, ti60, ti61, ti63, ti65, ti67, ti68, ti69, ti70, ti72, ti73, ti74, ti75, ti76, ti77, ti78, ti79, ti81, ti82, ti83, ti84, ti86, ti87, ti89, ti90, ti91, ti92, ti94, ti95, ti96, ti97, ti98, ti99, ti100, ti101, ti102, ti103, ti104, ti105, ti106, ti108, ti109, ti110, ti111, ti112, ti113, ti114, ti115, ti116, ti117, ti118, ti119, ti120, ti121, ti122, ti123, ti124, ti126, ti127, ti128, ti129, ti130, ti131, ti132, ti133, ti134, ti135, ti136, ti138, ti139, ti140, ti141, ti142, ti148, ti149, ti150, ti151, ti152, ti154, ti155, e1, e2, e3, e4, m1, m2, m3, m4, ml, shr32, t1, t2, t3, t4, t5]
  refine finTup ?_
  show resOf _ _ [.tmp 4, .tmp 5] = _
  simp only [cf, ex_seq, ex_block, ex_region, ex_ops_nil, ex_ops_cons, ex_ok, ex_need, ex_split_t, ex_split_f, ex_cond, ex_br_t, ex_br_f, ex_skip, ex_label, ex_scope, ex_exit, ex_ret, ex_keep, ex_inBlock_n, ex_inBlock_same, ex_inBlock_e, ex_inBlock_r, ex_code_e, ex_code_r, ex_rounds_e, ex_rounds_r, ex_ord_fin, ex_ord_quiet, ex_ord_one, ex_ord_unlock, ex_ord_lone, ex_ol, ex_oq_t, ex_oq_f, ex_nil, quietOp, loneOp, eltAddr, quietLoad, quietCallee, convQ, u8, moveR, moveTup, AV.isOwn, asU8, stepR, opR, ASt.rd, AV.seen, look, AV.const, AV.constC, AV.constG, AV.constCs, AV.constA, AV.nilOf, ASt.wr, Cfg.may, Cfg.round, roundQ, AV.dropR, AV.dropA, ASt.wrTo, R.chk, ASt.put, ASt.putOwn, ins, strike, consIf, keepL, keepV, AV.isBot, startSt, argsAt, allocR, ASt.newVar, AV.leansVar, AV.leans, AV.leansComp, assignR, ASt.take, ASt.takeO, ASt.at, cellAt, AV.compAt, ASt.drop, ASt.setCell, ASt.setCellO, ASt.dropComp, ASt.turn, binR, ASt.wrO, binInt, binAgg, isBoolK, isIntK, isSliceK, isFuncK, isInts, AV.eqInts, unVal, buildGo, partAt, partIn, placeOf, buildEnd, elemIn, elemsGo, elemsEnd, bsR, argOwnRef, argOwn, argImm, argsGo, callEnd, ASt.wrResTo, ASt.wrRes, pickR, boxR, loadOne, loadVar, wrImm, aggPart, AV.isAggV, loadElem, loadElt, loadR, storeOwn, AV.redir, redir, storeAl, storeRef, storeCells, storeVar, storePart, storeRow, storeElt, storeR, isU8, convBytes, convCont, convR, makeR, optI, cutSl, cutImm, cutStr, delV, ASt.freeVar, mkFnR, capR, capV, cutArr, cutR, addrR, structF, fieldR, idxSl, idxAddrR, idxR, extrOne, extrR, lenCont, lenR, appSrc, appRef, appTo, appR, maxR, fnOf, appKind, callFn, callLen, callApp, callMax, callR, grdO, grdT, TI.zeroVal, TK.isAgg, TK.known, Loc.plain, ASt.keep, ASt.imm, ASt.immRef, AV.isImm, AV.flat, AV.frz, AV.frz0, AV.mark, AV.elemsOf, AV.elemsO, ASt.cont, markFrom, putAt, resOf, resTup, resAll, resCons, resOne, resVar, resCells, resTmp, decide_true, decide_false, Bool.and_true, Bool.true_and, Bool.and_false, Bool.false_and, Bool.and_self, Bool.not_true, Bool.not_false, bq_t, bq_f, Bool.false_eq_true, Bool.true_eq_false, ↓reduceIte, Nat.reduceLT, Nat.reduceLeDiff, Nat.reduceAdd, Nat.reduceSub, Nat.reduceMul, Nat.reduceEqDiff, Nat.reduceBEq, Nat.lt_irrefl, Nat.zero_add, Nat.add_zero, Nat.mul_one, Nat.zero_mul, Nat.mul_zero, Nat.reduceMod, Nat.reduceDiv, Nat.zero_le, Nat.le_refl, Nat.beq, Int.reduceToNat, List.length_cons, List.length_nil, Option.isNone_none, Option.isNone_some, Option.bind_some, Option.bind_none, Option.map_some, Option.map_none, List.getElem?_cons_zero, List.getElem?_cons_succ, List.getElem?_nil, List.take_succ_cons, List.take_zero, List.take_nil, List.drop_succ_cons, List.drop_zero, List.drop_nil, List.map_cons, List.map_nil, List.cons_append, List.nil_append, List.append_nil, List.set_cons_zero, List.set_cons_succ, List.headD_cons, List.headD_nil, List.tail_cons, List.tail_nil, List.contains_cons, List.contains_nil, Bool.or_false, Bool.false_or, Bool.or_true, Bool.true_or, BEq.rfl, beq_self_eq_true, Nat.reduceBEq, List.replicate_zero, List.replicate_succ, List.isEmpty_nil, List.size_toArray, Array.isEmpty, List.reverse_nil, List.all_cons, List.all_nil, eq_self, true_and, and_true, false_and, and_false, and_self, not_true_eq_false, not_false_eq_true, reduceCtorEq, Loc.tmp.injEq, Loc.cell.injEq, Loc.comp.injEq, or_true, true_or, or_false, false_or, exists_const, Int.reduceLT, Int.reduceLE, Int.reduceGT, Int.reduceGE, Option.isSome_some, Option.isSome_none, Int.reduceAdd, Int.reduceSub, Int.reduceMul, Int.reduceNeg, Int.reduceEq, Int.reduceNe, Int.reduceBNe, Int.reduceBEq, ne_eq, Int.toNat_zero, Int.reduceDiv, forall_const, Nat.not_lt_zero, Nat.lt_add_one, ti1, ti2, ti3, ti4, ti5, ti6, ti7, ti8, ti9, ti10, ti11, ti12, ti13, ti14, ti21, ti22, ti23, ti24, ti25, ti26, ti27, ti28, ti29, ti30, ti31, ti32, ti33, ti35, ti36, ti37, ti38, ti40, ti41, ti42, ti43, ti44, ti45, ti46, ti47, ti49, ti51, ti52, ti53, ti55, ti56, ti57, ti58, ti59, ti60, ti61, ti63, ti65, ti67, ti68, ti69, ti70, ti72, ti73, ti74, ti75, ti76, ti77, ti78, ti79, ti81, ti82, ti83, ti84, ti86, ti87, ti89, ti90, ti91, ti92, ti94, ti95, ti96, ti97, ti98, ti99, ti100, ti101, ti102, ti103, ti104, ti105, ti106, ti108, ti109, ti110, ti111, ti112, ti113, ti114, ti115, ti116, ti117, ti118, ti119, ti120, ti121, ti122, ti123, ti124, ti126, ti127, ti128, ti129, ti130, ti131, ti132, ti133, ti134, ti135, ti136, ti138, ti139, ti140, ti141, ti142, ti148, ti149, ti150, ti151, ti152, ti154, ti155]
  rw [hp, show (a * c + 4294967296 * (b * c) + 4294967296 * (a * d) + 18446744073709551616 * (b * d)) / 18446744073709551616 = b * d + (b * c + a * c / 4294967296) / 4294967296 + ((b * c + a * c / 4294967296) % 4294967296 + a * d) / 4294967296 from by generalize a * c = p at *; generalize b * c = q at *; generalize a * d = r at *; generalize b * d = t at *; omega]

theorem shr0 (x : Nat) : ((x : Int)).fdiv (2 ^ (min 0 IntKind.u64.bits)) = (x : Int) := by
  rw [show (2 : Int) ^ (min 0 IntKind.u64.bits) = 1 from by decide, Int.fdiv_one]
/-- A digit of 32 bits. -/
def dig (n i : Nat) : Nat := n / 2 ^ (32 * i) % 4294967296
theorem c_digit (n i : Nat) (hn : n < U) (hi : i < 8) : Contract Try.prog 96 [u n, .int .i64 i] (.int .u64 (dig n i : Nat)) := by
  obtain ⟨x0, x1, x2, x3, hx0, hx1, hx2, hx3, en⟩ := u_limbs n hn
  have hd : dig n i = (if i / 2 = 0 then x0 else if i / 2 = 1 then x1 else if i / 2 = 2 then x2 else x3) / 2 ^ (32 * (i % 2)) % 4294967296 := by
    unfold dig
    have : i = 0 ∨ i = 1 ∨ i = 2 ∨ i = 3 ∨ i = 4 ∨ i = 5 ∨ i = 6 ∨ i = 7 := by omega
    rcases this with rfl | rfl | rfl | rfl | rfl | rfl | rfl | rfl <;> simp <;> omega
  rw [u_eq hx0 hx1 hx2 hx3 en, hd]
  clear hd en hn
  have : i = 0 ∨ i = 1 ∨ i = 2 ∨ i = 3 ∨ i = 4 ∨ i = 5 ∨ i = 6 ∨ i = 7 := by omega
  refine contract_of (C := cf 14 [1, 2, 4] (fun _ => [])) (cf_ok _ _ _) (fn := Try.f96) Try.func96 (by kernel_rfl) rfl (by kernel_rfl) (by simp [cf]) (plain2 (u4_plain _ _ _ _) (.int _ _)) (by decide) (noCell (by kernel_rfl)) ?_
  rcases this with rfl | rfl | rfl | rfl | rfl | rfl | rfl | rfl
  all_goals simp only [cf, ex_seq, ex_block, ex_region, ex_ops_nil, ex_ops_cons, ex_ok, ex_need, ex_split_t, ex_split_f, ex_cond, ex_br_t, ex_br_f, ex_skip, ex_label, ex_scope, ex_exit, ex_ret, ex_keep, ex_inBlock_n, ex_inBlock_same, ex_inBlock_e, ex_inBlock_r, ex_code_e, ex_code_r, ex_rounds_e, ex_rounds_r, ex_ord_fin, ex_ord_quiet, ex_ord_one, ex_ord_unlock, ex_ord_lone, ex_ol, ex_oq_t, ex_oq_f, ex_nil, quietOp, loneOp, eltAddr, quietLoad, quietCallee, convQ, u8, moveR, moveTup, AV.isOwn, asU8, stepR, opR, ASt.rd, AV.seen, look, AV.const, AV.constC, AV.constG, AV.constCs, AV.constA, AV.nilOf, ASt.wr, Cfg.may, Cfg.round, roundQ, AV.dropR, AV.dropA, ASt.wrTo, R.chk, ASt.put, ASt.putOwn, ins, strike, consIf, keepL, keepV, AV.isBot, startSt, argsAt, allocR, ASt.newVar, AV.leansVar, AV.leans, AV.leansComp, assignR, ASt.take, ASt.takeO, ASt.at, cellAt, AV.compAt, ASt.drop, ASt.setCell, ASt.setCellO, ASt.dropComp, ASt.turn, binR, ASt.wrO, binInt, binAgg, isBoolK, isIntK, isSliceK, isFuncK, isInts, AV.eqInts, unVal, buildGo, partAt, partIn, placeOf, buildEnd, elemIn, elemsGo, elemsEnd, bsR, argOwnRef, argOwn, argImm, argsGo, callEnd, ASt.wrResTo, ASt.wrRes, pickR, boxR, loadOne, loadVar, wrImm, aggPart, AV.isAggV, loadElem, loadElt, loadR, storeOwn, AV.redir, redir, storeAl, storeRef, storeCells, storeVar, storePart, storeRow, storeElt, storeR, isU8, convBytes, convCont, convR, makeR, optI, cutSl, cutImm, cutStr, delV, ASt.freeVar, mkFnR, capR, capV, cutArr, cutR, addrR, structF, fieldR, idxSl, idxAddrR, idxR, extrOne, extrR, lenCont, lenR, appSrc, appRef, appTo, appR, maxR, fnOf, appKind, callFn, callLen, callApp, callMax, callR, grdO, grdT, TI.zeroVal, TK.isAgg, TK.known, Loc.plain, ASt.keep, ASt.imm, ASt.immRef, AV.isImm, AV.flat, AV.frz, AV.frz0, AV.mark, AV.elemsOf, AV.elemsO, ASt.cont, markFrom, putAt, resOf, resTup, resAll, resCons, resOne, resVar, resCells, resTmp, decide_true, decide_false, Bool.and_true, Bool.true_and, Bool.and_false, Bool.false_and, Bool.and_self, Bool.not_true, Bool.not_false, bq_t, bq_f, Bool.false_eq_true, Bool.true_eq_false, ↓reduceIte, Nat.reduceLT, Nat.reduceLeDiff, Nat.reduceAdd, Nat.reduceSub, Nat.reduceMul, Nat.reduceEqDiff, Nat.reduceBEq, Nat.lt_irrefl, Nat.zero_add, Nat.add_zero, Nat.mul_one, Nat.zero_mul, Nat.mul_zero, Nat.reduceMod, Nat.reduceDiv, Nat.zero_le, Nat.le_refl, Nat.beq, Int.reduceToNat, List.length_cons, List.length_nil, Option.isNone_none, Option.isNone_some, Option.bind_some, Option.bind_none, Option.map_some, Option.map_none, List.getElem?_cons_zero, List.getElem?_cons_succ, List.getElem?_nil, List.take_succ_cons, List.take_zero, List.take_nil, List.drop_succ_cons, List.drop_zero, List.drop_nil, List.map_cons, List.map_nil, List.cons_append, List.nil_append, List.append_nil, List.set_cons_zero, List.set_cons_succ, List.headD_cons, List.headD_nil, List.tail_cons, List.tail_nil, List.contains_cons, List.contains_nil, Bool.or_false, Bool.false_or, Bool.or_true, Bool.true_or, BEq.rfl, beq_self_eq_true, Nat.reduceBEq, List.replicate_zero, List.replicate_succ, List.isEmpty_nil, List.size_toArray, Array.isEmpty, List.reverse_nil, List.all_cons, List.all_nil, eq_self, true_and, and_true, false_and, and_false, and_self, not_true_eq_false, not_false_eq_true, reduceCtorEq, Loc.tmp.injEq, Loc.cell.injEq, Loc.comp.injEq, or_true, true_or, or_false, false_or, exists_const, Int.reduceLT, Int.reduceLE, Int.reduceGT, Int.reduceGE, Option.isSome_some, Option.isSome_none, Int.reduceAdd, Int.reduceSub, Int.reduceMul, Int.reduceNeg, Int.reduceEq, Int.reduceNe, Int.reduceBNe, Int.reduceBEq, ne_eq, Int.toNat_zero, Int.reduceDiv, forall_const, Nat.not_lt_zero, Nat.lt_add_one, ti1, ti2, ti3, ti4, ti5, ti6, ti7, ti8, ti9, ti10, ti11, ti12, ti13, ti14, ti21, ti22, ti23, ti24, ti25, ti26, ti27, ti28, ti29, ti30, ti31, ti32, ti33, ti35, ti36, ti37, ti38, ti40, ti41, ti42, ti43, ti44, ti45, ti46, ti47, ti49, ti51, ti52, ti53, ti55, ti56, ti57, ti58, ti59, ti60, ti61, ti63, ti65, ti67, ti68, ti69, ti70, ti72, ti73, ti74, ti75, ti76, ti77, ti78, ti79, ti81, ti82, ti83, ti84, ti86, ti87, ti89, ti90, ti91, ti92, ti94, ti95, ti96, ti97, ti98, ti99, ti100, ti101, ti102, ti103, ti104, ti105, ti106, ti108, ti109, ti110, ti111, ti112, ti113, ti114, ti115, ti116, ti117, ti118, ti119, ti120, ti121, ti122, ti123, ti124, ti126, ti127, ti128, ti129, ti130, ti131, ti132, ti133, ti134, ti135, ti136, ti138, ti139, ti140, ti141, ti142, ti148, ti149, ti150, ti151, ti152, ti154, ti155, Int.cast_ofNat_Int, wi64, Int.reduceTDiv, Int.reduceTMod]
  all_goals refine finOne ?_ (fun _ e => by cases e)
  all_goals show resOf _ _ [.tmp 4] = _
  all_goals simp only [cf, ex_seq, ex_block, ex_region, ex_ops_nil, ex_ops_cons, ex_ok, ex_need, ex_split_t, ex_split_f, ex_cond, ex_br_t, ex_br_f, ex_skip, ex_label, ex_scope, ex_exit, ex_ret, ex_keep, ex_inBlock_n, ex_inBlock_same, ex_inBlock_e, ex_inBlock_r, ex_code_e, ex_code_r, ex_rounds_e, ex_rounds_r, ex_ord_fin, ex_ord_quiet, ex_ord_one, ex_ord_unlock, ex_ord_lone, ex_ol, ex_oq_t, ex_oq_f, ex_nil, quietOp, loneOp, eltAddr, quietLoad, quietCallee, convQ, u8, moveR, moveTup, AV.isOwn, asU8, stepR, opR, ASt.rd, AV.seen, look, AV.const, AV.constC, AV.constG, AV.constCs, AV.constA, AV.nilOf, ASt.wr, Cfg.may, Cfg.round, roundQ, AV.dropR, AV.dropA, ASt.wrTo, R.chk, ASt.put, ASt.putOwn, ins, strike, consIf, keepL, keepV, AV.isBot, startSt, argsAt, allocR, ASt.newVar, AV.leansVar, AV.leans, AV.leansComp, assignR, ASt.take, ASt.takeO, ASt.at, cellAt, AV.compAt, ASt.drop, ASt.setCell, ASt.setCellO, ASt.dropComp, ASt.turn, binR, ASt.wrO, binInt, binAgg, isBoolK, isIntK, isSliceK, isFuncK, isInts, AV.eqInts, unVal, buildGo, partAt, partIn, placeOf, buildEnd, elemIn, elemsGo, elemsEnd, bsR, argOwnRef, argOwn, argImm, argsGo, callEnd, ASt.wrResTo, ASt.wrRes, pickR, boxR, loadOne, loadVar, wrImm, aggPart, AV.isAggV, loadElem, loadElt, loadR, storeOwn, AV.redir, redir, storeAl, storeRef, storeCells, storeVar, storePart, storeRow, storeElt, storeR, isU8, convBytes, convCont, convR, makeR, optI, cutSl, cutImm, cutStr, delV, ASt.freeVar, mkFnR, capR, capV, cutArr, cutR, addrR, structF, fieldR, idxSl, idxAddrR, idxR, extrOne, extrR, lenCont, lenR, appSrc, appRef, appTo, appR, maxR, fnOf, appKind, callFn, callLen, callApp, callMax, callR, grdO, grdT, TI.zeroVal, TK.isAgg, TK.known, Loc.plain, ASt.keep, ASt.imm, ASt.immRef, AV.isImm, AV.flat, AV.frz, AV.frz0, AV.mark, AV.elemsOf, AV.elemsO, ASt.cont, markFrom, putAt, resOf, resTup, resAll, resCons, resOne, resVar, resCells, resTmp, decide_true, decide_false, Bool.and_true, Bool.true_and, Bool.and_false, Bool.false_and, Bool.and_self, Bool.not_true, Bool.not_false, bq_t, bq_f, Bool.false_eq_true, Bool.true_eq_false, ↓reduceIte, Nat.reduceLT, Nat.reduceLeDiff, Nat.reduceAdd, Nat.reduceSub, Nat.reduceMul, Nat.reduceEqDiff, Nat.reduceBEq, Nat.lt_irrefl, Nat.zero_add, Nat.add_zero, Nat.mul_one, Nat.zero_mul, Nat.mul_zero, Nat.reduceMod, Nat.reduceDiv, Nat.zero_le, Nat.le_refl, Nat.beq, Int.reduceToNat, List.length_cons, List.length_nil, Option.isNone_none, Option.isNone_some, Option.bind_some, Option.bind_none, Option.map_some, Option.map_none, List.getElem?_cons_zero, List.getElem?_cons_succ, List.getElem?_nil, List.take_succ_cons, List.take_zero, List.take_nil, List.drop_succ_cons, List.drop_zero, List.drop_nil, List.map_cons, List.map_nil, List.cons_append, List.nil_append, List.append_nil, List.set_cons_zero, List.set_cons_succ, List.headD_cons, List.headD_nil, List.tail_cons, List.tail_nil, List.contains_cons, List.contains_nil, Bool.or_false, Bool.false_or, Bool.or_true, Bool.true_or, BEq.rfl, beq_self_eq_true, Nat.reduceBEq, List.replicate_zero, List.replicate_succ, List.isEmpty_nil, List.size_toArray, Array.isEmpty, List.reverse_nil, List.all_cons, List.all_nil, eq_self, true_and, and_true, false_and, and_false, and_self, not_true_eq_false, not_false_eq_true, reduceCtorEq, Loc.tmp.injEq, Loc.cell.injEq, Loc.comp.injEq, or_true, true_or, or_false, false_or, exists_const, Int.reduceLT, Int.reduceLE, Int.reduceGT, Int.reduceGE, Option.isSome_some, Option.isSome_none, Int.reduceAdd, Int.reduceSub, Int.reduceMul, Int.reduceNeg, Int.reduceEq, Int.reduceNe, Int.reduceBNe, Int.reduceBEq, ne_eq, Int.toNat_zero, Int.reduceDiv, forall_const, Nat.not_lt_zero, Nat.lt_add_one, ti1, ti2, ti3, ti4, ti5, ti6, ti7, ti8, ti9, ti10, ti11, ti12, ti13, ti14, ti21, ti22, ti23, ti24, ti25, ti26, ti27, ti28, ti29, ti30, ti31, ti32, ti33, ti35, ti36, ti37, ti38, ti40, ti41, ti42, ti43, ti44, ti45, ti46, ti47, ti49, ti51, ti52, ti53, ti55, ti56, ti57, ti58, ti59, ti60, ti61, ti63, ti65, ti67, ti68, ti69, ti70, ti72, ti73, ti74, ti75, ti76, ti77, ti78, ti79, ti81, ti82, ti83, ti84, ti86, ti87, ti89, ti90, ti91, ti92, ti94, ti95, ti96, ti97, ti98, ti99, ti100, ti101, ti102, ti103, ti104, ti105, ti106, ti108, ti109, ti110, ti111, ti112, ti113, ti114, ti115, ti116, ti117, ti118, ti119, ti120, ti121, ti122, ti123, ti124, ti126, ti127, ti128, ti129, ti130, ti131, ti132, ti133, ti134, ti135, ti136, ti138, ti139, ti140, ti141, ti142, ti148, ti149, ti150, ti151, ti152, ti154, ti155, shr0, shr32]
  all_goals rw [and_mask _ (by omega)]
  all_goals simp only [Nat.pow_zero, Nat.div_one, Nat.reducePow]

/-! Numbers by their digits. -/
def val (B : Nat) : List Nat → Nat
  | [] => 0
  | a :: l => a + B * val B l
theorem val_set (B : Nat) : ∀ (l : List Nat) (j a v : Nat), l[j]? = some a → val B (l.set j v) + a * B ^ j = val B l + v * B ^ j
  | [], j, a, v, h => by cases h
  | x :: l, 0, a, v, h => by
    simp only [List.getElem?_cons_zero, Option.some.injEq] at h
    subst h
    simp [val]; omega
  | x :: l, j + 1, a, v, h => by
    simp only [List.getElem?_cons_succ] at h
    have ih := val_set B l j a v h
    simp only [List.set_cons_succ, val, Nat.pow_succ]
    have := congrArg (B * ·) ih
    simp only [Nat.mul_add] at this
    have e1 : a * (B ^ j * B) = B * (a * B ^ j) := by rw [← Nat.mul_assoc, Nat.mul_comm]
    have e2 : v * (B ^ j * B) = B * (v * B ^ j) := by rw [← Nat.mul_assoc, Nat.mul_comm]
    omega
theorem val_zero (B n : Nat) : val B (List.replicate n 0) = 0 := by
  induction n with
  | zero => rfl
  | succ n ih => simp [List.replicate_succ, val, ih]
theorem putAt_set {α : Type} (f : α → AV) (l : List α) (j : Nat) (v : α) (h : j < l.length) : putAt (l.map f) j [f v] = (l.set j v).map f := by
  unfold putAt
  rw [List.map_set, List.set_eq_take_append_cons_drop, if_pos (by simpa using h)]
  simp
/-- A digit of a number. -/
def dg (B n i : Nat) : Nat := n / B ^ i % B
theorem dg_step (B n k : Nat) : n % B ^ (k + 1) = n % B ^ k + dg B n k * B ^ k := by
  unfold dg
  rw [Nat.pow_succ, Nat.mod_mul, Nat.mul_comm]
/-- One step of a product, by digits. -/
theorem mac {B V V' P out s c c' x y : Nat} (hs : s + B * c' = out + x * y + c) (hV : V' + out * P = V + s * P) : V' + c' * (P * B) = V + c * P + x * y * P := by
  have := congrArg (· * P) hs
  simp only [Nat.add_mul] at this
  have e : B * c' * P = c' * (P * B) := by rw [Nat.mul_comm B c', Nat.mul_assoc, Nat.mul_comm B P]
  omega
end Go.Proofs.Ytfafaiicbhcfdaa.VA
end
