/- The page's difference. -/
import Derived.Test.YtfdophapfbllcaaCBump2
namespace Go.Proofs.Ytfdophapfbllcaa.VA
set_option maxRecDepth 10000
set_option linter.unusedSimpArgs false
set_option linter.unusedVariables false
set_option maxHeartbeats 8000000

/-- One step of a difference: what is left, what is owed. -/
theorem sb_step (x y c : Nat) (hx : x < 18446744073709551616) (hy : y < 18446744073709551616) (hc : c ≤ 1) : ∃ s k : Nat, s < 18446744073709551616 ∧ k ≤ 1 ∧ s + y + c = x + 18446744073709551616 * k := by
  by_cases h : y + c ≤ x
  · exact ⟨x - y - c, 0, by omega, by omega, by omega⟩
  · exact ⟨x + 18446744073709551616 - y - c, 1, by omega, by omega, by omega⟩
theorem ref_sub {x y c s k : Nat} (hx : x < 18446744073709551616) (hy : y < 18446744073709551616) (hc : c ≤ 1) (hs : s < 18446744073709551616) (hk : k ≤ 1) (h : s + y + c = x + 18446744073709551616 * k) :
    IntKind.u64.wrap (IntKind.u64.wrap ((x : Int) - y) - c) = s ∧
    (bif decide (IntKind.u64.wrap ((x : Int) - y) < (c : Int)) then 1 else bif decide ((x : Int) < y) then (1 : Int) else 0) = k := by
  simp only [IntKind.wrap_u64]
  refine ⟨by omega, ?_⟩
  cases h1 : decide ((((x : Int) - y) % 18446744073709551616) < (c : Int)) <;> cases h2 : decide ((x : Int) < y) <;> simp only [cond_true, cond_false] <;> simp only [decide_eq_true_eq, decide_eq_false_iff_not] at h1 h2 <;> omega
theorem c_ref1_Sub (n m : Nat) (hn : n < U) (hm : m < U) : Contract Try.prog 32 [u n, u m] (.tup [u (if m ≤ n then n - m else 0), .bool (decide (m ≤ n))]) := by
  have hcm := c_ref1_Cmp n m hn hm
  obtain ⟨x0, x1, x2, x3, hx0, hx1, hx2, hx3, en⟩ := u_limbs n hn
  obtain ⟨y0, y1, y2, y3, hy0, hy1, hy2, hy3, em⟩ := u_limbs m hm
  obtain ⟨s0, k0, hs0, hk0, e0⟩ := sb_step x0 y0 0 hx0 hy0 (by omega)
  obtain ⟨s1, k1, hs1, hk1, e1⟩ := sb_step x1 y1 k0 hx1 hy1 hk0
  obtain ⟨s2, k2, hs2, hk2, e2⟩ := sb_step x2 y2 k1 hx2 hy2 hk1
  obtain ⟨s3, k3, hs3, hk3, e3⟩ := sb_step x3 y3 k2 hx3 hy3 hk2
  obtain ⟨r0, q0⟩ := ref_sub hx0 hy0 (by omega) hs0 hk0 e0
  obtain ⟨r1, q1⟩ := ref_sub hx1 hy1 hk0 hs1 hk1 e1
  obtain ⟨r2, q2⟩ := ref_sub hx2 hy2 hk1 hs2 hk2 e2
  obtain ⟨r3, q3⟩ := ref_sub hx3 hy3 hk2 hs3 hk3 e3
  rw [Int.cast_ofNat_Int] at r0 q0
  have hz4 : u 0 = _ := u_small 0 (by decide)
  have un1 := u_eq hx0 hx1 hx2 hx3 en
  have un2 := u_eq hy0 hy1 hy2 hy3 em
  rw [un1, un2] at hcm
  rw [un1, un2]
  refine contract_of (C := cf 46 [2, 3, 4, 5, 6, 7, 8, 9, 10, 11, 15, 18, 34, 40] (fun _ => [])) (cf_ok _ _ _) (fn := Try.f32) Try.func32 (by kernel_rfl) rfl (by kernel_rfl) (by simp [cf]) (plain2 (u4_plain _ _ _ _) (u4_plain _ _ _ _)) (by decide) (cellsOk (by kernel_rfl)) ?_
  simp only [go_sem, ↓reduceIte, Nat.reduceLT, Nat.reduceLeDiff, Nat.reduceAdd, Nat.reduceSub, Nat.reduceMul, Nat.reduceEqDiff, Nat.reduceBEq, Nat.reduceMod, Nat.reduceDiv, Int.reduceToNat, reduceCtorEq, Int.reduceLT, Int.reduceLE, Int.reduceGT, Int.reduceGE, Int.reduceAdd, Int.reduceSub, Int.reduceMul, Int.reduceNeg, Int.reduceEq, Int.reduceNe, Int.reduceBNe, Int.reduceBEq, Int.reduceDiv]
  refine ex_call hcm ?_
  simp only [go_sem, ↓reduceIte, Nat.reduceLT, Nat.reduceLeDiff, Nat.reduceAdd, Nat.reduceSub, Nat.reduceMul, Nat.reduceEqDiff, Nat.reduceBEq, Nat.reduceMod, Nat.reduceDiv, Int.reduceToNat, reduceCtorEq, Int.reduceLT, Int.reduceLE, Int.reduceGT, Int.reduceGE, Int.reduceAdd, Int.reduceSub, Int.reduceMul, Int.reduceNeg, Int.reduceEq, Int.reduceNe, Int.reduceBNe, Int.reduceBEq, Int.reduceDiv, cmp_lt]
  refine ex_br (fun h => ?_) (fun h => ?_)
  · have h := of_decide_eq_true h
    rw [if_neg (by omega), decide_eq_false (by omega), hz4]
    simp only [go_sem, ↓reduceIte, Nat.reduceLT, Nat.reduceLeDiff, Nat.reduceAdd, Nat.reduceSub, Nat.reduceMul, Nat.reduceEqDiff, Nat.reduceBEq, Nat.reduceMod, Nat.reduceDiv, Int.reduceToNat, reduceCtorEq, Int.reduceLT, Int.reduceLE, Int.reduceGT, Int.reduceGE, Int.reduceAdd, Int.reduceSub, Int.reduceMul, Int.reduceNeg, Int.reduceEq, Int.reduceNe, Int.reduceBNe, Int.reduceBEq, Int.reduceDiv]
    refine finTup ?_
    show resOf _ _ [.cell 4 26, .tmp 5] = _
    simp only [go_sem, ↓reduceIte, Nat.reduceLT, Nat.reduceLeDiff, Nat.reduceAdd, Nat.reduceSub, Nat.reduceMul, Nat.reduceEqDiff, Nat.reduceBEq, Nat.reduceMod, Nat.reduceDiv, Int.reduceToNat, reduceCtorEq, Int.reduceLT, Int.reduceLE, Int.reduceGT, Int.reduceGE, Int.reduceAdd, Int.reduceSub, Int.reduceMul, Int.reduceNeg, Int.reduceEq, Int.reduceNe, Int.reduceBNe, Int.reduceBEq, Int.reduceDiv]
    rfl
  have h := of_decide_eq_false h
  simp only [go_sem, ↓reduceIte, Nat.reduceLT, Nat.reduceLeDiff, Nat.reduceAdd, Nat.reduceSub, Nat.reduceMul, Nat.reduceEqDiff, Nat.reduceBEq, Nat.reduceMod, Nat.reduceDiv, Int.reduceToNat, reduceCtorEq, Int.reduceLT, Int.reduceLE, Int.reduceGT, Int.reduceGE, Int.reduceAdd, Int.reduceSub, Int.reduceMul, Int.reduceNeg, Int.reduceEq, Int.reduceNe, Int.reduceBNe, Int.reduceBEq, Int.reduceDiv]
  refine ex_loop [2, 3, 4, 6, 7, 8] 5 ?_
  iterate 4
    simp only [go_sem, ↓reduceIte, Nat.reduceLT, Nat.reduceLeDiff, Nat.reduceAdd, Nat.reduceSub, Nat.reduceMul, Nat.reduceEqDiff, Nat.reduceBEq, Nat.reduceMod, Nat.reduceDiv, Int.reduceToNat, reduceCtorEq, Int.reduceLT, Int.reduceLE, Int.reduceGT, Int.reduceGE, Int.reduceAdd, Int.reduceSub, Int.reduceMul, Int.reduceNeg, Int.reduceEq, Int.reduceNe, Int.reduceBNe, Int.reduceBEq, Int.reduceDiv, ex_round]
    refine ex_draw [] [] (.quiet 0 (.quiet 1 (.quiet 2 (.quiet 3 (.quiet 4 (.quiet 5 (.quiet 6 (.quiet 7 (.fin))))))))) (by kernel_rfl) ?_
    simp only [go_sem, ↓reduceIte, Nat.reduceLT, Nat.reduceLeDiff, Nat.reduceAdd, Nat.reduceSub, Nat.reduceMul, Nat.reduceEqDiff, Nat.reduceBEq, Nat.reduceMod, Nat.reduceDiv, Int.reduceToNat, reduceCtorEq, Int.reduceLT, Int.reduceLE, Int.reduceGT, Int.reduceGE, Int.reduceAdd, Int.reduceSub, Int.reduceMul, Int.reduceNeg, Int.reduceEq, Int.reduceNe, Int.reduceBNe, Int.reduceBEq, Int.reduceDiv, Int.cast_ofNat_Int, wi64]
    refine ex_draw [] [] (.quiet 0 (.quiet 1 (.quiet 2 (.quiet 3 (.quiet 4 (.quiet 5 (.quiet 6 (.fin)))))))) (by kernel_rfl) ?_
    simp only [go_sem, ↓reduceIte, Nat.reduceLT, Nat.reduceLeDiff, Nat.reduceAdd, Nat.reduceSub, Nat.reduceMul, Nat.reduceEqDiff, Nat.reduceBEq, Nat.reduceMod, Nat.reduceDiv, Int.reduceToNat, reduceCtorEq, Int.reduceLT, Int.reduceLE, Int.reduceGT, Int.reduceGE, Int.reduceAdd, Int.reduceSub, Int.reduceMul, Int.reduceNeg, Int.reduceEq, Int.reduceNe, Int.reduceBNe, Int.reduceBEq, Int.reduceDiv, Int.cast_ofNat_Int, wi64]
    refine ex_ifI 10 .u64 1 rfl ?_ ?_ ?_
    iterate 2
      (simp only [go_sem, ↓reduceIte, Nat.reduceLT, Nat.reduceLeDiff, Nat.reduceAdd, Nat.reduceSub, Nat.reduceMul, Nat.reduceEqDiff, Nat.reduceBEq, Nat.reduceMod, Nat.reduceDiv, Int.reduceToNat, reduceCtorEq, Int.reduceLT, Int.reduceLE, Int.reduceGT, Int.reduceGE, Int.reduceAdd, Int.reduceSub, Int.reduceMul, Int.reduceNeg, Int.reduceEq, Int.reduceNe, Int.reduceBNe, Int.reduceBEq, Int.reduceDiv])
    simp only [go_sem, ↓reduceIte, Nat.reduceLT, Nat.reduceLeDiff, Nat.reduceAdd, Nat.reduceSub, Nat.reduceMul, Nat.reduceEqDiff, Nat.reduceBEq, Nat.reduceMod, Nat.reduceDiv, Int.reduceToNat, reduceCtorEq, Int.reduceLT, Int.reduceLE, Int.reduceGT, Int.reduceGE, Int.reduceAdd, Int.reduceSub, Int.reduceMul, Int.reduceNeg, Int.reduceEq, Int.reduceNe, Int.reduceBNe, Int.reduceBEq, Int.reduceDiv, Int.cast_ofNat_Int, wi64]
    refine ex_ifI 10 .u64 1 rfl ?_ ?_ ?_
    iterate 2
      (simp only [go_sem, ↓reduceIte, Nat.reduceLT, Nat.reduceLeDiff, Nat.reduceAdd, Nat.reduceSub, Nat.reduceMul, Nat.reduceEqDiff, Nat.reduceBEq, Nat.reduceMod, Nat.reduceDiv, Int.reduceToNat, reduceCtorEq, Int.reduceLT, Int.reduceLE, Int.reduceGT, Int.reduceGE, Int.reduceAdd, Int.reduceSub, Int.reduceMul, Int.reduceNeg, Int.reduceEq, Int.reduceNe, Int.reduceBNe, Int.reduceBEq, Int.reduceDiv])
    simp only [go_sem, ↓reduceIte, Nat.reduceLT, Nat.reduceLeDiff, Nat.reduceAdd, Nat.reduceSub, Nat.reduceMul, Nat.reduceEqDiff, Nat.reduceBEq, Nat.reduceMod, Nat.reduceDiv, Int.reduceToNat, reduceCtorEq, Int.reduceLT, Int.reduceLE, Int.reduceGT, Int.reduceGE, Int.reduceAdd, Int.reduceSub, Int.reduceMul, Int.reduceNeg, Int.reduceEq, Int.reduceNe, Int.reduceBNe, Int.reduceBEq, Int.reduceDiv, r0, r1, r2, r3, q0, q1, q2, q3, Int.cast_ofNat_Int, wi64]
  have hk : k3 = 0 := by omega
  have hsum : n - m = s0 + 18446744073709551616 * s1 + 340282366920938463463374607431768211456 * s2 + 6277101735386680763835789423207666416102355444464034512896 * s3 := by omega
  rw [if_pos (by omega), decide_eq_true (by omega), u_eq hs0 hs1 hs2 hs3 hsum]
  simp only [go_sem, ↓reduceIte, Nat.reduceLT, Nat.reduceLeDiff, Nat.reduceAdd, Nat.reduceSub, Nat.reduceMul, Nat.reduceEqDiff, Nat.reduceBEq, Nat.reduceMod, Nat.reduceDiv, Int.reduceToNat, reduceCtorEq, Int.reduceLT, Int.reduceLE, Int.reduceGT, Int.reduceGE, Int.reduceAdd, Int.reduceSub, Int.reduceMul, Int.reduceNeg, Int.reduceEq, Int.reduceNe, Int.reduceBNe, Int.reduceBEq, Int.reduceDiv, ex_round]
  refine finTup ?_
  show resOf _ _ [.cell 4 26, .tmp 5] = _
  simp only [go_sem, ↓reduceIte, Nat.reduceLT, Nat.reduceLeDiff, Nat.reduceAdd, Nat.reduceSub, Nat.reduceMul, Nat.reduceEqDiff, Nat.reduceBEq, Nat.reduceMod, Nat.reduceDiv, Int.reduceToNat, reduceCtorEq, Int.reduceLT, Int.reduceLE, Int.reduceGT, Int.reduceGE, Int.reduceAdd, Int.reduceSub, Int.reduceMul, Int.reduceNeg, Int.reduceEq, Int.reduceNe, Int.reduceBNe, Int.reduceBEq, Int.reduceDiv]
  try rfl
end Go.Proofs.Ytfdophapfbllcaa.VA
