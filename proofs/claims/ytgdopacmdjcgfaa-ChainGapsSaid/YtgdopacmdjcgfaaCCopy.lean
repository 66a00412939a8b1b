/- Copies of rows of marks and of texts. -/
import Derived.Test.YtgdopacmdjcgfaaCBytes
namespace Go.Proofs.Ytgdopacmdjcgfaa.VA
set_option maxRecDepth 10000
set_option linter.unusedSimpArgs false
set_option linter.unusedVariables false
set_option maxHeartbeats 4000000

theorem c_CopyMarks (l : List Int) (hl : l.length * 8 ≤ reachBytes) : Contract Try.prog 57 [ints .u64 l] (.own false 1 (l.map (AV.int .u64))) := by
  unfold reachBytes at hl
  refine contract_of (C := cf 19 [0, 2, 3, 4, 8] (fun _ => [])) (cf_ok _ _ _) (fn := Try.f57) Try.func57 (by kernel_rfl) rfl (by kernel_rfl) (by simp [cf]) (plain1 (ints_plain _ l)) (by decide) (noCell (by kernel_rfl)) ?_
  simp only [go_sem, ↓reduceIte, Nat.reduceLT, Nat.reduceLeDiff, Nat.reduceAdd, Nat.reduceSub, Nat.reduceMul, Nat.reduceEqDiff, Nat.reduceBEq, Nat.reduceMod, Nat.reduceDiv, Int.reduceToNat, reduceCtorEq, Int.reduceLT, Int.reduceLE, Int.reduceGT, Int.reduceGE, Int.reduceAdd, Int.reduceSub, Int.reduceMul, Int.reduceNeg, Int.reduceEq, Int.reduceNe, Int.reduceBNe, Int.reduceBEq, Int.reduceDiv, ints, strs]
  refine ex_iter [0, 3, 4] (fun i : Nat => ⟨[(0, .sl false 1 (l.map (AV.int .u64))), (3, .own false 1 ((l.take i).map (AV.int .u64))), (4, .int .i64 i)], []⟩) (fun i => i ≤ l.length) (fun i => l.length - i) 0 ?_ ?_ ?_
  · simp only [ASt.keep, consIf, keepL, keepV, AV.isBot, List.contains_cons, List.contains_nil, Nat.reduceBEq, Bool.or_false, Bool.false_or, Bool.or_true, Bool.true_or, beq_self_eq_true, Bool.false_eq_true, ↓reduceIte, if_false, if_true]
    rfl
  · exact Nat.zero_le _
  · intro n i hi next
    simp only [go_sem, ↓reduceIte, Nat.reduceLT, Nat.reduceLeDiff, Nat.reduceAdd, Nat.reduceSub, Nat.reduceMul, Nat.reduceEqDiff, Nat.reduceBEq, Nat.reduceMod, Nat.reduceDiv, Int.reduceToNat, reduceCtorEq, Int.reduceLT, Int.reduceLE, Int.reduceGT, Int.reduceGE, Int.reduceAdd, Int.reduceSub, Int.reduceMul, Int.reduceNeg, Int.reduceEq, Int.reduceNe, Int.reduceBNe, Int.reduceBEq, Int.reduceDiv, List.length_map]
    refine ex_br (fun h => ?_) (fun h => ?_)
    · have hlt : i < l.length := by simpa using h
      obtain ⟨x, ex⟩ : ∃ x, l[i]? = some x := ⟨_, List.getElem?_eq_getElem hlt⟩
      simp only [go_sem, ↓reduceIte, Nat.reduceLT, Nat.reduceLeDiff, Nat.reduceAdd, Nat.reduceSub, Nat.reduceMul, Nat.reduceEqDiff, Nat.reduceBEq, Nat.reduceMod, Nat.reduceDiv, Int.reduceToNat, reduceCtorEq, Int.reduceLT, Int.reduceLE, Int.reduceGT, Int.reduceGE, Int.reduceAdd, Int.reduceSub, Int.reduceMul, Int.reduceNeg, Int.reduceEq, Int.reduceNe, Int.reduceBNe, Int.reduceBEq, Int.reduceDiv, List.length_map, List.getElem?_map, ex, Int.toNat_natCast]
      repeat with_reducible refine And.intro (by first | omega | (simp only [List.length_cons, List.length_append, List.length_nil, List.length_map, List.length_take, List.length_drop, List.length_set]; omega)) ?_
      refine next (i + 1) _ (by omega) (by omega) ?_
      rw [← wi64_nat i (by omega), ← take_snoc _ ex]
      simp only [ASt.keep, consIf, keepL, keepV, AV.isBot, List.contains_cons, List.contains_nil, Nat.reduceBEq, Bool.or_false, Bool.false_or, Bool.or_true, Bool.true_or, beq_self_eq_true, Bool.false_eq_true, ↓reduceIte, if_false, if_true]
    · have hge : i = l.length := by simp at h; omega
      subst hge
      simp only [go_sem, ↓reduceIte, Nat.reduceLT, Nat.reduceLeDiff, Nat.reduceAdd, Nat.reduceSub, Nat.reduceMul, Nat.reduceEqDiff, Nat.reduceBEq, Nat.reduceMod, Nat.reduceDiv, Int.reduceToNat, reduceCtorEq, Int.reduceLT, Int.reduceLE, Int.reduceGT, Int.reduceGE, Int.reduceAdd, Int.reduceSub, Int.reduceMul, Int.reduceNeg, Int.reduceEq, Int.reduceNe, Int.reduceBNe, Int.reduceBEq, Int.reduceDiv, List.take_length]
      refine finOne ?_ (fun _ e => by cases e)
      show resOf _ _ [.tmp 2] = _
      simp only [go_sem, ↓reduceIte, Nat.reduceLT, Nat.reduceLeDiff, Nat.reduceAdd, Nat.reduceSub, Nat.reduceMul, Nat.reduceEqDiff, Nat.reduceBEq, Nat.reduceMod, Nat.reduceDiv, Int.reduceToNat, reduceCtorEq, Int.reduceLT, Int.reduceLE, Int.reduceGT, Int.reduceGE, Int.reduceAdd, Int.reduceSub, Int.reduceMul, Int.reduceNeg, Int.reduceEq, Int.reduceNe, Int.reduceBNe, Int.reduceBEq, Int.reduceDiv]

theorem c_CopyStrings (l : List (List UInt8)) (hl : l.length * 16 ≤ reachBytes) : Contract Try.prog 58 [strs l] (.own false 1 (l.map AV.str)) := by
  unfold reachBytes at hl
  refine contract_of (C := cf 19 [0, 2, 3, 4, 8] (fun _ => [])) (cf_ok _ _ _) (fn := Try.f58) Try.func58 (by kernel_rfl) rfl (by kernel_rfl) (by simp [cf]) (plain1 (strs_plain l)) (by decide) (noCell (by kernel_rfl)) ?_
  simp only [go_sem, ↓reduceIte, Nat.reduceLT, Nat.reduceLeDiff, Nat.reduceAdd, Nat.reduceSub, Nat.reduceMul, Nat.reduceEqDiff, Nat.reduceBEq, Nat.reduceMod, Nat.reduceDiv, Int.reduceToNat, reduceCtorEq, Int.reduceLT, Int.reduceLE, Int.reduceGT, Int.reduceGE, Int.reduceAdd, Int.reduceSub, Int.reduceMul, Int.reduceNeg, Int.reduceEq, Int.reduceNe, Int.reduceBNe, Int.reduceBEq, Int.reduceDiv, ints, strs]
  refine ex_iter [0, 3, 4] (fun i : Nat => ⟨[(0, .sl false 1 (l.map AV.str)), (3, .own false 1 ((l.take i).map AV.str)), (4, .int .i64 i)], []⟩) (fun i => i ≤ l.length) (fun i => l.length - i) 0 ?_ ?_ ?_
  · simp only [ASt.keep, consIf, keepL, keepV, AV.isBot, List.contains_cons, List.contains_nil, Nat.reduceBEq, Bool.or_false, Bool.false_or, Bool.or_true, Bool.true_or, beq_self_eq_true, Bool.false_eq_true, ↓reduceIte, if_false, if_true]
    rfl
  · exact Nat.zero_le _
  · intro n i hi next
    simp only [go_sem, ↓reduceIte, Nat.reduceLT, Nat.reduceLeDiff, Nat.reduceAdd, Nat.reduceSub, Nat.reduceMul, Nat.reduceEqDiff, Nat.reduceBEq, Nat.reduceMod, Nat.reduceDiv, Int.reduceToNat, reduceCtorEq, Int.reduceLT, Int.reduceLE, Int.reduceGT, Int.reduceGE, Int.reduceAdd, Int.reduceSub, Int.reduceMul, Int.reduceNeg, Int.reduceEq, Int.reduceNe, Int.reduceBNe, Int.reduceBEq, Int.reduceDiv, List.length_map]
    refine ex_br (fun h => ?_) (fun h => ?_)
    · have hlt : i < l.length := by simpa using h
      obtain ⟨x, ex⟩ : ∃ x, l[i]? = some x := ⟨_, List.getElem?_eq_getElem hlt⟩
      simp only [go_sem, ↓reduceIte, Nat.reduceLT, Nat.reduceLeDiff, Nat.reduceAdd, Nat.reduceSub, Nat.reduceMul, Nat.reduceEqDiff, Nat.reduceBEq, Nat.reduceMod, Nat.reduceDiv, Int.reduceToNat, reduceCtorEq, Int.reduceLT, Int.reduceLE, Int.reduceGT, Int.reduceGE, Int.reduceAdd, Int.reduceSub, Int.reduceMul, Int.reduceNeg, Int.reduceEq, Int.reduceNe, Int.reduceBNe, Int.reduceBEq, Int.reduceDiv, List.length_map, List.getElem?_map, ex, Int.toNat_natCast]
      repeat with_reducible refine And.intro (by first | omega | (simp only [List.length_cons, List.length_append, List.length_nil, List.length_map, List.length_take, List.length_drop, List.length_set]; omega)) ?_
      refine next (i + 1) _ (by omega) (by omega) ?_
      rw [← wi64_nat i (by omega), ← take_snoc _ ex]
      simp only [ASt.keep, consIf, keepL, keepV, AV.isBot, List.contains_cons, List.contains_nil, Nat.reduceBEq, Bool.or_false, Bool.false_or, Bool.or_true, Bool.true_or, beq_self_eq_true, Bool.false_eq_true, ↓reduceIte, if_false, if_true]
    · have hge : i = l.length := by simp at h; omega
      subst hge
      simp only [go_sem, ↓reduceIte, Nat.reduceLT, Nat.reduceLeDiff, Nat.reduceAdd, Nat.reduceSub, Nat.reduceMul, Nat.reduceEqDiff, Nat.reduceBEq, Nat.reduceMod, Nat.reduceDiv, Int.reduceToNat, reduceCtorEq, Int.reduceLT, Int.reduceLE, Int.reduceGT, Int.reduceGE, Int.reduceAdd, Int.reduceSub, Int.reduceMul, Int.reduceNeg, Int.reduceEq, Int.reduceNe, Int.reduceBNe, Int.reduceBEq, Int.reduceDiv, List.take_length]
      refine finOne ?_ (fun _ e => by cases e)
      show resOf _ _ [.tmp 2] = _
      simp only [go_sem, ↓reduceIte, Nat.reduceLT, Nat.reduceLeDiff, Nat.reduceAdd, Nat.reduceSub, Nat.reduceMul, Nat.reduceEqDiff, Nat.reduceBEq, Nat.reduceMod, Nat.reduceDiv, Int.reduceToNat, reduceCtorEq, Int.reduceLT, Int.reduceLE, Int.reduceGT, Int.reduceGE, Int.reduceAdd, Int.reduceSub, Int.reduceMul, Int.reduceNeg, Int.reduceEq, Int.reduceNe, Int.reduceBNe, Int.reduceBEq, Int.reduceDiv]

end Go.Proofs.Ytgdopacmdjcgfaa.VA
