/- gather: what an iterator tells, so many at most. -/
import Derived.Test.YtjfnmlheehbojaaCEach
import Derived.Test.YtjfnmlheehbojaaCItem3
namespace Go.Proofs.Ytjfnmlheehbojaa.VA
set_option maxRecDepth 10000
set_option linter.unusedSimpArgs false
set_option linter.unusedVariables false
set_option maxHeartbeats 4000000

def gathered (it : ItemD) (n : Nat) : List ItemD := if it.list = true then it.items.take n else []
theorem gathered_each (it : ItemD) (n : Nat) : (eachOf it).take (min (eachOf it).length n) = (gathered it n).map ItemD.av := by
  unfold eachOf gathered
  split
  · rw [List.length_map, ← List.map_take]
    congr 1
    by_cases h : n ≤ it.items.length
    · rw [Nat.min_eq_right h]
    · rw [Nat.min_eq_left (by omega), List.take_length, List.take_of_length_le (by omega)]
  · rfl
theorem snoc_get {α : Type} {l : List α} {n : Nat} {z : α} (h : l.length = n) : (l ++ [z])[n]? = some z := by subst h; simp
theorem snoc_set {α : Type} {l : List α} {n : Nat} {z x : α} (h : l.length = n) : (l ++ [z]).set n x = l ++ [x] := by subst h; simp
theorem c_gather (it : ItemD) (n : Nat) (h : it.ok) (hn : n ≤ 4294967296) : Contract Try.prog 48 [it.av, .int .i64 n] (.own false 3 ((gathered it n).map ItemD.av)) := by
  have hnum := h.num
  have hl := h.len
  unfold reachBytes at hl
  refine contract_of (C := cf 25 [2, 3, 4, 5, 6, 7, 11, 12, 13, 17] (fun _ => [])) (cf_ok _ _ _) (fn := Try.f48) Try.func48 (by kernel_rfl) rfl (by kernel_rfl) (by simp [cf]) (plain2 it.plain (.int _ _)) (by decide) (noCell (by kernel_rfl)) ?_
  simp only [go_sem, ↓reduceIte, Nat.reduceLT, Nat.reduceLeDiff, Nat.reduceAdd, Nat.reduceSub, Nat.reduceMul, Nat.reduceEqDiff, Nat.reduceBEq, Nat.reduceMod, Nat.reduceDiv, Int.reduceToNat, reduceCtorEq, Int.reduceLT, Int.reduceLE, Int.reduceGT, Int.reduceGE, Int.reduceAdd, Int.reduceSub, Int.reduceMul, Int.reduceNeg, Int.reduceEq, Int.reduceNe, Int.reduceBNe, Int.reduceBEq, Int.reduceDiv, ItemD.av_eq, ItemD.cells]
  refine ex_call (by have := c_Each it; rw [ItemD.av_eq] at this; exact this) ?_
  simp only [go_sem, ↓reduceIte, Nat.reduceLT, Nat.reduceLeDiff, Nat.reduceAdd, Nat.reduceSub, Nat.reduceMul, Nat.reduceEqDiff, Nat.reduceBEq, Nat.reduceMod, Nat.reduceDiv, Int.reduceToNat, reduceCtorEq, Int.reduceLT, Int.reduceLE, Int.reduceGT, Int.reduceGE, Int.reduceAdd, Int.reduceSub, Int.reduceMul, Int.reduceNeg, Int.reduceEq, Int.reduceNe, Int.reduceBNe, Int.reduceBEq, Int.reduceDiv, ItemD.cells]
  refine ⟨fun J v ⟨b, e, _⟩ => ⟨_, _, _, e⟩, ?_⟩
  have hel : (eachOf it).length ≤ 16777216 := by
    unfold eachOf
    split
    · rw [List.length_map]; exact hnum
    · exact Nat.zero_le _
  refine ex_range [3, 5] 13 (cloP 67 it.cells) (eachOf it) (fun i => [(3, [.int .i64 n]), (5, [.own false 3 ((eachOf it).take (min i n))])]) ⟨rfl, rfl, rfl, by decide, by decide, rfl, rfl, iter_each it h, by rw [Nat.zero_min]; rfl⟩ (fun i x hx => ?_) ?_
  · obtain ⟨hlist, y, ey, rfl⟩ : it.list = true ∧ ∃ y, it.items[i]? = some y ∧ y.av = x := by
      unfold eachOf at hx
      split at hx
      · rename_i hc
        rw [List.getElem?_map, Option.map_eq_some_iff] at hx
        exact ⟨hc, hx⟩
      · cases hx
    have hil : i < (eachOf it).length := (List.getElem?_eq_some_iff.1 hx).1
    have hlen : ((eachOf it).take (min i n)).length = min i n := by rw [List.length_take]; omega
    rw [y.av_eq]
    refine ⟨rfl, ?_⟩
    simp only [go_sem, ↓reduceIte, Nat.reduceLT, Nat.reduceLeDiff, Nat.reduceAdd, Nat.reduceSub, Nat.reduceMul, Nat.reduceEqDiff, Nat.reduceBEq, Nat.reduceMod, Nat.reduceDiv, Int.reduceToNat, reduceCtorEq, Int.reduceLT, Int.reduceLE, Int.reduceGT, Int.reduceGE, Int.reduceAdd, Int.reduceSub, Int.reduceMul, Int.reduceNeg, Int.reduceEq, Int.reduceNe, Int.reduceBNe, Int.reduceBEq, Int.reduceDiv, cellsI_len, hlen]
    refine ex_br (fun hc => ?_) (fun hc => ?_)
    · have hni : n ≤ i := by simp at hc; omega
      have e := gathered_each it n
      rw [Nat.min_eq_right (by omega)] at e
      rw [Nat.min_eq_right hni, e]
      simp only [go_sem, ↓reduceIte, Nat.reduceLT, Nat.reduceLeDiff, Nat.reduceAdd, Nat.reduceSub, Nat.reduceMul, Nat.reduceEqDiff, Nat.reduceBEq, Nat.reduceMod, Nat.reduceDiv, Int.reduceToNat, reduceCtorEq, Int.reduceLT, Int.reduceLE, Int.reduceGT, Int.reduceGE, Int.reduceAdd, Int.reduceSub, Int.reduceMul, Int.reduceNeg, Int.reduceEq, Int.reduceNe, Int.reduceBNe, Int.reduceBEq, Int.reduceDiv]
      refine finOne ?_ (fun _ e => by cases e)
      show resOf _ _ [.tmp 4] = _
      simp only [go_sem, ↓reduceIte, Nat.reduceLT, Nat.reduceLeDiff, Nat.reduceAdd, Nat.reduceSub, Nat.reduceMul, Nat.reduceEqDiff, Nat.reduceBEq, Nat.reduceMod, Nat.reduceDiv, Int.reduceToNat, reduceCtorEq, Int.reduceLT, Int.reduceLE, Int.reduceGT, Int.reduceGE, Int.reduceAdd, Int.reduceSub, Int.reduceMul, Int.reduceNeg, Int.reduceEq, Int.reduceNe, Int.reduceBNe, Int.reduceBEq, Int.reduceDiv]
    · have hni : i < n := by simp at hc; omega
      simp only [go_sem, ↓reduceIte, Nat.reduceLT, Nat.reduceLeDiff, Nat.reduceAdd, Nat.reduceSub, Nat.reduceMul, Nat.reduceEqDiff, Nat.reduceBEq, Nat.reduceMod, Nat.reduceDiv, Int.reduceToNat, reduceCtorEq, Int.reduceLT, Int.reduceLE, Int.reduceGT, Int.reduceGE, Int.reduceAdd, Int.reduceSub, Int.reduceMul, Int.reduceNeg, Int.reduceEq, Int.reduceNe, Int.reduceBNe, Int.reduceBEq, Int.reduceDiv]
      refine ex_draw [6, 7] [] (.quiet 0 (.quiet 1 (.quiet 2 (.one 3 (.one 4 (.quiet 5 (.unlock (.two 6 (.one 7 (.fin)) 7 (.one 6 (.fin)))))))))) (by kernel_rfl) ?_
      simp only [go_sem, ↓reduceIte, Nat.reduceLT, Nat.reduceLeDiff, Nat.reduceAdd, Nat.reduceSub, Nat.reduceMul, Nat.reduceEqDiff, Nat.reduceBEq, Nat.reduceMod, Nat.reduceDiv, Int.reduceToNat, reduceCtorEq, Int.reduceLT, Int.reduceLE, Int.reduceGT, Int.reduceGE, Int.reduceAdd, Int.reduceSub, Int.reduceMul, Int.reduceNeg, Int.reduceEq, Int.reduceNe, Int.reduceBNe, Int.reduceBEq, Int.reduceDiv, cellsI_len, hlen, ItemD.cells]
      repeat with_reducible refine And.intro (by first | omega | (simp only [List.length_cons, List.length_append, List.length_nil, List.length_map, List.length_take, List.length_drop, List.length_set]; omega)) ?_
      have hsn : (eachOf it).take (min i n) ++ [y.av] = (eachOf it).take (min (i + 1) n) := by
        rw [show min (i + 1) n = min i n + 1 by omega, List.take_add_one, show min i n = i by omega, hx]; rfl
      simp only [go_sem, ↓reduceIte, Nat.reduceLT, Nat.reduceLeDiff, Nat.reduceAdd, Nat.reduceSub, Nat.reduceMul, Nat.reduceEqDiff, Nat.reduceBEq, Nat.reduceMod, Nat.reduceDiv, Int.reduceToNat, reduceCtorEq, Int.reduceLT, Int.reduceLE, Int.reduceGT, Int.reduceGE, Int.reduceAdd, Int.reduceSub, Int.reduceMul, Int.reduceNeg, Int.reduceEq, Int.reduceNe, Int.reduceBNe, Int.reduceBEq, Int.reduceDiv, ex_ord_two, Int.toNat_natCast, snoc_get hlen, snoc_set hlen]
      rw [← hsn, y.av_eq]
      rfl
  · rw [gathered_each]
    simp only [go_sem, ↓reduceIte, Nat.reduceLT, Nat.reduceLeDiff, Nat.reduceAdd, Nat.reduceSub, Nat.reduceMul, Nat.reduceEqDiff, Nat.reduceBEq, Nat.reduceMod, Nat.reduceDiv, Int.reduceToNat, reduceCtorEq, Int.reduceLT, Int.reduceLE, Int.reduceGT, Int.reduceGE, Int.reduceAdd, Int.reduceSub, Int.reduceMul, Int.reduceNeg, Int.reduceEq, Int.reduceNe, Int.reduceBNe, Int.reduceBEq, Int.reduceDiv]
    refine finOne ?_ (fun _ e => by cases e)
    show resOf _ _ [.tmp 4] = _
    simp only [go_sem, ↓reduceIte, Nat.reduceLT, Nat.reduceLeDiff, Nat.reduceAdd, Nat.reduceSub, Nat.reduceMul, Nat.reduceEqDiff, Nat.reduceBEq, Nat.reduceMod, Nat.reduceDiv, Int.reduceToNat, reduceCtorEq, Int.reduceLT, Int.reduceLE, Int.reduceGT, Int.reduceGE, Int.reduceAdd, Int.reduceSub, Int.reduceMul, Int.reduceNeg, Int.reduceEq, Int.reduceNe, Int.reduceBNe, Int.reduceBEq, Int.reduceDiv]
end Go.Proofs.Ytjfnmlheehbojaa.VA
